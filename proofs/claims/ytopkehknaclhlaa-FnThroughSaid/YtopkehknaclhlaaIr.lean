/- The test of rings: a valid ring is told as valid. Conditions: the ring is valid. -/
import Derived.Test.YtopkehknaclhlaaHo
namespace Go.Proofs.Ytopkehknaclhlaa
open Go Go.RowKit

/-- A valid ring. -/
def OkRing (xs : List (Nat × Nat)) (p q : Nat) : Prop :=
  1 ≤ xs.length ∧ xs.length ≤ 16 ∧ p < xs.length ∧ q ≤ xs.length ∧ ∀ i, q ≤ i → i < xs.length → xs[(p + i) % xs.length]? = some (0, 0)

/-- What an own slice is, its length named. -/
theorem OwnC.rd {w : World} {base : Nat} {v : Value} {xs : List (Nat × Nat)} (h : OwnC w base v xs) {n : Nat} (hn : xs.length = n) :
    (v = .slice none 0 0 ∧ n = 0) ∨ ∃ g cap cur, v = .slice (some ⟨g, 0, none⟩) n cap ∧ base ≤ g ∧ w.heap[g]? = some (.cells cur 33 (0, 0)) ∧ n ≤ cap ∧ cap ≤ maxLen ∧ n ≤ cur.size ∧
      ∀ (k : Nat) (z : Nat × Nat), xs[k]? = some z → cur[k]? = some (cx z) := by
  rcases h.block with ⟨rfl, rfl⟩ | ⟨g, cap, cur, rfl, hg, hh, hc, hm, hcell⟩
  · exact .inl ⟨rfl, hn.symm⟩
  · subst hn
    refine .inr ⟨g, cap, cur, rfl, hg, hh, hc, hm, ?_, fun k z hz => ?_⟩
    · rcases Nat.lt_or_ge cur.size xs.length with h1 | h1
      · have h2 := hcell cur.size h1
        simp at h2
      · exact h1
    · have h1 := List.getElem?_eq_some_iff.1 hz
      rw [hcell k h1.1, h1.2]

theorem rem_cast (p k n : Nat) (h1 : p ≤ 1000000) (h2 : k ≤ 1000000) : IntKind.i64.wrap ((p : Int) + (k : Int)) = (p : Int) + (k : Int) ∧ IntKind.i64.wrap (Int.tmod ((p : Int) + (k : Int)) (n : Int)) = (((p + k) % n : Nat) : Int) ∧ Int.tmod ((p : Int) + (k : Int)) (n : Int) = (((p + k) % n : Nat) : Int) := by
  have e : Int.tmod ((p : Int) + (k : Int)) (n : Int) = (((p + k) % n : Nat) : Int) := by
    rw [show (p : Int) + (k : Int) = ((p + k : Nat) : Int) by omega]; rfl
  have hl : (p + k) % n ≤ p + k := Nat.mod_le _ _
  refine ⟨IntWalk.i64_in _ (by omega), ?_, e⟩
  rw [e]
  exact IntWalk.i64_in _ (by omega)

theorem tmod_cast (a n : Nat) : Int.tmod (a : Int) (n : Int) = ((a % n : Nat) : Int) := rfl

set_option maxHeartbeats 2000000 in
theorem IsRing_yes (w : World) (v : Value) (xs : List (Nat × Nat)) (p q : Nat) (ho : OwnC w 0 v xs) (hk : OkRing xs p q) :
    Calls Try.prog 119 #[.agg #[v, .int .i64 (p : Int), .int .i64 (q : Int)]] w (RT w) := by
  obtain ⟨n1, n2, hp, hq, hz⟩ := hk
  obtain ⟨n, hn⟩ : ∃ n, xs.length = n := ⟨_, rfl⟩
  rw [hn] at n1 n2 hp hq hz
  rcases ho.rd hn with ⟨rfl, h0⟩ | ⟨g, cap, cur, rfl, _, hh, hc, hm, _, hcell⟩
  · omega
  · have lg := heap_lt hh
    have HH := hid hh
    have HC := hid hcell
    have HZ := hid hz
    clear hh hcell hz ho hn
    have n1' : ¬ (n : Int) < 1 := by omega
    have n2' : ¬ (16 : Int) < (n : Int) := by omega
    have p1 : ¬ (p : Int) < 0 := by omega
    have p2 : ¬ (n : Int) ≤ (p : Int) := by omega
    have q1 : ¬ (q : Int) < 0 := by omega
    have q2 : ¬ (n : Int) < (q : Int) := by omega
    have nz : ¬ n = 0 := by omega
    go_enter Try.func119, Try.ntmps119
    go_wp2
    go_loopw [4] (fun i wr => ∃ (k m : Nat), q ≤ k ∧ k ≤ n ∧ i = .int .i64 (k : Int) ∧ Hid (wr = (w.alloc (.cells #[.slice (some ⟨g, 0, none⟩) n cap, .int .i64 (p : Int), .int .i64 (q : Int)] 27)).drewN m)) (fun i _ => n - (intOf i).toNat)
    case atStart => exact ⟨q, 0, by omega, by omega, rfl, hid rfl⟩
    case round =>
      obtain ⟨k, m, hk1, hk2, rfl, HW⟩ := hrel
      have hb : wr.heap[w.heap.size]? = some (.cells #[.slice (some ⟨g, 0, none⟩) n cap, .int .i64 (p : Int), .int .i64 (q : Int)] 27 (0, 0)) := by rw [HW.out]; exact heap_new w _
      have cb := cells_at hb
      clear hb
      by_cases hlt : k < n
      · have hlt' : (k : Int) < (n : Int) := by omega
        have hidx : (p + k) % n < n := Nat.mod_lt _ (by omega)
        have hcell : wr.cell? ⟨g, (p + k) % n, none⟩ = some (.complex .f32 0 0) := by
          rw [HW.out, World.cell?_drewN, cell_at (heap_old HH.out), HC.out _ _ (HZ.out k hk1 hlt)]; rfl
        obtain ⟨e1, e2, e3⟩ := rem_cast p k n (by omega) (by omega)
        generalize hx : (p + k) % n = idx at *
        have HX := hid hx
        clear hx
        have i0 : (0 : Int) ≤ ((idx : Nat) : Int) := by omega
        have i1 : ((idx : Nat) : Int) < (n : Int) := by omega
        go_wp2
        go_quiet ((go_at_call 151; exact Calls.quiet_of_same ((isNoughts_zero _).mono fun _ _ ⟨a, b⟩ => ⟨a, b.symm⟩)))
        clear e1 e2 e3
        go_wp2
        go_roundw
        case rel => exact ⟨k + 1, _, by omega, by omega, by go_num, hid (by rw [HW.out, World.drewN_drewN])⟩
        case measure => simp [intOf]; omega
      · have hlt' : ¬ (k : Int) < (n : Int) := by omega
        go_wp2
        go_ret
        refine ⟨rfl, ?_⟩
        rw [HW.out]
        exact ((Chg.refl _ w).alloc _).drewN _
end Go.Proofs.Ytopkehknaclhlaa
