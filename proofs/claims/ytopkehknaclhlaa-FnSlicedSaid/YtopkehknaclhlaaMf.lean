/- A bare module, holds, and the law on NewHold, walked. Conditions: as each says; the law: none. -/
import Derived.Test.YtopkehknaclhlaaCn
import Derived.Test.YtopkehknaclhlaaFr
namespace Go.Proofs.Ytopkehknaclhlaa
open Go Go.RowKit

set_option maxHeartbeats 400000 in
theorem isNoughts_zero (w : World) : Calls Try.prog 151 #[.complex .f32 0 0] w (fun e w' => e = .returned (.bool true) ∧ w = w') := by
  go_enter Try.func151, Try.ntmps151
  go_wp2_with (go_at_call 153; refine (isNought_calls _ 0).mono ?_; rintro e w' ⟨rfl, rfl⟩)
  go_ret
  exact ⟨rfl, rfl⟩

set_option maxHeartbeats 1000000 in
theorem isBare_zero (w : World) (k : Int) : Calls Try.prog 154 #[.agg #[.int .i64 (k), .complex .f32 0 0, .complex .f32 0 0, .float .f32 0, .slice none 0 0, .int .i64 (0), .int .i64 (0), .slice none 0 0, .slice none 0 0, .int .i64 (0), .int .i64 (0)]] w (RT w) := by
  go_enter Try.func154, Try.ntmps154
  go_wp2_with (first | (go_at_call 151; refine (isNoughts_zero _).mono ?_; rintro e w' ⟨rfl, rfl⟩) | (go_at_call 153; refine (isNought_calls _ 0).mono ?_; rintro e w' ⟨rfl, rfl⟩))
  go_ret
  exact ⟨rfl, (Chg.refl _ w).alloc _⟩

/-- False; new blocks alone. -/
def RFalse (w : World) (e : Ending) (w' : World) : Prop := e = .returned (.bool false) ∧ Chg (fun _ => False) w w'

set_option maxHeartbeats 2000000 in
theorem IsModule_hold (w : World) (s1 s2 : Nat) (ct lf : Int) (h1 : 1 ≤ ct) (h2 : ct ≤ 100) (h3 : 0 ≤ lf) (h4 : lf < ct) : Calls Try.prog 121 #[.agg #[.int .i64 (8), .complex .f32 0 0, .complex .f32 s1 s2, .float .f32 0, .slice none 0 0, .int .i64 (0), .int .i64 (0), .slice none 0 0, .slice none 0 0, .int .i64 (ct), .int .i64 (lf)]] w (RT w) := by
  go_enter Try.func121, Try.ntmps121
  go_wp2_with (go_at_call 154; refine (isBare_zero _ 8).mono ?_; rintro e w1 ⟨rfl, g1⟩)
  go_ret
  refine ⟨rfl, Chg.trans ?_ g1 fun _ _ h => h⟩
  repeat (first | (with_reducible exact Chg.refl _ _) | (with_reducible refine Chg.alloc ?_ _) | (with_reducible refine Chg.setCell ?_ ?_ _; rotate_left; exact .inr (by simp)))

set_option maxHeartbeats 2000000 in
theorem IsModule_hold_no (w : World) (ct : Int) (h : ¬ (1 ≤ ct ∧ ct ≤ 100)) : Calls Try.prog 121 #[.agg #[.int .i64 (8), .complex .f32 0 0, .complex .f32 0 0, .float .f32 0, .slice none 0 0, .int .i64 (0), .int .i64 (0), .slice none 0 0, .slice none 0 0, .int .i64 (ct), .int .i64 (0)]] w (RFalse w) := by
  by_cases h1 : 1 ≤ ct
  · have h2 : ¬ ct ≤ 100 := by omega
    clear h
    go_enter Try.func121, Try.ntmps121
    go_wp2_with fail
    go_ret
    refine ⟨rfl, ?_⟩
    repeat (first | (with_reducible exact Chg.refl _ _) | (with_reducible refine Chg.alloc ?_ _) | (with_reducible refine Chg.setCell ?_ ?_ _; rotate_left; exact .inr (by simp)))
  · clear h
    go_enter Try.func121, Try.ntmps121
    go_wp2_with fail
    go_ret
    refine ⟨rfl, ?_⟩
    repeat (first | (with_reducible exact Chg.refl _ _) | (with_reducible refine Chg.alloc ?_ _) | (with_reducible refine Chg.setCell ?_ ?_ _; rotate_left; exact .inr (by simp)))
end Go.Proofs.Ytopkehknaclhlaa

/- The test of rings: a valid ring is told as valid. Conditions: the ring is valid. -/
namespace Go.Proofs.Ytopkehknaclhlaa
open Go Go.RowKit

/-- A valid ring. -/
def OkRing (xs : List (Nat × Nat)) (p q : Nat) : Prop :=
  1 ≤ xs.length ∧ xs.length ≤ 16 ∧ p < xs.length ∧ q ≤ xs.length ∧ ∀ i, q ≤ i → i < xs.length → xs[(p + i) % xs.length]? = some (0, 0)

/-- What an own slice is, its length named. -/
theorem OwnC.rd {w : World} {base : Nat} {v : Value} {xs : List (Nat × Nat)} (h : OwnC w base v xs) {n : Nat} (hn : xs.length = n) :
    (v = .slice none 0 0 ∧ n = 0) ∨ ∃ g cap cur, v = .slice (some ⟨g, 0, none⟩) n cap ∧ base ≤ g ∧ w.heap[g]? = some (.cells cur 33 (0, 0)) ∧ n ≤ cap ∧ cap ≤ maxLen ∧ n ≤ cur.size ∧
      ∀ (k : Nat) (z : Nat × Nat), xs[k]? = some z → cur[k]? = some (cx z) := by
  rcases h.block with ⟨rfl, rfl⟩ | ⟨g, cap, cur, rfl, hg, hh, hc, hm, hcell⟩
  · exact .inl ⟨rfl, hn.symm⟩
  · subst hn
    refine .inr ⟨g, cap, cur, rfl, hg, hh, hc, hm, ?_, fun k z hz => ?_⟩
    · rcases Nat.lt_or_ge cur.size xs.length with h1 | h1
      · have h2 := hcell cur.size h1
        simp at h2
      · exact h1
    · have h1 := List.getElem?_eq_some_iff.1 hz
      rw [hcell k h1.1, h1.2]

theorem rem_cast (p k n : Nat) (h1 : p ≤ 1000000) (h2 : k ≤ 1000000) : IntKind.i64.wrap ((p : Int) + (k : Int)) = (p : Int) + (k : Int) ∧ IntKind.i64.wrap (Int.tmod ((p : Int) + (k : Int)) (n : Int)) = (((p + k) % n : Nat) : Int) ∧ Int.tmod ((p : Int) + (k : Int)) (n : Int) = (((p + k) % n : Nat) : Int) := by
  have e : Int.tmod ((p : Int) + (k : Int)) (n : Int) = (((p + k) % n : Nat) : Int) := by
    rw [show (p : Int) + (k : Int) = ((p + k : Nat) : Int) by omega]; rfl
  have hl : (p + k) % n ≤ p + k := Nat.mod_le _ _
  refine ⟨IntWalk.i64_in _ (by omega), ?_, e⟩
  rw [e]
  exact IntWalk.i64_in _ (by omega)

theorem tmod_cast (a n : Nat) : Int.tmod (a : Int) (n : Int) = ((a % n : Nat) : Int) := rfl

set_option maxHeartbeats 2000000 in
theorem IsRing_yes (w : World) (v : Value) (xs : List (Nat × Nat)) (p q : Nat) (ho : OwnC w 0 v xs) (hk : OkRing xs p q) :
    Calls Try.prog 119 #[.agg #[v, .int .i64 (p : Int), .int .i64 (q : Int)]] w (RT w) := by
  obtain ⟨n1, n2, hp, hq, hz⟩ := hk
  obtain ⟨n, hn⟩ : ∃ n, xs.length = n := ⟨_, rfl⟩
  rw [hn] at n1 n2 hp hq hz
  rcases ho.rd hn with ⟨rfl, h0⟩ | ⟨g, cap, cur, rfl, _, hh, hc, hm, _, hcell⟩
  · omega
  · have lg := heap_lt hh
    have HH := hid hh
    have HC := hid hcell
    have HZ := hid hz
    clear hh hcell hz ho hn
    have n1' : ¬ (n : Int) < 1 := by omega
    have n2' : ¬ (16 : Int) < (n : Int) := by omega
    have p1 : ¬ (p : Int) < 0 := by omega
    have p2 : ¬ (n : Int) ≤ (p : Int) := by omega
    have q1 : ¬ (q : Int) < 0 := by omega
    have q2 : ¬ (n : Int) < (q : Int) := by omega
    have nz : ¬ n = 0 := by omega
    go_enter Try.func119, Try.ntmps119
    go_wp2
    go_loopw [4] (fun i wr => ∃ (k m : Nat), q ≤ k ∧ k ≤ n ∧ i = .int .i64 (k : Int) ∧ Hid (wr = (w.alloc (.cells #[.slice (some ⟨g, 0, none⟩) n cap, .int .i64 (p : Int), .int .i64 (q : Int)] 27)).drewN m)) (fun i _ => n - (intOf i).toNat)
    case atStart => exact ⟨q, 0, by omega, by omega, rfl, hid rfl⟩
    case round =>
      obtain ⟨k, m, hk1, hk2, rfl, HW⟩ := hrel
      have hb : wr.heap[w.heap.size]? = some (.cells #[.slice (some ⟨g, 0, none⟩) n cap, .int .i64 (p : Int), .int .i64 (q : Int)] 27 (0, 0)) := by rw [HW.out]; exact heap_new w _
      have cb := cells_at hb
      clear hb
      by_cases hlt : k < n
      · have hlt' : (k : Int) < (n : Int) := by omega
        have hidx : (p + k) % n < n := Nat.mod_lt _ (by omega)
        have hcell : wr.cell? ⟨g, (p + k) % n, none⟩ = some (.complex .f32 0 0) := by
          rw [HW.out, World.cell?_drewN, cell_at (heap_old HH.out), HC.out _ _ (HZ.out k hk1 hlt)]; rfl
        obtain ⟨e1, e2, e3⟩ := rem_cast p k n (by omega) (by omega)
        generalize hx : (p + k) % n = idx at *
        have HX := hid hx
        clear hx
        have i0 : (0 : Int) ≤ ((idx : Nat) : Int) := by omega
        have i1 : ((idx : Nat) : Int) < (n : Int) := by omega
        go_wp2
        go_quiet ((go_at_call 151; exact Calls.quiet_of_same ((isNoughts_zero _).mono fun _ _ ⟨a, b⟩ => ⟨a, b.symm⟩)))
        clear e1 e2 e3
        go_wp2
        go_roundw
        case rel => exact ⟨k + 1, _, by omega, by omega, by go_num, hid (by rw [HW.out, World.drewN_drewN])⟩
        case measure => simp [intOf]; omega
      · have hlt' : ¬ (k : Int) < (n : Int) := by omega
        go_wp2
        go_ret
        refine ⟨rfl, ?_⟩
        rw [HW.out]
        exact ((Chg.refl _ w).alloc _).drewN _
end Go.Proofs.Ytopkehknaclhlaa

/- Rings by their items: the plain law. -/
namespace Go.Proofs.Ytopkehknaclhlaa
open Go Go.RowKit

/-- What a ring holds, the oldest first. -/
def items (xs : List (Nat × Nat)) (p q : Nat) : List (Nat × Nat) := (List.range q).map fun i => xs.getD ((p + i) % xs.length) (0, 0)

theorem md {p i n : Nat} (hp : p < n) (hi : i ≤ n) : (p + i) % n = if p + i < n then p + i else p + i - n := by
  split
  · exact Nat.mod_eq_of_lt (by omega)
  · rw [Nat.mod_eq_sub_mod (by omega)]
    exact Nat.mod_eq_of_lt (by omega)

theorem items_len (xs : List (Nat × Nat)) (p q : Nat) : (items xs p q).length = q := by simp [items]

theorem take_law {xs : List (Nat × Nat)} {p q n : Nat} (hn : xs.length = n) (h : OkRing xs p (q + 1)) :
    OkRing (xs.set p (0, 0)) ((p + 1) % n) q ∧ items xs p (q + 1) = xs.getD p (0, 0) :: items (xs.set p (0, 0)) ((p + 1) % n) q := by
  obtain ⟨h1, h2, h3, h4, h5⟩ := h
  subst hn
  have hp1 : (p + 1) % xs.length < xs.length := Nat.mod_lt _ (by omega)
  have key : ∀ i, i < xs.length → ((p + 1) % xs.length + i) % xs.length = (p + (i + 1)) % xs.length := fun i hi => by rw [md hp1 (by omega), md h3 (by omega), md h3 (show i + 1 ≤ xs.length by omega)]; split <;> split <;> split <;> omega
  refine ⟨⟨by simpa using h1, by simpa using h2, by simpa using hp1, by simp; omega, fun i hi hl => ?_⟩, ?_⟩
  · simp only [List.length_set] at hl ⊢
    rw [key i hl]
    by_cases e : (p + (i + 1)) % xs.length = p
    · rw [e]; simp [h3]
    · rw [List.getElem?_set_ne (fun he => e he.symm)]
      rcases Nat.lt_or_ge (i + 1) xs.length with h | h
      · exact h5 (i + 1) (by omega) h
      · exact absurd (show (p + (i + 1)) % xs.length = p by rw [show i + 1 = xs.length by omega, Nat.add_mod_right, Nat.mod_eq_of_lt h3]) e
  · simp only [items, List.range_succ_eq_map, List.map_cons, List.map_map, Nat.add_zero, List.length_set]
    rw [Nat.mod_eq_of_lt h3]
    congr 1
    refine List.map_congr_left fun i hi => ?_
    have hi := List.mem_range.1 hi
    simp only [Function.comp_apply, Nat.succ_eq_add_one]
    rw [key i (by omega)]
    have e : (p + (i + 1)) % xs.length ≠ p := by rw [md h3 (by omega)]; split <;> omega
    simp [List.getD, List.getElem?_set_ne (Ne.symm e)]

theorem push_law {xs : List (Nat × Nat)} {p q n : Nat} (z : Nat × Nat) (hn : xs.length = n) (h : OkRing xs p q) (hq : q < n) :
    OkRing (xs.set ((p + q) % n) z) p (q + 1) ∧ items (xs.set ((p + q) % n) z) p (q + 1) = items xs p q ++ [z] := by
  obtain ⟨h1, h2, h3, h4, h5⟩ := h
  subst hn
  have hlt : (p + q) % xs.length < xs.length := Nat.mod_lt _ (by omega)
  have key : ∀ i, i < xs.length → i ≠ q → (p + q) % xs.length ≠ (p + i) % xs.length := fun i hi hne => by rw [md h3 (by omega), md h3 (by omega)]; split <;> split <;> omega
  refine ⟨⟨by simpa using h1, by simpa using h2, by simpa using h3, by simp; omega, fun i hi hl => ?_⟩, ?_⟩
  · simp only [List.length_set] at hl ⊢
    rw [List.getElem?_set_ne (key i hl (by omega))]
    exact h5 i (by omega) hl
  · simp only [items, List.range_succ, List.map_append, List.map_cons, List.map_nil, List.length_set]
    congr 1
    · refine List.map_congr_left fun i hi => ?_
      have hi := List.mem_range.1 hi
      simp [List.getD, List.getElem?_set_ne (key i (by omega) (by omega))]
    · simp [List.getD, hlt]

/-- A ring's value that is valid and holds these items; room for n. -/
def RgOk (w : World) (base : Nat) (v : Value) (n : Nat) (is : List (Nat × Nat)) : Prop :=
  ∃ g c p xs, v = .agg #[.slice (some ⟨g, 0, none⟩) n c, .int .i64 ((p : Nat) : Int), .int .i64 ((is.length : Nat) : Int)] ∧ xs.length = n ∧ OwnC w base (.slice (some ⟨g, 0, none⟩) n c) xs ∧ OkRing xs p is.length ∧ items xs p is.length = is

theorem RgOk.chg {S : Nat → Prop} {w w' : World} {base n : Nat} {v : Value} {is : List (Nat × Nat)} (h : RgOk w base v n is) (g : Chg S w w') (hS : ∀ n, base ≤ n → n < w.heap.size → ¬ S n) : RgOk w' base v n is := by
  obtain ⟨a, c, p, xs, h1, h2, h3, h4⟩ := h
  exact ⟨a, c, p, xs, h1, h2, h3.chg g hS, h4⟩

theorem RgOk.mono {w : World} {b b' n : Nat} {v : Value} {is : List (Nat × Nat)} (h : RgOk w b v n is) (hb : b' ≤ b) : RgOk w b' v n is := by
  obtain ⟨a, c, p, xs, h1, h2, h3, h4⟩ := h
  exact ⟨a, c, p, xs, h1, h2, h3.mono hb, h4⟩

/-- A ring comes back with a sample. -/
def RTk (w : World) (n : Nat) (z : Nat × Nat) (is : List (Nat × Nat)) (e : Ending) (w' : World) : Prop :=
  ∃ v, e = .returned (.tuple #[v, .complex .f32 z.1 z.2]) ∧ RgOk w' w.heap.size v n is ∧ Chg (fun _ => False) w w'
/-- .. and true. -/
def RTkT (w : World) (n : Nat) (z : Nat × Nat) (is : List (Nat × Nat)) (e : Ending) (w' : World) : Prop :=
  ∃ v, e = .returned (.tuple #[v, .complex .f32 z.1 z.2, .bool true]) ∧ RgOk w' w.heap.size v n is ∧ Chg (fun _ => False) w w'

/-- A slice's element is written. -/
theorem OwnC.put {w : World} {b g n c : Nat} {xs : List (Nat × Nat)} (h : OwnC w b (.slice (some ⟨g, 0, none⟩) n c) xs) (k : Nat) (_hk : k < xs.length) (z : Nat × Nat) : OwnC (w.setCell ⟨g, k, none⟩ (cx z)) b (.slice (some ⟨g, 0, none⟩) n c) (xs.set k z) := by
  obtain ⟨h1, h2⟩ := h
  rcases h2 with ⟨h2, _⟩ | ⟨g', cap, cur, hv, hb, hh, hc, hm, hs, ht⟩
  · simp at h2
  · simp at hv
    obtain ⟨rfl, rfl, rfl⟩ := hv
    refine ⟨by simp, .inr ⟨g, c, cur.setIfInBounds k (cx z), by simp, hb, heap_set hh, by simpa using hc, hm, by simpa using hs, ?_⟩⟩
    rw [Array.toList_setIfInBounds, List.take_set, List.length_set, ht, List.map_set]
end Go.Proofs.Ytopkehknaclhlaa
