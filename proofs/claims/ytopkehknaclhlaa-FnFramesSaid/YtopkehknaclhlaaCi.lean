/- Copies of slices of ints: what 'slices.Clone' hands back reads as what was given and is new. Conditions: at most 2^20 elements. -/
import Derived.Test.YtopkehknaclhlaaCl
namespace Go.Proofs.Ytopkehknaclhlaa
open Go Go.RowKit

theorem info3 : (Try.prog.info? 3).map (fun i => (i.zero, i.size, i.bytes)) = some (some (.int .i64 0), 1, 8) := by kernel_rfl

/-- A slice that stands at the head of a block of its own (or is nil) and reads as the list. -/
def OwnI (w : World) (base : Nat) (v : Value) (xs : List Int) : Prop := w.ownsRow base 3 1 v xs.length (xs.map (Value.int .i64))

theorem OwnI.chg {S : Nat → Prop} {w w' : World} {base : Nat} {v : Value} {xs : List Int} (h : OwnI w base v xs) (g : Chg S w w') (hS : ∀ n, base ≤ n → n < w.heap.size → ¬ S n) : OwnI w' base v xs := by
  obtain ⟨h1, h2⟩ := h
  refine ⟨h1, ?_⟩
  rcases h2 with h2 | ⟨b, cap, cur, hv, hb, hh, r⟩
  · exact .inl h2
  · exact .inr ⟨b, cap, cur, hv, hb, g.heap hh (hS b hb (heap_lt hh)), r⟩

theorem OwnI.nil (w : World) (base : Nat) : OwnI w base (.slice none 0 0) [] := World.ownsRow_nil w base _ _

/-- The block. -/
theorem OwnI.block {w : World} {base : Nat} {v : Value} {xs : List Int} (h : OwnI w base v xs) :
    (v = .slice none 0 0 ∧ xs = []) ∨ ∃ g cap cur, v = .slice (some ⟨g, 0, none⟩) xs.length cap ∧ base ≤ g ∧ w.heap[g]? = some (.cells cur 3 (0, 0)) ∧ xs.length ≤ cap ∧ cap ≤ maxLen ∧
      ∀ k (hk : k < xs.length), cur[k]? = some (.int .i64 xs[k]) := by
  obtain ⟨_, h2⟩ := h
  rcases h2 with ⟨rfl, hn⟩ | ⟨g, cap, cur, hv, hb, hh, hc, hm, hs, ht⟩
  · exact .inl ⟨rfl, List.eq_nil_of_length_eq_zero hn⟩
  · refine .inr ⟨g, cap, cur, hv, hb, hh, hc, hm, fun k hk => ?_⟩
    have h := congrArg (fun l => l[k]?) ht
    simp only [Nat.mul_one] at h
    rw [List.getElem?_take_of_lt hk] at h
    simpa [hk] using h

/-- A copy comes back: new blocks alone. -/
def RCloneI (w : World) (v : Value) (xs : List Int) (e : Ending) (w' : World) : Prop :=
  ∃ a' c', e = .returned (.slice a' xs.length c') ∧ OwnI w' w.heap.size (.slice a' xs.length c') xs ∧ (v = .slice none 0 0 → a' = none ∧ c' = 0) ∧ Chg (fun _ => False) w w'

set_option maxHeartbeats 400000 in
theorem CloneI_calls (w : World) (v : Value) (xs : List Int) (hx : xs.length ≤ 1048576) (ho : OwnI w 0 v xs) : Calls Try.prog 185 #[v] w (RCloneI w v xs) := by
  have hnil := fun (w : World) (a : Option Addr) (l c : Nat) => Lib.run_eql_slice_nil (P := Try.prog) w 34 3 a l c 0 0 Try.underlying34
  rcases ho.block with ⟨rfl, rfl⟩ | ⟨g, cap, cur, rfl, hg, hh, hc, hm, hcell⟩
  · go_enter Try.func185, Try.ntmps185
    go_wp2
    go_ret
    exact ⟨none, 0, rfl, OwnI.nil _ _, fun _ => ⟨rfl, rfl⟩, Chg.refl _ w⟩
  · have HH := hid hh
    have HO := hid ho
    have HC := hid hcell
    clear hh ho hcell
    obtain ⟨i, hi, hz, hs, hby⟩ := info_parts info3
    go_enter Try.func185, Try.ntmps185
    have hown : (w.alloc (.cells #[] 3)).ownsRow w.heap.size 3 1 (.slice (some ⟨w.heap.size, 0, none⟩) 0 0) 0 [] := World.ownsRow_lit w #[] 0 (Nat.le_refl _) (by omega) rfl
    have hcells : ∀ j u, (xs.map (Value.int .i64))[j]? = some u → (w.alloc (.cells #[] 3)).cell? ((⟨g, 0, none⟩ : Addr).add j) = some u := fun j u hu => by
      rw [Addr.add_lit, Nat.zero_add]
      have hj : j < xs.length := by
        rcases Nat.lt_or_ge j xs.length with h | h
        · exact h
        · simp [List.getElem?_eq_none (l := xs.map (Value.int .i64)) (by simpa using h)] at hu
      rw [cell_at (heap_old HH.out), HC.out j hj]
      simpa [hj] using hu
    have HN := hid hcells
    have HW := hid hown
    clear hcells hown
    go_wp2_with (at_builtin; refine wpList_append_own _ rfl _ _ 34 rfl w.heap.size 3 i (.int .i64 0) 1 8 Try.underlying34 hi hz hs hby rfl (by decide) _ 0 _ rfl HW.out ⟨g, 0, none⟩ xs.length cap (xs.map (Value.int .i64)) rfl (by simp) HN.out ?c1 ?c2 ?c3 ?c4 ?_)
    case c1 => intro u hu; simp at hu; obtain ⟨a, _, rfl⟩ := hu; rfl
    case c2 => unfold maxLen; omega
    case c3 => omega
    case c4 => simp
    intro v' w' hown' hgrow hnilv
    obtain ⟨a', c', hv'⟩ : ∃ a' c', v' = .slice a' xs.length c' := by
      rcases hown'.2 with ⟨rfl, hn⟩ | ⟨b, cap, cur, rfl, _⟩
      · exact ⟨none, 0, by rw [show xs.length = 0 by omega]⟩
      · exact ⟨_, _, rfl⟩
    subst hv'
    go_wp2
    go_ret
    refine ⟨a', c', rfl, ?_, ?_, ?_⟩
    · simpa [OwnI] using hown'
    · intro h; cases h
    · exact ((Chg.refl _ w).alloc _).trans (Chg.of_grown (S := fun n => n = w.heap.size) hgrow (fun n hn _ => by simpa [Value.ownBlock] using hn)) (fun n hn e => by omega)
end Go.Proofs.Ytopkehknaclhlaa
