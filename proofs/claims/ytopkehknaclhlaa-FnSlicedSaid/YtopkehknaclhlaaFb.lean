/- A frame is found: the index of the first one that is equal. Conditions: at most 2^20 frames. -/
import Derived.Test.YtopkehknaclhlaaFa
namespace Go.Proofs.Ytopkehknaclhlaa
open Go Go.RowKit

/-- The index of the first frame that is equal; -1 if there is none. -/
def IdxF (fs : List Fr8) (f : Fr8) (r : Int) : Prop :=
  (r = -1 ∧ ∀ g ∈ fs, eqFr g f = false) ∨ (∃ i : Nat, ∃ h : i < fs.length, r = (i : Int) ∧ eqFr fs[i] f = true ∧ ∀ j (hj : j < i), eqFr (fs[j]'(by omega)) f = false)
def RIdxF (w : World) (fs : List Fr8) (f : Fr8) (e : Ending) (w' : World) : Prop := ∃ r : Int, IdxF fs f r ∧ -1 ≤ r ∧ r < fs.length ∧ e = .returned (.int .i64 r) ∧ Chg (fun _ => False) w w'

theorem closure_calls (w : World) (g f : Fr8) (b : Nat) (hb : w.heap[b]? = some (.cells (FA f) 59 (0, 0))) :
    Calls Try.prog 101 #[.agg (FA g), .pointer (some ⟨b, 0, none⟩)] w (fun e w' => e = .returned (.bool (eqFr g f)) ∧ Chg (fun _ => False) w w') := by
  have kb := cells_at (heap_old (o' := .cells (FA g) 59) hb)
  have kb' := cells_at hb
  clear hb
  go_enter Try.func101, Try.ntmps101
  go_wp2_with fail
  refine (EqualFrames_calls _ g f).mono ?_
  rintro e w1 ⟨rfl, g1⟩
  go_wp2_with fail
  go_ret
  exact ⟨rfl, ((Chg.refl (fun _ => False) w).alloc _).trans g1 fun _ _ h => h⟩

/-- A frame of a list, as cells. -/
theorem OwnF.frame {w : World} {base n : Nat} {v : Value} {fs : List Fr8} (h : OwnF w base v fs) (hl : fs.length = n) {k : Nat} (hk : k < n) : ∃ g c, v = .slice (some ⟨g, 0, none⟩) n c ∧ base ≤ g ∧ g < w.heap.size ∧ n ≤ c ∧ ∃ f, fs[k]? = some f ∧ ∀ j, j < 8 → w.cell? ⟨g, k * 8 + j, none⟩ = (FA f)[j]? := by
  obtain ⟨g, c, cur, hv, hb, hg, hc, hh, hs, hcell⟩ := h.row hl (by omega)
  refine ⟨g, c, hv, hb, hg, hc, fs[k]'(by omega), by simp [hl, hk], fun j hj => ?_⟩
  rw [cell_at hh]
  have e := hcell k j hk hj
  rw [show encF.k = 8 from rfl] at e
  rw [e]
  show (FA (fs[k]'(by omega))).toList[j]? = _
  rw [Array.getElem?_toList]

set_option maxRecDepth 100000 in
set_option maxHeartbeats 2000000 in
theorem IndexFunc_frames (w : World) (fs : List Fr8) (f : Fr8) (v : Value) (b : Nat) (hl : fs.length ≤ 1048576) (ho : OwnF w 0 v fs) (hb : w.heap[b]? = some (.cells (FA f) 59 (0, 0))) :
    Calls Try.prog 100 #[v, .func (Fn.func 101) #[] #[.pointer (some ⟨b, 0, none⟩)]] w (RIdxF w fs f) := by
  obtain ⟨a, c, rfl⟩ := ho.form
  obtain ⟨n, hn⟩ : ∃ n, fs.length = n := ⟨_, rfl⟩
  have HN := hid hn
  have HO := hid ho
  have HB := hid hb
  rw [hn] at hl ⊢
  simp only [hn] at HO
  clear hn ho hb
  go_enter Try.func100, Try.ntmps100
  go_wp2_with fail
  go_loopw [8] (fun i wr => ∃ k : Nat, k ≤ n ∧ i = .int .i64 (k : Int) ∧ Hid (∀ j (hj : j < k) (hj2 : j < fs.length), eqFr fs[j] f = false) ∧ Hid (OwnF wr 0 (.slice a n c) fs) ∧ Hid (wr.heap[b]? = some (.cells (FA f) 59 (0, 0))) ∧ Hid (Chg (fun _ => False) w wr)) (fun i _ => n - (intOf i).toNat)
  case atStart => exact ⟨0, by omega, rfl, hid (fun j hj => by omega), HO, HB, hid (Chg.refl _ w)⟩
  case round =>
    obtain ⟨k, hk, rfl, HE, HO, HB, G⟩ := hrel
    by_cases hlt : k < n
    · have hlt' : (k : Int) < (n : Int) := by omega
      obtain ⟨g, c', hv, hg0, hg1, hgc, x, hxk, hcells⟩ := HO.out.frame HN.out hlt
      simp at hv
      obtain ⟨rfl, rfl⟩ := hv
      have HX := hid hxk
      have c0 := hcells 0 (by omega)
      have c1 := hcells 1 (by omega)
      have c2 := hcells 2 (by omega)
      have c3 := hcells 3 (by omega)
      have c4 := hcells 4 (by omega)
      have c5 := hcells 5 (by omega)
      have c6 := hcells 6 (by omega)
      have c7 := hcells 7 (by omega)
      simp only [Nat.add_zero] at c0
      clear hcells hxk
      have hc := closure_calls wr x f b HB.out
      have HXK := hid (show ∀ h : k < fs.length, fs[k] = x from fun h => by have := HX.out; rw [List.getElem?_eq_getElem h] at this; exact Option.some.inj this)
      cases he : eqFr x f
      · rw [he] at hc
        have HC := hid hc
        have HE2 := hid (show ∀ j (hj : j < k + 1) (hj2 : j < fs.length), eqFr fs[j] f = false from fun j hj hj2 => by
          rcases (by omega : j < k ∨ j = k) with h | rfl
          · exact HE.out j h hj2
          · rw [HXK.out hj2]; exact he)
        clear hc he HE
        go_wp2_with fail
        refine HC.out.mono ?_
        rintro e w1 ⟨rfl, g1⟩
        have HO1 := hid (HO.out.chg g1 fun _ _ _ h => h)
        have HB1 := hid (g1.heap HB.out id)
        have G1 := hid (G.out.trans g1 fun _ _ h => h)
        clear c0 c1 c2 c3 c4 c5 c6 c7 HO HB G g1 HC
        go_wp2_with fail
        go_roundw
        case rel => exact ⟨k + 1, by omega, by go_num, HE2, HO1, HB1, G1⟩
        case measure => simp [intOf]; omega
      · rw [he] at hc
        have HC := hid hc
        have HE2 := hid he
        clear hc he
        go_wp2_with fail
        refine HC.out.mono ?_
        rintro e w1 ⟨rfl, g1⟩
        go_wp2_with fail
        go_ret
        have hk2 : k < fs.length := by have := HN.out; omega
        exact ⟨k, .inr ⟨k, hk2, rfl, by rw [HXK.out hk2]; exact HE2.out, fun j hj => HE.out j hj (by omega)⟩, by omega, by have := HN.out; omega, rfl, G.out.trans g1 fun _ _ h => h⟩
    · obtain rfl : k = n := by omega
      have hlt' : ¬ (k : Int) < (k : Int) := by omega
      go_wp2
      go_ret
      refine ⟨-1, .inl ⟨rfl, fun g hg => ?_⟩, by omega, by omega, rfl, G.out⟩
      obtain ⟨j, hj, rfl⟩ := List.mem_iff_getElem.mp hg
      exact HE.out j (by have := HN.out; omega) hj

set_option maxHeartbeats 1000000 in
theorem FindFrame_calls (w : World) (fs : List Fr8) (f : Fr8) (v : Value) (hl : fs.length ≤ 1048576) (ho : OwnF w 0 v fs) : Calls Try.prog 47 #[v, .agg (FA f)] w (RIdxF w fs f) := by
  obtain ⟨a, c, rfl⟩ := ho.form
  have HO := hid (ho.chg ((Chg.refl (fun _ => False) w).alloc (.cells (FA f) 59)) fun _ _ _ h => h)
  have HB := hid (heap_new w (.cells (FA f) 59))
  clear ho
  go_enter Try.func47, Try.ntmps47
  go_wp2_with fail
  refine (IndexFunc_frames _ fs f _ w.heap.size hl HO.out HB.out).mono ?_
  rintro e w1 ⟨r, hr, r1, r2, rfl, g1⟩
  go_wp2_with fail
  go_ret
  exact ⟨r, hr, r1, r2, rfl, ((Chg.refl (fun _ => False) w).alloc _).trans g1 fun _ _ h => h⟩
end Go.Proofs.Ytopkehknaclhlaa
