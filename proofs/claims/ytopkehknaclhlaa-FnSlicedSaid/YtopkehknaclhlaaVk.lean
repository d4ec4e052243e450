/- Slicers. Conditions: the table is valid. (Printed by gen_vk.py.) -/
import Derived.Test.YtopkehknaclhlaaVj
import Derived.Test.YtopkehknaclhlaaSt
namespace Go.Proofs.Ytopkehknaclhlaa
open Go Go.RowKit

theorem flatN (zs : List Int) : zs.flatMap encN.cells = zs.map (Value.int .i64) := by
  induction zs with
  | nil => rfl
  | cons z zs ih => rw [List.flatMap_cons, ih, List.map_cons]; rfl
theorem OwnN.toI {w : World} {b : Nat} {v : Value} {zs : List Int} (h : OwnN w b v zs) : OwnI w b v zs := by
  have h : w.ownsRow b encN.E encN.k v zs.length (zs.flatMap encN.cells) := h
  rw [flatN] at h
  exact h
theorem OwnI.toN {w : World} {b : Nat} {v : Value} {zs : List Int} (h : OwnI w b v zs) : OwnN w b v zs := by
  show w.ownsRow b encN.E encN.k v zs.length (zs.flatMap encN.cells)
  rw [flatN]
  exact h

set_option maxRecDepth 100000 in
set_option maxHeartbeats 4000000 in
theorem IsModule_slicer (w : World) (s v : Value) (xs : List (Nat × Nat)) (zs : List Int) (ct : Int) (ho : OwnC w 0 s xs) (hv : OwnN w 0 v zs) (ht : TOk xs) (hl : zs.length = xs.length) :
    Calls Try.prog 121 #[.agg #[.int .i64 (6), .complex .f32 0 0, .complex .f32 0 0, .float .f32 0, .slice none 0 0, .int .i64 (0), .int .i64 (0), s, v, .int .i64 (ct), .int .i64 (0)]] w (RT w) := by
  obtain ⟨a, c, rfl⟩ := ho.form
  obtain ⟨a2, c2, rfl⟩ := hv.form
  have HO := hid ho
  have HV := hid hv
  have HT := hid ht
  have HL := hid hl
  clear ho hv ht hl
  have g0 : Chg (fun _ => False) w _ := ((Chg.refl (fun _ => False) w).alloc (.cells #[.int .i64 (6), .complex .f32 0 0, .complex .f32 0 0, .float .f32 0, .slice none 0 0, .int .i64 (0), .int .i64 (0), .slice a xs.length c, .slice a2 zs.length c2, .int .i64 (ct), .int .i64 (0)] 38)).alloc (.cells #[.int .i64 (6), .complex .f32 0 0, .complex .f32 0 0, .float .f32 0, .slice none 0 0, .int .i64 (0), .int .i64 (0), .slice a xs.length c, .slice a2 zs.length c2, .int .i64 (ct), .int .i64 (0)] 38)
  go_enter Try.func121, Try.ntmps121
  go_wp2_with fail
  refine (IsTable_calls _ _ _ xs zs (HO.out.chg g0 fun _ _ _ h => h) (HV.out.chg g0 fun _ _ _ h => h) HT.out HL.out).mono ?_
  rintro e w1 ⟨rfl, g1⟩
  have F1 := hid (g1.heap (heap_old (heap_new w _)) id)
  have F2 := hid (g1.heap (heap_new' (w := w.alloc _) (b := w.heap.size + 1) (by simp)) id)
  have k1 := cells_at F1.out
  have k2 := cells_at F2.out
  have f2 := frees_at F2.out
  have z1 := g1.size
  simp at z1
  have g01 := hid (g0.trans g1 fun _ _ h => h)
  clear g0 g1 HO HV HT HL
  go_wp2_with fail
  refine (isBare_zero _ 6).mono ?_
  rintro e w3 ⟨rfl, g3⟩
  go_wp2_with fail
  go_ret
  refine ⟨rfl, Chg.trans (T := fun k => k = w.heap.size + 1) g01.out (Chg.trans ?_ g3 fun _ _ h => h.elim) fun k hk e => by omega⟩
  repeat (first | (with_reducible exact Chg.refl _ _) | (with_reducible refine Chg.setCell ?_ ?_ _; rotate_left; exact .inl rfl))

/-- A slicer with its own table comes back. -/
def RSlc (w : World) (xs : List (Nat × Nat)) (zs : List Int) (e : Ending) (w' : World) : Prop :=
  ∃ a c a2 c2, e = .returned (.tuple #[.agg #[.int .i64 (6), .complex .f32 0 0, .complex .f32 0 0, .float .f32 0, .slice none 0 0, .int .i64 (0), .int .i64 (0), .slice a xs.length c, .slice a2 zs.length c2, .int .i64 (0), .int .i64 (0)], .bool true]) ∧ OwnC w' w.heap.size (.slice a xs.length c) xs ∧ OwnN w' w.heap.size (.slice a2 zs.length c2) zs ∧ Chg (fun _ => False) w w'
theorem RSlc.mk {w w1 W : World} {a a2 : Option Addr} {c c2 : Nat} {xs : List (Nat × Nat)} {zs : List Int} (o2 : OwnC w1 (w.heap.size + 2) (.slice a xs.length c) xs) (o3 : OwnN w1 (w.heap.size + 2) (.slice a2 zs.length c2) zs) (g : Chg (fun _ => False) w w1) (CR : Chg (fun k => k = w.heap.size + 1) w1 W) :
    RSlc w xs zs (.returned (.tuple #[.agg #[.int .i64 (6), .complex .f32 0 0, .complex .f32 0 0, .float .f32 0, .slice none 0 0, .int .i64 (0), .int .i64 (0), .slice a xs.length c, .slice a2 zs.length c2, .int .i64 (0), .int .i64 (0)], .bool true])) W :=
  ⟨a, c, a2, c2, rfl, (o2.chg CR fun k hk _ e => by omega).mono (by omega), OwnR.mono (OwnR.chg o3 CR fun k hk _ e => by omega) (by omega), g.trans CR fun k hk e => by omega⟩
set_option maxRecDepth 100000 in
set_option maxHeartbeats 4000000 in
theorem NewSlicer_calls (w : World) (s v : Value) (xs : List (Nat × Nat)) (zs : List Int) (ho : OwnC w 0 s xs) (hv : OwnN w 0 v zs) (ht : TOk xs) (hl : zs.length = xs.length) :
    Calls Try.prog 81 #[.agg #[s, v]] w (RSlc w xs zs) := by
  obtain ⟨a, c, rfl⟩ := ho.form
  obtain ⟨a2, c2, rfl⟩ := hv.form
  have n64 := ht.len
  have HO := hid ho
  have HV := hid hv
  have HT := hid ht
  have HL := hid hl
  clear ho hv ht hl
  have g0 : Chg (fun _ => False) w _ := ((Chg.refl (fun _ => False) w).alloc (.cells #[.slice a xs.length c, .slice a2 zs.length c2] 36)).alloc (.cells #[.int .i64 (0), .complex .f32 0 0, .complex .f32 0 0, .float .f32 0, .slice none 0 0, .int .i64 (0), .int .i64 (0), .slice none 0 0, .slice none 0 0, .int .i64 (0), .int .i64 (0)] 38)
  have z0 : ((w.alloc (.cells #[.slice a xs.length c, .slice a2 zs.length c2] 36)).alloc (.cells #[.int .i64 (0), .complex .f32 0 0, .complex .f32 0 0, .float .f32 0, .slice none 0 0, .int .i64 (0), .int .i64 (0), .slice none 0 0, .slice none 0 0, .int .i64 (0), .int .i64 (0)] 38)).heap.size = w.heap.size + 2 := by simp
  go_enter Try.func81, Try.ntmps81
  go_wp2_with fail
  refine (checked_yes _ 6 0 0 0 0 0 _ 0 0 _ _ 0 0 [] xs zs (by decide) (by omega) (by rw [HL.out]; omega) (OwnC.nil _ _) (HO.out.chg g0 fun _ _ _ h => h) (HV.out.toI.chg g0 fun _ _ _ h => h) (fun w' g' => IsModule_slicer w' _ _ xs zs 0 (HO.out.chg (g0.trans g' fun _ _ h => h) fun _ _ _ h => h) (HV.out.chg (g0.trans g' fun _ _ h => h) fun _ _ _ h => h) HT.out HL.out)).mono ?_
  rintro e w1 ⟨b1, d1, b2, d2, b3, d3, rfl, o1, o2, o3, m1, m2, m3, g1⟩
  obtain ⟨rfl, rfl⟩ := m1 rfl
  clear o1 m1 m2 m3
  have F1 := hid (g1.heap (heap_new' (w := w.alloc _) (b := w.heap.size + 1) (by simp)) id)
  have k1 := cells_at F1.out
  have f1 := frees_at F1.out
  have O2 := hid o2
  have O3 := hid o3.toN
  have g01 := hid (g0.trans g1 fun _ _ h => h)
  rw [z0] at O2 O3
  have z1 := g1.size
  rw [z0] at z1
  clear g0 g1 o2 o3 HO HV
  go_wp2_with fail
  refine bodyPost_ret (results_row_tmp (by rfl) _ _ _ (w.heap.size + 1) _ (.bool true) rfl (load_mod (heap_row11 F1.out _ _ _ _ _ _ _ _ _ _ _) rfl) rfl) rfl ?_
  refine RSlc.mk O2.out O3.out g01.out ?_
  repeat (first | (with_reducible exact Chg.refl _ _) | (with_reducible refine Chg.setCell ?_ ?_ _; rotate_left; exact .inl rfl))
end Go.Proofs.Ytopkehknaclhlaa
