/- Products of points that are told, and mixers: tested, stepped, reset, told; a byte of a code. Conditions: as each says. -/
import Derived.Test.YtopkehknaclhlaaSt
import Derived.Test.YtopkehknaclhlaaHo
import Derived.Test.YtopkehknaclhlaaPow
import Derived.Test.YtopkehknaclhlaaFo
namespace Go.Proofs.Ytopkehknaclhlaa
open Go Go.RowKit

/-- The product of two points, where no operation leaves its result open. -/
def mulP (a1 a2 b1 b2 : Nat) : Option (Nat × Nat) :=
  (floatToFloatBits .f32 a1 .f64).bind fun p => (floatToFloatBits .f32 a2 .f64).bind fun q => (floatToFloatBits .f32 b1 .f64).bind fun u => (floatToFloatBits .f32 b2 .f64).bind fun v =>
  (floatBits .mul .f64 p u).bind fun pu => (floatBits .mul .f64 q v).bind fun qv => (floatBits .mul .f64 p v).bind fun pv => (floatBits .mul .f64 q u).bind fun qu =>
  (floatBits .sub .f64 pu qv).bind fun d => (floatToFloatBits .f64 d .f32).bind fun c => (floatBits .add .f64 pv qu).bind fun e => (floatToFloatBits .f64 e .f32).bind fun f => some (c, f)

theorem mulP_parts {a1 a2 b1 b2 c1 c2 : Nat} (h : mulP a1 a2 b1 b2 = some (c1, c2)) : ∃ p q u v pu qv pv qu d e,
    floatToFloatBits .f32 a1 .f64 = some p ∧ floatToFloatBits .f32 a2 .f64 = some q ∧ floatToFloatBits .f32 b1 .f64 = some u ∧ floatToFloatBits .f32 b2 .f64 = some v ∧
    floatBits .mul .f64 p u = some pu ∧ floatBits .mul .f64 q v = some qv ∧ floatBits .mul .f64 p v = some pv ∧ floatBits .mul .f64 q u = some qu ∧
    floatBits .sub .f64 pu qv = some d ∧ floatToFloatBits .f64 d .f32 = some c1 ∧ floatBits .add .f64 pv qu = some e ∧ floatToFloatBits .f64 e .f32 = some c2 := by
  unfold mulP at h
  simp only [Option.bind_eq_some_iff] at h
  obtain ⟨p, hp, q, hq, u, hu, v, hv, pu, hpu, qv, hqv, pv, hpv, qu, hqu, d, hd, c, hc, e, he, f, hf, h⟩ := h
  simp only [Option.some.injEq, Prod.mk.injEq] at h
  obtain ⟨rfl, rfl⟩ := h
  exact ⟨p, q, u, v, pu, qv, pv, qu, d, e, hp, hq, hu, hv, hpu, hqv, hpv, hqu, hd, hc, he, hf⟩

set_option maxHeartbeats 1000000 in
theorem MultiplyPoints_calls (w : World) (a1 a2 b1 b2 c1 c2 : Nat) (h : mulP a1 a2 b1 b2 = some (c1, c2)) :
    Calls Try.prog 69 #[.complex .f32 a1 a2, .complex .f32 b1 b2] w (fun e w' => e = .returned (.complex .f32 c1 c2) ∧ w = w') := by
  obtain ⟨p, q, u, v, pu, qv, pv, qu, d, e, hp, hq, hu, hv, hpu, hqv, hpv, hqu, hd, hc, he, hf⟩ := mulP_parts h
  clear h
  have p1 := fun w => fconv_of hp w
  have p2 := fconvAsk_of hp
  have q1 := fun w => fconv_of hq w
  have q2 := fconvAsk_of hq
  have u1 := fun w => fconv_of hu w
  have u2 := fconvAsk_of hu
  have v1 := fun w => fconv_of hv w
  have v2 := fconvAsk_of hv
  have pu1 := fun w => fbin_of hpu w
  have pu2 := fask_of hpu
  have qv1 := fun w => fbin_of hqv w
  have qv2 := fask_of hqv
  have pv1 := fun w => fbin_of hpv w
  have pv2 := fask_of hpv
  have qu1 := fun w => fbin_of hqu w
  have qu2 := fask_of hqu
  have d1 := fun w => fbin_of hd w
  have d2 := fask_of hd
  have e1 := fun w => fbin_of he w
  have e2 := fask_of he
  have c1' := fun w => fconv_of hc w
  have c2' := fconvAsk_of hc
  have f1 := fun w => fconv_of hf w
  have f2 := fconvAsk_of hf
  clear hp hq hu hv hpu hqv hpv hqu hd hc he hf
  go_enter Try.func69, Try.ntmps69
  go_wp2
  go_ret
  exact ⟨rfl, rfl⟩

set_option maxHeartbeats 2000000 in
theorem IsModule_mixer (w : World) (t1 t2 s1 s2 : Nat) : Calls Try.prog 121 #[.agg #[.int .i64 (2), .complex .f32 t1 t2, .complex .f32 s1 s2, .float .f32 0, .slice none 0 0, .int .i64 (0), .int .i64 (0), .slice none 0 0, .slice none 0 0, .int .i64 (0), .int .i64 (0)]] w (RT w) := by
  go_enter Try.func121, Try.ntmps121
  go_wp2_with (go_at_call 154; refine (isBare_zero _ 2).mono ?_; rintro e w1 ⟨rfl, g1⟩)
  go_ret
  refine ⟨rfl, Chg.trans ?_ g1 fun _ _ h => h⟩
  repeat (first | (with_reducible exact Chg.refl _ _) | (with_reducible refine Chg.alloc ?_ _) | (with_reducible refine Chg.setCell ?_ ?_ _; rotate_left; exact .inr (by simp)))

set_option maxRecDepth 100000 in
set_option maxHeartbeats 2000000 in
theorem step_mixer (w : World) (b t1 t2 s1 s2 z1 z2 y1 y2 r1 r2 : Nat) (h1 : mulP z1 z2 s1 s2 = some (y1, y2)) (h2 : mulP s1 s2 t1 t2 = some (r1, r2)) (hb : w.heap[b]? = some (.cells #[.int .i64 (2), .complex .f32 t1 t2, .complex .f32 s1 s2, .float .f32 0, .slice none 0 0, .int .i64 (0), .int .i64 (0), .slice none 0 0, .slice none 0 0, .int .i64 (0), .int .i64 (0)] 38 (0, 0))) :
    Calls Try.prog 123 #[.pointer (some ⟨b, 0, none⟩), .complex .f32 z1 z2] w (fun e w' => e = .returned (.complex .f32 y1 y2) ∧ w'.heap[b]? = some (.cells #[.int .i64 (2), .complex .f32 t1 t2, .complex .f32 r1 r2, .float .f32 0, .slice none 0 0, .int .i64 (0), .int .i64 (0), .slice none 0 0, .slice none 0 0, .int .i64 (0), .int .i64 (0)] 38 (0, 0)) ∧ Chg (fun k => k = b) w w') := by
  have HB := hid hb
  have H1 := hid h1
  have H2 := hid h2
  have kb := cells_at hb
  have fb := frees_at hb
  clear hb h1 h2
  go_enter Try.func123, Try.ntmps123
  go_wp2_with (go_at_call 69; refine (MultiplyPoints_calls _ _ _ _ _ _ _ H1.out).mono ?_; rintro e w' ⟨rfl, rfl⟩)
  go_region_with (first
    | (go_at_call 69; refine (MultiplyPoints_calls _ _ _ _ _ _ _ H2.out).mono ?_; rintro e w' ⟨rfl, rfl⟩))
  all_goals
    go_wp2_with fail
    go_ret
    exact ⟨rfl, heap_set HB.out, ((Chg.refl (fun k => k = b) w).setCell (p := ⟨b, 2, none⟩) (.inl rfl) _).drew⟩

theorem StepModule_mixer (w : World) (t1 t2 s1 s2 z1 z2 y1 y2 r1 r2 : Nat) (h1 : mulP z1 z2 s1 s2 = some (y1, y2)) (h2 : mulP s1 s2 t1 t2 = some (r1, r2)) : Calls Try.prog 66 #[.agg #[.int .i64 (2), .complex .f32 t1 t2, .complex .f32 s1 s2, .float .f32 0, .slice none 0 0, .int .i64 (0), .int .i64 (0), .slice none 0 0, .slice none 0 0, .int .i64 (0), .int .i64 (0)], .complex .f32 z1 z2] w (RStep w #[.int .i64 (2), .complex .f32 t1 t2, .complex .f32 r1 r2, .float .f32 0, .slice none 0 0, .int .i64 (0), .int .i64 (0), .slice none 0 0, .slice none 0 0, .int .i64 (0), .int .i64 (0)] y1 y2) :=
  StepModule_flat w 2 t1 t2 s1 s2 0 0 0 z1 z2 t1 t2 r1 r2 0 0 0 y1 y2 (fun w' => IsModule_mixer w' t1 t2 s1 s2) (fun w' b hb => step_mixer w' b t1 t2 s1 s2 z1 z2 y1 y2 r1 r2 h1 h2 hb)

set_option maxRecDepth 100000 in
set_option maxHeartbeats 2000000 in
theorem TellModule_mixer (w : World) (t1 t2 s1 s2 : Nat) : Calls Try.prog 71 #[.agg #[.int .i64 (2), .complex .f32 t1 t2, .complex .f32 s1 s2, .float .f32 0, .slice none 0 0, .int .i64 (0), .int .i64 (0), .slice none 0 0, .slice none 0 0, .int .i64 (0), .int .i64 (0)]] w (fun e w' => e = .returned (.tuple #[.complex .f32 s1 s2, .bool true]) ∧ Chg (fun _ => False) w w') := by
  go_enter Try.func71, Try.ntmps71
  go_wp2_with fail
  refine (PowersOf_calls _ 2).mono ?_
  rintro e w1 ⟨rfl, g1⟩
  have p1 : pw1 2 = true := by decide
  have p2 : pw2 2 = true := by decide
  have p3 : pw3 2 = true := by decide
  rw [p1, p2, p3]
  have k1 := cells_at (g1.heap (heap_new w _) id)
  go_wp2_with fail
  refine (IsModule_mixer _ t1 t2 s1 s2).mono ?_
  rintro e w2 ⟨rfl, g2⟩
  have k2 := cells_at (g2.heap (g1.heap (heap_new w _) id) id)
  clear k1
  go_wp2_with fail
  go_ret2
  exact ⟨rfl, (((Chg.refl (fun _ => False) w).alloc _).trans g1 fun _ _ h => h).trans g2 fun _ _ h => h⟩

set_option maxRecDepth 100000 in
set_option maxHeartbeats 4000000 in
theorem ResetModule_mixer (w : World) (t1 t2 s1 s2 : Nat) : Calls Try.prog 70 #[.agg #[.int .i64 (2), .complex .f32 t1 t2, .complex .f32 s1 s2, .float .f32 0, .slice none 0 0, .int .i64 (0), .int .i64 (0), .slice none 0 0, .slice none 0 0, .int .i64 (0), .int .i64 (0)]] w (fun e w' => e = .returned (.tuple #[.agg #[.int .i64 (2), .complex .f32 t1 t2, .complex .f32 1065353216 0, .float .f32 0, .slice none 0 0, .int .i64 (0), .int .i64 (0), .slice none 0 0, .slice none 0 0, .int .i64 (0), .int .i64 (0)], .bool true]) ∧ Chg (fun _ => False) w w') := by
  go_enter Try.func70, Try.ntmps70
  go_wp2_with fail
  refine (PowersOf_calls _ 2).mono ?_
  rintro e w1 ⟨rfl, g1⟩
  have p1 : pw1 2 = true := by decide
  have p2 : pw2 2 = true := by decide
  have p3 : pw3 2 = true := by decide
  rw [p1, p2, p3]
  have G1 := hid (((Chg.refl (fun _ => False) w).alloc (.cells #[.int .i64 (2), .complex .f32 t1 t2, .complex .f32 s1 s2, .float .f32 0, .slice none 0 0, .int .i64 (0), .int .i64 (0), .slice none 0 0, .slice none 0 0, .int .i64 (0), .int .i64 (0)] 38)).alloc (.cells #[.int .i64 (0), .complex .f32 0 0, .complex .f32 0 0, .float .f32 0, .slice none 0 0, .int .i64 (0), .int .i64 (0), .slice none 0 0, .slice none 0 0, .int .i64 (0), .int .i64 (0)] 38) |>.trans g1 fun _ _ h => h)
  have B1 := hid (g1.heap (heap_old (heap_new w (.cells #[.int .i64 (2), .complex .f32 t1 t2, .complex .f32 s1 s2, .float .f32 0, .slice none 0 0, .int .i64 (0), .int .i64 (0), .slice none 0 0, .slice none 0 0, .int .i64 (0), .int .i64 (0)] 38))) id)
  have F1 := hid (g1.heap (heap_new' (w := w.alloc (.cells #[.int .i64 (2), .complex .f32 t1 t2, .complex .f32 s1 s2, .float .f32 0, .slice none 0 0, .int .i64 (0), .int .i64 (0), .slice none 0 0, .slice none 0 0, .int .i64 (0), .int .i64 (0)] 38)) (b := w.heap.size + 1) (by simp)) id)
  have k1 := cells_at B1.out
  have lz1 := g1.size
  simp at lz1
  clear g1
  go_wp2_with fail
  refine (IsModule_mixer _ t1 t2 s1 s2).mono ?_
  rintro e w2 ⟨rfl, g2⟩
  have G2 := hid (G1.out.trans g2 fun _ _ h => h)
  have B2 := hid (g2.heap B1.out id)
  have F2 := hid (g2.heap F1.out id)
  have k2 := cells_at B2.out
  have lz2 := g2.size
  clear k1 B1 F1 G1 g2
  go_wp2_with fail
  refine (copyModule_calls _ 2 t1 t2 s1 s2 0 _ 0 0 _ _ 0 0 [] [] [] (by decide) (by decide) (by decide) (OwnC.nil _ _) (OwnC.nil _ _) (OwnI.nil _ _)).mono ?_
  rintro e w3 ⟨b1, d1, b2, d2, b3, d3, rfl, o1, o2, o3, m1, m2, m3, g3⟩
  obtain ⟨rfl, rfl⟩ := m1 rfl
  obtain ⟨rfl, rfl⟩ := m2 rfl
  obtain ⟨rfl, rfl⟩ := m3 rfl
  simp only [List.length_nil]
  clear o1 o2 o3 m1 m2 m3
  have G3 := hid (G2.out.trans g3 fun _ _ h => h)
  have F3' := hid (g3.heap F2.out id)
  have F3 := hid (heap_old (o' := .cells #[.int .i64 (2), .complex .f32 t1 t2, .complex .f32 s1 s2, .float .f32 0, .slice none 0 0, .int .i64 (0), .int .i64 (0), .slice none 0 0, .slice none 0 0, .int .i64 (0), .int .i64 (0)] 38) F3'.out)
  have B3 := hid (heap_old (o' := .cells #[.int .i64 (2), .complex .f32 t1 t2, .complex .f32 s1 s2, .float .f32 0, .slice none 0 0, .int .i64 (0), .int .i64 (0), .slice none 0 0, .slice none 0 0, .int .i64 (0), .int .i64 (0)] 38) (g3.heap B2.out id))
  have lz3 := g3.size
  have kB := cells_at B3.out
  have F4 := hid (heap_old (o' := .cells #[.int .i64 (2), .complex .f32 t1 t2, .complex .f32 1065353216 0, .float .f32 0, .slice none 0 0, .int .i64 (0), .int .i64 (0), .slice none 0 0, .slice none 0 0, .int .i64 (0), .int .i64 (0)] 38) F3'.out)
  have kF := cells_at F4.out
  have fF := frees_at F4.out
  have kF' := cells_at F3'.out
  have fF' := frees_at F3'.out
  clear k2 F2 B2 G2 g3
  have n1 : w.heap.size + 1 ≠ w3.heap.size := by omega
  have n2 : w.heap.size ≠ w3.heap.size := by omega
  go_wp2_with fail
  refine bodyPost_ret (results_row_tmp (by rfl) _ _ _ (w.heap.size + 1) _ (.bool true) rfl (load_mod (heap_row11 F4.out _ _ _ _ _ _ _ _ _ _ _) rfl) rfl) rfl ⟨rfl, ?_⟩
  refine Chg.trans (T := fun k => k = w.heap.size + 1) (G3.out.alloc (.cells #[.int .i64 (2), .complex .f32 t1 t2, .complex .f32 1065353216 0, .float .f32 0, .slice none 0 0, .int .i64 (0), .int .i64 (0), .slice none 0 0, .slice none 0 0, .int .i64 (0), .int .i64 (0)] 38)) ?_ fun k hk e => by omega
  repeat (first | (with_reducible exact Chg.refl _ _) | (with_reducible refine Chg.setCell ?_ ?_ _; rotate_left; exact .inl rfl))
end Go.Proofs.Ytopkehknaclhlaa
