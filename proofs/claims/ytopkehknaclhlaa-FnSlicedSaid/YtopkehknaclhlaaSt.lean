/- A module without slices steps: its copy is stepped and comes back. Conditions: what the test and the step do is given. -/
import Derived.Test.YtopkehknaclhlaaCk
namespace Go.Proofs.Ytopkehknaclhlaa
open Go Go.RowKit

theorem results_row_tmp2 {fn : Func} {p u q : Tmp} {ty : TypeId} (h : fn.results = #[.cell p ty, .tmp u, .tmp q]) (tmps : Array Value) (P : Program) (w : World) (g : Nat) (cs : Array Value) (x y : Value)
    (hp : tmps.getD p undef = .pointer (some ⟨g, 0, none⟩)) (hl : (loadVar ty ⟨g, 0, none⟩).run P w = .ok (.agg cs) w) (hx : tmps.getD u undef = x) (hy : tmps.getD q undef = y) :
    (results fn tmps).run P w = .ok (.tuple #[.agg cs, x, y]) w := by
  simp only [results, h]
  simp only [Array.getD_eq_getD_getElem?] at hp hx hy
  simp [hp, hx, hy, asAddr, hl]

/-- The stepped module, the sample and true come back. -/
def RStep (w : World) (m : Array Value) (y1 y2 : Nat) (e : Ending) (w' : World) : Prop := e = .returned (.tuple #[.agg m, .complex .f32 y1 y2, .bool true]) ∧ Chg (fun _ => False) w w'

set_option maxRecDepth 100000 in
set_option maxHeartbeats 4000000 in
theorem StepModule_flat (w : World) (kind : Int) (t1 t2 s1 s2 lv : Nat) (ct lf : Int) (z1 z2 : Nat) (T1 T2 S1 S2 LV : Nat) (CT LF : Int) (y1 y2 : Nat)
    (hIM : ∀ w', Calls Try.prog 121 #[.agg #[.int .i64 (kind), .complex .f32 t1 t2, .complex .f32 s1 s2, .float .f32 lv, .slice none 0 0, .int .i64 (0), .int .i64 (0), .slice none 0 0, .slice none 0 0, .int .i64 (ct), .int .i64 (lf)]] w' (RT w'))
    (hST : ∀ w' b, w'.heap[b]? = some (.cells #[.int .i64 (kind), .complex .f32 t1 t2, .complex .f32 s1 s2, .float .f32 lv, .slice none 0 0, .int .i64 (0), .int .i64 (0), .slice none 0 0, .slice none 0 0, .int .i64 (ct), .int .i64 (lf)] 38 (0, 0)) → Calls Try.prog 123 #[.pointer (some ⟨b, 0, none⟩), .complex .f32 z1 z2] w' (fun e w'' => e = .returned (.complex .f32 y1 y2) ∧ w''.heap[b]? = some (.cells #[.int .i64 (kind), .complex .f32 T1 T2, .complex .f32 S1 S2, .float .f32 LV, .slice none 0 0, .int .i64 (0), .int .i64 (0), .slice none 0 0, .slice none 0 0, .int .i64 (CT), .int .i64 (LF)] 38 (0, 0)) ∧ Chg (fun k => k = b) w' w'')) :
    Calls Try.prog 66 #[.agg #[.int .i64 (kind), .complex .f32 t1 t2, .complex .f32 s1 s2, .float .f32 lv, .slice none 0 0, .int .i64 (0), .int .i64 (0), .slice none 0 0, .slice none 0 0, .int .i64 (ct), .int .i64 (lf)], .complex .f32 z1 z2] w (RStep w #[.int .i64 (kind), .complex .f32 T1 T2, .complex .f32 S1 S2, .float .f32 LV, .slice none 0 0, .int .i64 (0), .int .i64 (0), .slice none 0 0, .slice none 0 0, .int .i64 (CT), .int .i64 (LF)] y1 y2) := by
  have HIM := hid hIM
  have HST := hid hST
  clear hIM hST
  go_enter Try.func66, Try.ntmps66
  go_wp2_with fail
  refine (HIM.out _).mono ?_
  rintro e w1 ⟨rfl, g1⟩
  have g0 := hid (((Chg.refl (fun _ => False) w).alloc _).alloc _ |>.trans g1 fun _ _ h => h)
  have B1 := g1.heap (heap_old (heap_new w _)) id
  have F1 := hid (g1.heap (heap_new' (w := w.alloc _) (b := w.heap.size + 1) (by simp)) id)
  have k1 := cells_at B1
  have lz1 := g1.size
  simp at lz1
  clear B1 g1
  go_wp2_with fail
  refine (copyModule_calls _ kind t1 t2 s1 s2 lv _ 0 0 _ _ ct lf [] [] [] (by decide) (by decide) (by decide) (OwnC.nil _ _) (OwnC.nil _ _) (OwnI.nil _ _)).mono ?_
  rintro e w2 ⟨b1, d1, b2, d2, b3, d3, rfl, o1, o2, o3, m1, m2, m3, g2⟩
  obtain ⟨rfl, rfl⟩ := m1 rfl
  obtain ⟨rfl, rfl⟩ := m2 rfl
  obtain ⟨rfl, rfl⟩ := m3 rfl
  simp only [List.length_nil]
  clear o1 o2 o3 m1 m2 m3
  have g02 := hid (g0.out.trans g2 fun _ _ h => h)
  have F2 := hid (g2.heap F1.out id)
  have lz2 := g2.size
  clear k1 F1 g0 g2
  have N3 := hid (heap_new w2 (.cells #[.int .i64 (kind), .complex .f32 t1 t2, .complex .f32 s1 s2, .float .f32 lv, .slice none 0 0, .int .i64 (0), .int .i64 (0), .slice none 0 0, .slice none 0 0, .int .i64 (ct), .int .i64 (lf)] 38))
  have F3 := hid (heap_old (o' := .cells #[.int .i64 (kind), .complex .f32 t1 t2, .complex .f32 s1 s2, .float .f32 lv, .slice none 0 0, .int .i64 (0), .int .i64 (0), .slice none 0 0, .slice none 0 0, .int .i64 (ct), .int .i64 (lf)] 38) F2.out)
  have g3 := hid (g02.out.alloc (.cells #[.int .i64 (kind), .complex .f32 t1 t2, .complex .f32 s1 s2, .float .f32 lv, .slice none 0 0, .int .i64 (0), .int .i64 (0), .slice none 0 0, .slice none 0 0, .int .i64 (ct), .int .i64 (lf)] 38))
  have lz3 : (w2.alloc (.cells #[.int .i64 (kind), .complex .f32 t1 t2, .complex .f32 s1 s2, .float .f32 lv, .slice none 0 0, .int .i64 (0), .int .i64 (0), .slice none 0 0, .slice none 0 0, .int .i64 (ct), .int .i64 (lf)] 38)).heap.size = w2.heap.size + 1 := by simp
  clear F2 g02
  go_wp2_with fail
  refine (HST.out _ _ N3.out).mono ?_
  rintro e w4 ⟨rfl, m4, g4⟩
  have F4 := hid (g4.heap F3.out (by omega))
  have M4 := hid m4
  have k4 := cells_at M4.out
  have f4 := frees_at F4.out
  have k5 := cells_at F4.out
  clear N3 F3 m4
  go_wp2_with fail

  refine bodyPost_ret (results_row_tmp2 (by rfl) _ _ _ (w.heap.size + 1) _ (.complex .f32 y1 y2) (.bool true) rfl (load_mod (heap_row11 F4.out _ _ _ _ _ _ _ _ _ _ _) rfl) rfl rfl) rfl ⟨rfl, ?_⟩
  refine Chg.trans (T := fun k => k = w.heap.size + 1 ∨ k = w2.heap.size) g3.out ?_ fun k hk e => by omega
  refine Chg.trans (g4.mono fun _ _ h => .inr h) (T := fun k => k = w.heap.size + 1) ?_ fun k hk e => .inl e
  repeat (first | (with_reducible exact Chg.refl _ _) | (with_reducible refine Chg.setCell ?_ ?_ _; rotate_left; exact .inl rfl))
end Go.Proofs.Ytopkehknaclhlaa
