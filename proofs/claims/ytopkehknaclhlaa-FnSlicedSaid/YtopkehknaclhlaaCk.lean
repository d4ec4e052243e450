/- A module that is tested and copied ('checked'): conditions: what the test says of it is given. -/
import Derived.Test.YtopkehknaclhlaaMf
namespace Go.Proofs.Ytopkehknaclhlaa
open Go Go.RowKit

theorem results_row_tmp {fn : Func} {p u : Tmp} {ty : TypeId} (h : fn.results = #[.cell p ty, .tmp u]) (tmps : Array Value) (P : Program) (w : World) (g : Nat) (cs : Array Value) (x : Value)
    (hp : tmps.getD p undef = .pointer (some ⟨g, 0, none⟩)) (hl : (loadVar ty ⟨g, 0, none⟩).run P w = .ok (.agg cs) w) (hx : tmps.getD u undef = x) :
    (results fn tmps).run P w = .ok (.tuple #[.agg cs, x]) w := by
  rw [results_cell_tmp h, hp, hx]
  simp [asAddr, hl]

/-- A module's variable, read whole. -/
theorem load_mod {w : World} {g : Nat} {cs : Array Value} {t : TypeId} {fr : Nat × Nat} (hg : w.heap[g]? = some (.cells cs t fr)) (hs : cs.size = 11) : (loadVar 38 ⟨g, 0, none⟩).run Try.prog w = .ok (.agg cs) w :=
  run_loadVar_row w g t 38 cs fr _ hg Try.underlying38 rfl (by rw [hs]; kernel_rfl)

/-- The module's copy comes back, and true. -/
def RChk (w : World) (kind : Int) (t1 t2 s1 s2 lv : Nat) (v : Value) (x y : Int) (u l : Value) (ct lf : Int) (xs ps : List (Nat × Nat)) (zs : List Int) (e : Ending) (w' : World) : Prop :=
  ∃ a c a2 c2 a3 c3, e = .returned (.tuple #[.agg #[.int .i64 (kind), .complex .f32 t1 t2, .complex .f32 s1 s2, .float .f32 lv, .slice a xs.length c, .int .i64 (x), .int .i64 (y), .slice a2 ps.length c2, .slice a3 zs.length c3, .int .i64 (ct), .int .i64 (lf)], .bool true]) ∧ OwnC w' w.heap.size (.slice a xs.length c) xs ∧ OwnC w' w.heap.size (.slice a2 ps.length c2) ps ∧ OwnI w' w.heap.size (.slice a3 zs.length c3) zs ∧
    (v = .slice none 0 0 → a = none ∧ c = 0) ∧ (u = .slice none 0 0 → a2 = none ∧ c2 = 0) ∧ (l = .slice none 0 0 → a3 = none ∧ c3 = 0) ∧ Chg (fun _ => False) w w'

theorem RChk.mk {w w1 w2 W : World} {kind : Int} {t1 t2 s1 s2 lv : Nat} {v : Value} {x y : Int} {u l : Value} {ct lf : Int} {xs ps : List (Nat × Nat)} {zs : List Int} {a a2 a3 : Option Addr} {c c2 c3 : Nat}
    (hB : w.heap.size + 2 ≤ w1.heap.size) (o1 : OwnC w2 w1.heap.size (.slice a xs.length c) xs) (o2 : OwnC w2 w1.heap.size (.slice a2 ps.length c2) ps) (o3 : OwnI w2 w1.heap.size (.slice a3 zs.length c3) zs)
    (m1 : v = .slice none 0 0 → a = none ∧ c = 0) (m2 : u = .slice none 0 0 → a2 = none ∧ c2 = 0) (m3 : l = .slice none 0 0 → a3 = none ∧ c3 = 0) (g2 : Chg (fun _ => False) w w2) (G : Chg (fun k => k = w.heap.size + 1) w2 W) :
    RChk w kind t1 t2 s1 s2 lv v x y u l ct lf xs ps zs (.returned (.tuple #[.agg #[.int .i64 (kind), .complex .f32 t1 t2, .complex .f32 s1 s2, .float .f32 lv, .slice a xs.length c, .int .i64 (x), .int .i64 (y), .slice a2 ps.length c2, .slice a3 zs.length c3, .int .i64 (ct), .int .i64 (lf)], .bool true])) W :=
  ⟨a, c, a2, c2, a3, c3, rfl, (o1.chg G fun k hk _ e => by omega).mono (by omega), (o2.chg G fun k hk _ e => by omega).mono (by omega), (o3.chg G fun k hk _ e => by omega).mono (by omega), m1, m2, m3,
   g2.trans G fun k hk e => by omega⟩

set_option maxRecDepth 100000 in
set_option maxHeartbeats 4000000 in
theorem checked_yes (w : World) (kind : Int) (t1 t2 s1 s2 lv : Nat) (v : Value) (x y : Int) (u l : Value) (ct lf : Int) (xs ps : List (Nat × Nat)) (zs : List Int)
    (hx : xs.length ≤ 1048576) (hp : ps.length ≤ 1048576) (hz : zs.length ≤ 1048576) (ho : OwnC w 0 v xs) (hu : OwnC w 0 u ps) (hl : OwnI w 0 l zs)
    (hIM : ∀ w', Chg (fun _ => False) w w' → Calls Try.prog 121 #[.agg #[.int .i64 (kind), .complex .f32 t1 t2, .complex .f32 s1 s2, .float .f32 lv, v, .int .i64 (x), .int .i64 (y), u, l, .int .i64 (ct), .int .i64 (lf)]] w' (RT w')) :
    Calls Try.prog 94 #[.agg #[.int .i64 (kind), .complex .f32 t1 t2, .complex .f32 s1 s2, .float .f32 lv, v, .int .i64 (x), .int .i64 (y), u, l, .int .i64 (ct), .int .i64 (lf)]] w (RChk w kind t1 t2 s1 s2 lv v x y u l ct lf xs ps zs) := by
  obtain ⟨a, c, rfl⟩ := ho.form
  obtain ⟨a2, c2, rfl⟩ := hu.form
  obtain ⟨a3, c3, rfl⟩ := hl.form
  have HO := hid ho
  have HU := hid hu
  have HL := hid hl
  have HIM := hid hIM
  clear ho hu hl hIM
  have g0 : Chg (fun _ => False) w _ := ((Chg.refl (fun _ => False) w).alloc (.cells #[.int .i64 (kind), .complex .f32 t1 t2, .complex .f32 s1 s2, .float .f32 lv, .slice a xs.length c, .int .i64 (x), .int .i64 (y), .slice a2 ps.length c2, .slice a3 zs.length c3, .int .i64 (ct), .int .i64 (lf)] 38)).alloc (.cells #[.int .i64 (0), .complex .f32 0 0, .complex .f32 0 0, .float .f32 0, .slice none 0 0, .int .i64 (0), .int .i64 (0), .slice none 0 0, .slice none 0 0, .int .i64 (0), .int .i64 (0)] 38)
  go_enter Try.func94, Try.ntmps94
  go_wp2_with fail
  refine (HIM.out _ g0).mono ?_
  rintro e w1 ⟨rfl, g1⟩
  have B1 := g1.heap (heap_old (heap_new w _)) id
  have F1 := hid (g1.heap (heap_new' (w := w.alloc _) (b := w.heap.size + 1) (by simp)) id)
  have k1 := cells_at B1
  have z1 := g1.size
  simp at z1
  clear B1
  go_wp2_with fail
  refine (copyModule_calls _ kind t1 t2 s1 s2 lv _ x y _ _ ct lf xs ps zs hx hp hz (HO.out.chg (g0.trans g1 fun _ _ h => h) fun _ _ _ h => h) (HU.out.chg (g0.trans g1 fun _ _ h => h) fun _ _ _ h => h) (HL.out.chg (g0.trans g1 fun _ _ h => h) fun _ _ _ h => h)).mono ?_
  rintro e w2 ⟨b1, d1, b2, d2, b3, d3, rfl, o1, o2, o3, m1, m2, m3, g2⟩
  have F2 := hid (g2.heap F1.out id)
  have k2 := cells_at F2.out
  have f2 := frees_at F2.out
  have z2 := g2.size
  clear k1
  go_wp2_with fail
  refine bodyPost_ret (results_row_tmp (by rfl) _ _ _ (w.heap.size + 1) _ (.bool true) rfl (load_mod (heap_row11 F2.out _ _ _ _ _ _ _ _ _ _ _) rfl) rfl) rfl ?_
  refine RChk.mk z1 o1 o2 o3 m1 m2 m3 ((g0.trans g1 fun _ _ h => h).trans g2 fun _ _ h => h) ?_
  repeat (first | (with_reducible exact Chg.refl _ _) | (with_reducible refine Chg.setCell ?_ ?_ _; rotate_left; exact .inl rfl))

/-- The zero module comes back, and false. -/
def RChk0 (w : World) (e : Ending) (w' : World) : Prop := e = .returned (.tuple #[.agg #[.int .i64 (0), .complex .f32 0 0, .complex .f32 0 0, .float .f32 0, .slice none 0 0, .int .i64 (0), .int .i64 (0), .slice none 0 0, .slice none 0 0, .int .i64 (0), .int .i64 (0)], .bool false]) ∧ Chg (fun _ => False) w w'

set_option maxRecDepth 100000 in
set_option maxHeartbeats 4000000 in
theorem checked_no (w : World) (kind : Int) (t1 t2 s1 s2 lv : Nat) (a : Option Addr) (n c : Nat) (x y : Int) (a2 : Option Addr) (n2 c2 : Nat) (a3 : Option Addr) (n3 c3 : Nat) (ct lf : Int)
    (hIM : ∀ w', Chg (fun _ => False) w w' → Calls Try.prog 121 #[.agg #[.int .i64 (kind), .complex .f32 t1 t2, .complex .f32 s1 s2, .float .f32 lv, .slice a n c, .int .i64 (x), .int .i64 (y), .slice a2 n2 c2, .slice a3 n3 c3, .int .i64 (ct), .int .i64 (lf)]] w' (RFalse w')) :
    Calls Try.prog 94 #[.agg #[.int .i64 (kind), .complex .f32 t1 t2, .complex .f32 s1 s2, .float .f32 lv, .slice a n c, .int .i64 (x), .int .i64 (y), .slice a2 n2 c2, .slice a3 n3 c3, .int .i64 (ct), .int .i64 (lf)]] w (RChk0 w) := by
  have HIM := hid hIM
  clear hIM
  have g0 : Chg (fun _ => False) w _ := ((Chg.refl (fun _ => False) w).alloc (.cells #[.int .i64 (kind), .complex .f32 t1 t2, .complex .f32 s1 s2, .float .f32 lv, .slice a n c, .int .i64 (x), .int .i64 (y), .slice a2 n2 c2, .slice a3 n3 c3, .int .i64 (ct), .int .i64 (lf)] 38)).alloc (.cells #[.int .i64 (0), .complex .f32 0 0, .complex .f32 0 0, .float .f32 0, .slice none 0 0, .int .i64 (0), .int .i64 (0), .slice none 0 0, .slice none 0 0, .int .i64 (0), .int .i64 (0)] 38)
  go_enter Try.func94, Try.ntmps94
  go_wp2_with fail
  refine (HIM.out _ g0).mono ?_
  rintro e w1 ⟨rfl, g1⟩
  have F1 := hid (g1.heap (heap_new' (w := w.alloc _) (b := w.heap.size + 1) (by simp)) id)
  have k1 := cells_at F1.out
  have f1 := frees_at F1.out
  have z1 := g1.size
  simp at z1
  go_wp2_with fail
  refine bodyPost_ret (results_row_tmp (by rfl) _ _ _ (w.heap.size + 1) _ (.bool false) rfl (load_mod (heap_row11 F1.out _ _ _ _ _ _ _ _ _ _ _) rfl) rfl) rfl ⟨rfl, ?_⟩
  refine (g0.trans g1 fun _ _ h => h).trans (T := fun k => k = w.heap.size + 1) ?_ fun k hk e => by omega
  repeat (first | (with_reducible exact Chg.refl _ _) | (with_reducible refine Chg.setCell ?_ ?_ _; rotate_left; exact .inl rfl))
end Go.Proofs.Ytopkehknaclhlaa
