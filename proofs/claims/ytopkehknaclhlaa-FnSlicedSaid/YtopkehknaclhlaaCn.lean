/- Copies of rings and modules: they read as what was given and are new. Conditions: at most 2^20 elements a slice. -/
import Derived.Test.YtopkehknaclhlaaMb
namespace Go.Proofs.Ytopkehknaclhlaa
open Go Go.RowKit

/-- A ring's copy comes back. -/
def RRg (w : World) (v : Value) (x y : Int) (xs : List (Nat × Nat)) (e : Ending) (w' : World) : Prop :=
  ∃ a c, e = .returned (.agg #[.slice a xs.length c, .int .i64 x, .int .i64 y]) ∧ OwnC w' w.heap.size (.slice a xs.length c) xs ∧ (v = .slice none 0 0 → a = none ∧ c = 0) ∧ Chg (fun _ => False) w w'

theorem OwnC.form {w : World} {b : Nat} {v : Value} {xs : List (Nat × Nat)} (h : OwnC w b v xs) : ∃ a c, v = .slice a xs.length c := by
  rcases h.block with ⟨rfl, rfl⟩ | ⟨g, cap, cur, rfl, _⟩ <;> exact ⟨_, _, rfl⟩
theorem OwnI.form {w : World} {b : Nat} {v : Value} {xs : List Int} (h : OwnI w b v xs) : ∃ a c, v = .slice a xs.length c := by
  rcases h.block with ⟨rfl, rfl⟩ | ⟨g, cap, cur, rfl, _⟩ <;> exact ⟨_, _, rfl⟩

set_option maxHeartbeats 2000000 in
theorem copyRing_calls (w : World) (v : Value) (x y : Int) (xs : List (Nat × Nat)) (hx : xs.length ≤ 1048576) (ho : OwnC w 0 v xs) :
    Calls Try.prog 120 #[.agg #[v, .int .i64 x, .int .i64 y]] w (RRg w v x y xs) := by
  obtain ⟨a, c, rfl⟩ := ho.form
  have HO := hid ho
  clear ho
  go_enter Try.func120, Try.ntmps120
  go_wp2_with fail
  refine (CloneC_calls _ _ xs hx (HO.out.chg (((Chg.refl (fun _ => False) w).alloc _).alloc _) (fun _ _ _ h => h))).mono ?_
  rintro e w1 ⟨b1, d1, rfl, o1, m1, g1⟩
  have B1 := g1.heap (heap_old (heap_new w _)) id
  have B2 := g1.heap (heap_new' (w := w.alloc _) (b := w.heap.size + 1) (by simp)) id
  have k1 := cells_at B1
  have k2 := cells_at B2
  have f1 := frees_at B1
  have f2 := frees_at B2
  have z1 := g1.size
  simp at z1
  clear B1 B2
  go_wp2_with fail
  refine bodyPost_ret (v := .agg #[.slice b1 xs.length d1, .int .i64 x, .int .i64 y]) (by simp [results, Try.results120, go_sem, k2, k1]) rfl ?_
  have g3 := ((((Chg.refl (fun k => k = w.heap.size ∨ k = w.heap.size + 1) w1).setCell (p := ⟨w.heap.size, 0, none⟩) (.inl (.inl rfl)) (.slice b1 xs.length d1)).setCell (p := ⟨w.heap.size + 1, 0, none⟩) (.inl (.inr rfl)) (.slice b1 xs.length d1)).setCell (p := ⟨w.heap.size + 1, 1, none⟩) (.inl (.inr rfl)) (.int .i64 x)).setCell (p := ⟨w.heap.size + 1, 2, none⟩) (.inl (.inr rfl)) (.int .i64 y)
  refine ⟨b1, d1, rfl, (o1.chg g3 fun k hk _ e => ?_).mono (by simp; omega), m1, ?_⟩
  · simp at hk; omega
  · exact ((((Chg.refl (fun _ => False) w).alloc _).alloc _).trans g1 fun _ _ h => h).trans g3 (fun k hk e => by omega)

theorem set_row11 (a0 a1 a2 a3 a4 a5 a6 a7 a8 a9 a10 v0 v1 v2 v3 v4 v5 v6 v7 v8 v9 v10 : Value) : (((((((((((#[a0, a1, a2, a3, a4, a5, a6, a7, a8, a9, a10].setIfInBounds 0 v0).setIfInBounds 1 v1).setIfInBounds 2 v2).setIfInBounds 3 v3).setIfInBounds 4 v4).setIfInBounds 5 v5).setIfInBounds 6 v6).setIfInBounds 7 v7).setIfInBounds 8 v8).setIfInBounds 9 v9).setIfInBounds 10 v10) = #[v0, v1, v2, v3, v4, v5, v6, v7, v8, v9, v10] := by
  simp
theorem heap_row11 {w : World} {b : Nat} {T : TypeId} {f : Nat × Nat} {a0 a1 a2 a3 a4 a5 a6 a7 a8 a9 a10 : Value} (h : w.heap[b]? = some (.cells #[a0, a1, a2, a3, a4, a5, a6, a7, a8, a9, a10] T f)) (v0 v1 v2 v3 v4 v5 v6 v7 v8 v9 v10 : Value) :
    (((((((((((w.setCell ⟨b, 0, none⟩ v0).setCell ⟨b, 1, none⟩ v1).setCell ⟨b, 2, none⟩ v2).setCell ⟨b, 3, none⟩ v3).setCell ⟨b, 4, none⟩ v4).setCell ⟨b, 5, none⟩ v5).setCell ⟨b, 6, none⟩ v6).setCell ⟨b, 7, none⟩ v7).setCell ⟨b, 8, none⟩ v8).setCell ⟨b, 9, none⟩ v9).setCell ⟨b, 10, none⟩ v10).heap[b]? = some (.cells #[v0, v1, v2, v3, v4, v5, v6, v7, v8, v9, v10] T f) := by
  have e := heap_set (v := v10) (k := 10) (heap_set (v := v9) (k := 9) (heap_set (v := v8) (k := 8) (heap_set (v := v7) (k := 7) (heap_set (v := v6) (k := 6) (heap_set (v := v5) (k := 5) (heap_set (v := v4) (k := 4) (heap_set (v := v3) (k := 3) (heap_set (v := v2) (k := 2) (heap_set (v := v1) (k := 1) (heap_set (v := v0) (k := 0) (h)))))))))))
  rw [set_row11] at e
  exact e

/-- A module's copy comes back. -/
def RMod (w : World) (kind : Int) (t1 t2 s1 s2 lv : Nat) (v : Value) (x y : Int) (u l : Value) (ct lf : Int) (xs ps : List (Nat × Nat)) (zs : List Int) (e : Ending) (w' : World) : Prop :=
  ∃ a c a2 c2 a3 c3, e = .returned (.agg #[.int .i64 (kind), .complex .f32 t1 t2, .complex .f32 s1 s2, .float .f32 lv, .slice a xs.length c, .int .i64 (x), .int .i64 (y), .slice a2 ps.length c2, .slice a3 zs.length c3, .int .i64 (ct), .int .i64 (lf)]) ∧ OwnC w' w.heap.size (.slice a xs.length c) xs ∧ OwnC w' w.heap.size (.slice a2 ps.length c2) ps ∧ OwnI w' w.heap.size (.slice a3 zs.length c3) zs ∧
    (v = .slice none 0 0 → a = none ∧ c = 0) ∧ (u = .slice none 0 0 → a2 = none ∧ c2 = 0) ∧ (l = .slice none 0 0 → a3 = none ∧ c3 = 0) ∧ Chg (fun _ => False) w w'

theorem RMod.mk {w w1 w2 W : World} {kind : Int} {t1 t2 s1 s2 lv : Nat} {v : Value} {x y : Int} {u l : Value} {ct lf : Int} {xs ps : List (Nat × Nat)} {zs : List Int} {a a2 a3 : Option Addr} {c c2 c3 : Nat} {B : Nat}
    (hB : w.heap.size + 2 ≤ B) (hB' : B ≤ w1.heap.size) (o1 : OwnC w1 B (.slice a xs.length c) xs) (g2 : Chg (fun _ => False) w1 w2) (o2 : OwnC w2 w1.heap.size (.slice a2 ps.length c2) ps) (o3 : OwnI w2 w1.heap.size (.slice a3 zs.length c3) zs)
    (m1 : v = .slice none 0 0 → a = none ∧ c = 0) (m2 : u = .slice none 0 0 → a2 = none ∧ c2 = 0) (m3 : l = .slice none 0 0 → a3 = none ∧ c3 = 0) (g1 : Chg (fun _ => False) w w1) (G : Chg (fun k => k = w.heap.size ∨ k = w.heap.size + 1) w2 W) :
    RMod w kind t1 t2 s1 s2 lv v x y u l ct lf xs ps zs (.returned (.agg #[.int .i64 (kind), .complex .f32 t1 t2, .complex .f32 s1 s2, .float .f32 lv, .slice a xs.length c, .int .i64 (x), .int .i64 (y), .slice a2 ps.length c2, .slice a3 zs.length c3, .int .i64 (ct), .int .i64 (lf)])) W :=
  ⟨a, c, a2, c2, a3, c3, rfl, ((o1.chg g2 fun _ _ _ h => h).chg G fun k hk _ e => by omega).mono (by omega), (o2.chg G fun k hk _ e => by omega).mono (by omega), (o3.chg G fun k hk _ e => by omega).mono (by omega), m1, m2, m3,
   (g1.trans g2 fun _ _ h => h).trans G fun k hk e => by omega⟩

set_option maxRecDepth 100000 in
set_option maxHeartbeats 4000000 in
theorem copyModule_calls (w : World) (kind : Int) (t1 t2 s1 s2 lv : Nat) (v : Value) (x y : Int) (u l : Value) (ct lf : Int) (xs ps : List (Nat × Nat)) (zs : List Int)
    (hx : xs.length ≤ 1048576) (hp : ps.length ≤ 1048576) (hz : zs.length ≤ 1048576) (ho : OwnC w 0 v xs) (hu : OwnC w 0 u ps) (hl : OwnI w 0 l zs) :
    Calls Try.prog 122 #[.agg #[.int .i64 (kind), .complex .f32 t1 t2, .complex .f32 s1 s2, .float .f32 lv, v, .int .i64 (x), .int .i64 (y), u, l, .int .i64 (ct), .int .i64 (lf)]] w (RMod w kind t1 t2 s1 s2 lv v x y u l ct lf xs ps zs) := by
  obtain ⟨a, c, rfl⟩ := ho.form
  obtain ⟨a2, c2, rfl⟩ := hu.form
  obtain ⟨a3, c3, rfl⟩ := hl.form
  have HO := hid ho
  have HU := hid hu
  have HL := hid hl
  clear ho hu hl
  go_enter Try.func122, Try.ntmps122
  go_wp2_with fail
  go_region_with (first
    | (go_at_call 120; refine (copyRing_calls _ _ x y xs hx ?_).mono ?_; exact HO.out.chg ((((Chg.refl (fun _ => False) w).alloc _).alloc _).drew) (fun _ _ _ h => h); rintro e w1 ⟨b1, d1, rfl, o1, m1, g1⟩; have k1 := cells_at (g1.heap (heap_old (heap_new w _)) id); have z1 := g1.size; simp at z1)
    | (go_at_call 155; refine (copyTable_calls _ _ _ ps zs hp hz ?_ ?_).mono ?_; exact HU.out.chg (((((Chg.refl (fun _ => False) w).alloc _).alloc _).drew).trans g1 fun _ _ h => h) (fun _ _ _ h => h); exact HL.out.chg (((((Chg.refl (fun _ => False) w).alloc _).alloc _).drew).trans g1 fun _ _ h => h) (fun _ _ _ h => h); rintro e w2 ⟨b2, d2, b3, d3, rfl, o2, o3, m2, m3, g2⟩; have k2 := cells_at (g2.heap (g1.heap (heap_old (heap_new w _)) id) id); have z2 := g2.size; have f2 := frees_at (g2.heap (g1.heap (heap_old (heap_new w _)) id) id); have k3 := cells_at (g2.heap (g1.heap (heap_new' (w := w.alloc _) (b := w.heap.size + 1) (by simp)) id) id); have F3 := hid (g2.heap (g1.heap (heap_new' (w := w.alloc _) (b := w.heap.size + 1) (by simp)) id) id); have f3 := frees_at F3.out))
  all_goals clear k1
  all_goals go_wp2_with fail
  all_goals
    refine bodyPost_ret (v := .agg #[.int .i64 (kind), .complex .f32 t1 t2, .complex .f32 s1 s2, .float .f32 lv, .slice b1 xs.length d1, .int .i64 (x), .int .i64 (y), .slice b2 ps.length d2, .slice b3 zs.length d3, .int .i64 (ct), .int .i64 (lf)]) (results_cell_row (by rfl) _ _ (w.heap.size + 1) 38 _ (0, 0) _ rfl (heap_row11 (Chg.heap (S := fun k => k = w.heap.size) (w := w2) ?_ F3.out (by omega)) _ _ _ _ _ _ _ _ _ _ _) Try.underlying38 rfl (by kernel_rfl)) rfl ?_
    · repeat (first | (with_reducible exact Chg.refl _ _) | (with_reducible refine Chg.setCell ?_ ?_ _; rotate_left; exact .inl rfl))
    refine RMod.mk (by simp) g1.size o1 g2 o2 o3 m1 m2 m3 ((((Chg.refl (fun _ => False) w).alloc _).alloc _).drew.trans g1 fun _ _ h => h) ?_
    repeat (first | (with_reducible exact Chg.refl _ _) | (with_reducible refine Chg.setCell ?_ ?_ _; rotate_left; first | exact .inl (.inl rfl) | exact .inl (.inr rfl)))
end Go.Proofs.Ytopkehknaclhlaa
