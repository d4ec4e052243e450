/- Copies of tables, rings and modules: they read as what was given and are new. Conditions: at most 2^20 elements a slice. -/
import Derived.Test.YtopkehknaclhlaaCi
import Derived.Deep.RegionWith
namespace Go.Proofs.Ytopkehknaclhlaa
open Go Go.RowKit

theorem OwnC.mono {w : World} {b b' : Nat} {v : Value} {xs : List (Nat × Nat)} (h : OwnC w b v xs) (hb : b' ≤ b) : OwnC w b' v xs := by
  obtain ⟨h1, h2⟩ := h
  refine ⟨h1, ?_⟩
  rcases h2 with h2 | ⟨g, cap, cur, hv, hg, r⟩
  · exact .inl h2
  · exact .inr ⟨g, cap, cur, hv, Nat.le_trans hb hg, r⟩
theorem OwnI.mono {w : World} {b b' : Nat} {v : Value} {xs : List Int} (h : OwnI w b v xs) (hb : b' ≤ b) : OwnI w b' v xs := by
  obtain ⟨h1, h2⟩ := h
  refine ⟨h1, ?_⟩
  rcases h2 with h2 | ⟨g, cap, cur, hv, hg, r⟩
  · exact .inl h2
  · exact .inr ⟨g, cap, cur, hv, Nat.le_trans hb hg, r⟩

/-- A table's copy comes back. -/
def RTab (w : World) (v u : Value) (xs : List (Nat × Nat)) (zs : List Int) (e : Ending) (w' : World) : Prop :=
  ∃ a c a' c', e = .returned (.agg #[.slice a xs.length c, .slice a' zs.length c']) ∧ OwnC w' w.heap.size (.slice a xs.length c) xs ∧ OwnI w' w.heap.size (.slice a' zs.length c') zs ∧ (v = .slice none 0 0 → a = none ∧ c = 0) ∧ (u = .slice none 0 0 → a' = none ∧ c' = 0) ∧ Chg (fun _ => False) w w'

set_option maxHeartbeats 2000000 in
theorem copyTable_calls (w : World) (v u : Value) (xs : List (Nat × Nat)) (zs : List Int) (hx : xs.length ≤ 1048576) (hz : zs.length ≤ 1048576) (ho : OwnC w 0 v xs) (hi : OwnI w 0 u zs) :
    Calls Try.prog 155 #[.agg #[v, u]] w (RTab w v u xs zs) := by
  have HO := hid ho
  have HI := hid hi
  obtain ⟨a, n, c, hv⟩ : ∃ a n c, v = .slice a n c := by
    rcases ho.block with ⟨rfl, _⟩ | ⟨g, cap, cur, rfl, _⟩ <;> exact ⟨_, _, _, rfl⟩
  obtain ⟨a2, n2, c2, hu⟩ : ∃ a n c, u = .slice a n c := by
    rcases hi.block with ⟨rfl, _⟩ | ⟨g, cap, cur, rfl, _⟩ <;> exact ⟨_, _, _, rfl⟩
  subst hv hu
  clear ho hi
  go_enter Try.func155, Try.ntmps155
  go_wp2_with fail
  go_region_with (first
    | (go_at_call 97; refine (CloneC_calls _ _ xs hx ?_).mono ?_; exact HO.out.chg ((((Chg.refl (fun _ => False) w).alloc _).alloc _).drew) (fun _ _ _ h => h); rintro e w1 ⟨b1, d1, rfl, o1, m1, g1⟩; have k1 := cells_at (g1.heap (heap_old (heap_new w _)) id); have z1 := g1.size; simp at z1)
    | (go_at_call 185; refine (CloneI_calls _ _ zs hz ?_).mono ?_; exact HI.out.chg (((((Chg.refl (fun _ => False) w).alloc _).alloc _).drew).trans g1 fun _ _ h => h) (fun _ _ _ h => h); rintro e w2 ⟨b2, d2, rfl, o2, m2, g2⟩; have k2 := cells_at (g2.heap (g1.heap (heap_new' (w := w.alloc _) (b := w.heap.size + 1) (by simp)) id) id); have z2 := g2.size; have f2 := frees_at (g2.heap (g1.heap (heap_new' (w := w.alloc _) (b := w.heap.size + 1) (by simp)) id) id)))
  all_goals
    go_wp2
    refine bodyPost_ret (v := .agg #[.slice b1 xs.length d1, .slice b2 zs.length d2]) (by simp [results, Try.results155, go_sem, k2]) rfl ?_
    have g3 := (Chg.refl (fun k => k = w.heap.size + 1) w2).setCell (p := ⟨w.heap.size + 1, 0, none⟩) (.inl rfl) (.slice b1 xs.length d1) |>.setCell (p := ⟨w.heap.size + 1, 1, none⟩) (.inl rfl) (.slice b2 zs.length d2)
    refine ⟨b1, d1, b2, d2, rfl, ((o1.chg g2 fun _ _ _ h => h).chg g3 fun k hk _ e => ?_).mono (by simp; omega), (o2.chg g3 fun k hk _ e => ?_).mono (by omega), m1, m2, ?_⟩
    · simp at hk; omega
    · omega
    · exact (((((Chg.refl (fun _ => False) w).alloc _).alloc _).drew.trans g1 fun _ _ h => h).trans g2 fun _ _ h => h).trans g3 (fun k hk e => by omega)
end Go.Proofs.Ytopkehknaclhlaa
