/- Delays are told as modules. Conditions: the ring is valid and holds as many samples as it can. -/
import Derived.Test.YtopkehknaclhlaaIr
import Derived.Test.YtopkehknaclhlaaCk
namespace Go.Proofs.Ytopkehknaclhlaa
open Go Go.RowKit

set_option maxRecDepth 100000 in
set_option maxHeartbeats 4000000 in
theorem IsModule_delay (w : World) (g n c p : Nat) (xs : List (Nat × Nat)) (hn : xs.length = n) (ho : OwnC w 0 (.slice (some ⟨g, 0, none⟩) n c) xs) (hk : OkRing xs p n) : Calls Try.prog 121 #[.agg #[.int .i64 (4), .complex .f32 0 0, .complex .f32 0 0, .float .f32 0, .slice (some ⟨g, 0, none⟩) n c, .int .i64 (p), .int .i64 (n), .slice none 0 0, .slice none 0 0, .int .i64 (0), .int .i64 (0)]] w (RT w) := by
  have HO := hid ho
  have HK := hid hk
  have HN := hid hn
  clear ho hk hn
  go_enter Try.func121, Try.ntmps121
  go_wp2_with fail
  go_region_with (first
    | (go_at_call 119; refine (IsRing_yes _ _ xs p n ?_ HK.out).mono ?_; exact HO.out.chg ((((Chg.refl (fun _ => False) w).alloc _).alloc _).drew) (fun _ _ _ h => h); rintro e w1 ⟨rfl, g1⟩; have F1 := hid (g1.heap (heap_old (heap_new w _)) id); have F2 := hid (g1.heap (heap_new' (w := w.alloc _) (b := w.heap.size + 1) (by simp)) id); have k1 := cells_at F1.out; have k2 := cells_at F2.out; have f2 := frees_at F2.out; have z1 := g1.size; simp at z1))
  all_goals clear k1
  all_goals
    go_wp2_with (go_at_call 154; refine (isBare_zero _ 4).mono ?_; rintro e w2 ⟨rfl, g2⟩)
    go_ret
    refine ⟨rfl, Chg.trans ?_ g2 fun _ _ h => h⟩
    refine ((((Chg.refl (fun _ => False) w).alloc _).alloc _).drew.trans g1 fun _ _ h => h).trans (T := fun k => k = w.heap.size + 1) ?_ fun k hk e => by omega
    repeat (first | (with_reducible exact Chg.refl _ _) | (with_reducible refine Chg.setCell ?_ ?_ _; rotate_left; exact .inl rfl))
end Go.Proofs.Ytopkehknaclhlaa
