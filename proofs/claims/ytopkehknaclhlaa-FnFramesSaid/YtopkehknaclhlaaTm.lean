/- Meters step and tell; a float made of bytes. Conditions: the level is a level; the bytes are at most 2^20. -/
import Derived.Test.YtopkehknaclhlaaMt
import Derived.Test.YtopkehknaclhlaaSt
import Derived.Test.YtopkehknaclhlaaFr
namespace Go.Proofs.Ytopkehknaclhlaa
open Go Go.RowKit

theorem IsModule_meter (w : World) (lv : Nat) (h : Lvl lv) : Calls Try.prog 121 #[.agg #[.int .i64 (7), .complex .f32 0 0, .complex .f32 0 0, .float .f32 lv, .slice none 0 0, .int .i64 (0), .int .i64 (0), .slice none 0 0, .slice none 0 0, .int .i64 (0), .int .i64 (0)]] w (RT w) := by
  by_cases h0 : lv = 0
  · subst h0; exact IsModule_meter_zero w
  · exact IsModule_meter_above w lv h h0

theorem StepModule_meter (w : World) (lv re im : Nat) (h : Lvl lv) : Calls Try.prog 66 #[.agg #[.int .i64 (7), .complex .f32 0 0, .complex .f32 0 0, .float .f32 lv, .slice none 0 0, .int .i64 (0), .int .i64 (0), .slice none 0 0, .slice none 0 0, .int .i64 (0), .int .i64 (0)], .complex .f32 re im] w (RStep w #[.int .i64 (7), .complex .f32 0 0, .complex .f32 0 0, .float .f32 (upS lv re im), .slice none 0 0, .int .i64 (0), .int .i64 (0), .slice none 0 0, .slice none 0 0, .int .i64 (0), .int .i64 (0)] re im) :=
  StepModule_flat w 7 0 0 0 0 lv 0 0 re im 0 0 0 0 (upS lv re im) 0 0 re im (fun w' => IsModule_meter w' lv h) (fun w' b hb => step_meter w' b lv re im hb)

set_option maxRecDepth 100000 in
set_option maxHeartbeats 2000000 in
theorem TellModule_meter (w : World) (lv : Nat) (h : Lvl lv) : Calls Try.prog 71 #[.agg #[.int .i64 (7), .complex .f32 0 0, .complex .f32 0 0, .float .f32 lv, .slice none 0 0, .int .i64 (0), .int .i64 (0), .slice none 0 0, .slice none 0 0, .int .i64 (0), .int .i64 (0)]] w (fun e w' => e = .returned (.tuple #[.complex .f32 lv 0, .bool true]) ∧ Chg (fun _ => False) w w') := by
  have H := hid h
  clear h
  go_enter Try.func71, Try.ntmps71
  go_wp2_with fail
  refine (PowersOf_calls _ 7).mono ?_
  rintro e w1 ⟨rfl, g1⟩
  have p1 : pw1 7 = true := by decide
  have p2 : pw2 7 = false := by decide
  have p3 : pw3 7 = true := by decide
  rw [p1, p2, p3]
  have k1 := cells_at (g1.heap (heap_new w _) id)
  go_wp2_with fail
  refine (IsModule_meter _ lv H.out).mono ?_
  rintro e w2 ⟨rfl, g2⟩
  have k2 := cells_at (g2.heap (g1.heap (heap_new w _) id) id)
  clear k1
  go_wp2_with fail
  go_ret2
  exact ⟨rfl, (((Chg.refl (fun _ => False) w).alloc _).trans g1 fun _ _ h => h).trans g2 fun _ _ h => h⟩

/-- A float comes back. -/
def RFl (w : World) (e : Ending) (w' : World) : Prop := ∃ b : Nat, b < 4294967296 ∧ e = .returned (.float .f32 b) ∧ Chg (fun _ => False) w w'

set_option maxHeartbeats 1000000 in
theorem MakeFloat_calls (w : World) (a : Option Addr) (len cap : Nat) (hy : Bytes w w.heap.size a len cap) :
    Calls Try.prog 72 #[.slice a len cap] w (RFl w) := by
  have HY := hid hy
  clear hy
  go_enter Try.func72, Try.ntmps72
  go_wp2_with fail
  refine (l01New_calls _ _ _ _ HY.out).mono ?_
  rintro e w1 ⟨c, hc, rfl, hc1, g1⟩
  have HC1 := hid hc1
  clear hc1
  go_wp2_with fail
  refine (l1Any_calls _ _ HC1.out).mono ?_
  rintro e w2 ⟨b, hb, rfl, hc2, g2⟩
  go_wp2_with fail
  go_ret
  exact ⟨b, hb, rfl, g1.trans g2 fun n hn e => by omega⟩

/-- The four numbers that the law looks at, and the greatest so far. -/
def L4 (x y : Nat) (j : Nat) : Nat := [x, y, Op.negFloat .f32 x, Op.negFloat .f32 y].getD j 0
def mostJ (m x y : Nat) : Nat → Nat
  | 0 => m
  | j + 1 => up (mostJ m x y j) (L4 x y j)
theorem mostJ_four (m x y : Nat) : mostJ m x y 4 = upL m x y := rfl
theorem L4_cell (x y : Nat) {j : Nat} (h : j < 4) : (#[Value.float .f32 x, .float .f32 y, .float .f32 (Op.negFloat .f32 x), .float .f32 (Op.negFloat .f32 y)] : Array Value)[j]? = some (.float .f32 (L4 x y j)) := by
  rcases (by omega : j = 0 ∨ j = 1 ∨ j = 2 ∨ j = 3) with rfl | rfl | rfl | rfl <;> rfl
end Go.Proofs.Ytopkehknaclhlaa
