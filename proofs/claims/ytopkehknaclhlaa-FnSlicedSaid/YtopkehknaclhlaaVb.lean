/- Distances and finite points, walked; tables, plainly. Conditions: as each says. -/
import Derived.Test.YtopkehknaclhlaaVa
import Derived.Test.YtopkehknaclhlaaTc
import Derived.Test.YtopkehknaclhlaaFa
import Derived.Test.YtopkehknaclhlaaMb
namespace Go.Proofs.Ytopkehknaclhlaa
open Go Go.RowKit

/-- A distance comes back: determined bits, or a NaN. -/
def RDist (w : World) (p z : Nat × Nat) (e : Ending) (w' : World) : Prop := ∃ d, e = .returned (.float .f32 d) ∧ DistV (dO p z) d ∧ ∃ n, w' = w.drewN n
set_option maxHeartbeats 2000000 in
theorem DistanceS_calls (w : World) (a b c d : Nat) : Calls Try.prog 166 #[.complex .f32 a b, .complex .f32 c d] w (RDist w (a, b) (c, d)) := by
  go_enter Try.func166, Try.ntmps166
  go_wp2
  go_ret
  exact ⟨_, rfl, dist_val (a, b) (c, d) _ _ _ _ _, _, rfl⟩
set_option maxHeartbeats 2000000 in
theorem Distance_calls (w : World) (a b c d : Nat) : Calls Try.prog 187 #[.complex .f32 a b, .complex .f32 c d] w (RDist w (a, b) (c, d)) := by
  go_enter Try.func187, Try.ntmps187
  go_wp2
  go_ret
  exact ⟨_, rfl, dist_val (a, b) (c, d) _ _ _ _ _, _, rfl⟩

theorem u32_rung (x : Nat) (h : x < 4294967296) : bits .and .u32 (x : Int) 2147483647 = ((x % 2147483648 : Nat) : Int) := by
  have e : (BitVec.ofInt 32 2147483647).toNat = 2 ^ 31 - 1 := by decide
  have key : (BitVec.ofInt 32 (x : Int) &&& BitVec.ofInt 32 2147483647).toNat = x % 2147483648 := by
    rw [BitVec.toNat_and, BitVec.toNat_ofInt, e, Nat.and_two_pow_sub_one_eq_mod]
    omega
  show IntKind.u32.wrap ((BitVec.ofInt 32 (x : Int) &&& BitVec.ofInt 32 2147483647).toNat : Nat) = _
  rw [key]
  simp [IntKind.wrap, IntKind.signed, IntKind.bits]
  omega
set_option maxHeartbeats 400000 in
theorem isFinite_calls (w : World) (x : Nat) (h : x < 4294967296) : Calls Try.prog 196 #[.float .f32 x] w (fun e w' => e = .returned (.bool (fin x)) ∧ w' = w) := by
  have hx := @run_f32bits
  have e1 := u32_rung x h
  have e2 : fin x = decide (((x % 2147483648 : Nat) : Int) ≤ 2139095039) := by
    unfold fin
    by_cases a : x % 2147483648 < 2139095040
    · rw [decide_eq_true a, decide_eq_true (by omega)]
    · rw [decide_eq_false a, decide_eq_false (by omega)]
  rw [e2]
  clear e2
  generalize (x % 2147483648) = y at *
  go_enter Try.func196, Try.ntmps196
  go_wp2
  go_ret
  exact ⟨rfl, rfl⟩
def finC (z : Nat × Nat) : Bool := fin z.1 && fin z.2
set_option maxHeartbeats 400000 in
theorem isFinitePoint_calls (w : World) (a b : Nat) (ha : a < 4294967296) (hb : b < 4294967296) : Calls Try.prog 183 #[.complex .f32 a b] w (fun e w' => e = .returned (.bool (finC (a, b))) ∧ w' = w) := by
  have h1 := isFinite_calls w a ha
  have h2 := isFinite_calls w b hb
  clear ha hb
  unfold finC
  show Calls Try.prog 183 #[.complex .f32 a b] w (fun e w' => e = .returned (.bool (fin a && fin b)) ∧ w' = w)
  cases hf : fin a
  · rw [hf] at h1
    go_enter Try.func183, Try.ntmps183
    go_wp2_with fail
    refine h1.mono ?_
    rintro e w1 ⟨rfl, rfl⟩
    go_wp2_with fail
    go_ret
    exact ⟨rfl, rfl⟩
  · rw [hf] at h1
    go_enter Try.func183, Try.ntmps183
    go_wp2_with fail
    refine h1.mono ?_
    rintro e w1 ⟨rfl, rfl⟩
    go_wp2_with fail
    refine h2.mono ?_
    rintro e w2 ⟨rfl, rfl⟩
    go_wp2_with fail
    go_ret
    exact ⟨by cases fin b <;> rfl, rfl⟩
set_option maxHeartbeats 400000 in
theorem l2Finite_calls (w : World) (a b : Nat) : Calls Try.prog 165 #[.complex .f32 a b] w (fun e w' => e = .returned (.bool (finC (a, b))) ∧ Chg (fun _ => False) w w') := by
  have h1 := Finite_calls w a
  have h2 := fun w => Finite_calls w b
  unfold finC
  show Calls Try.prog 165 #[.complex .f32 a b] w (fun e w' => e = .returned (.bool (fin a && fin b)) ∧ Chg (fun _ => False) w w')
  cases hf : fin a
  · rw [hf] at h1
    go_enter Try.func165, Try.ntmps165
    go_wp2_with fail
    refine h1.mono ?_
    rintro e w1 ⟨rfl, hG⟩
    go_wp2_with fail
    go_ret
    exact ⟨rfl, hG⟩
  · rw [hf] at h1
    go_enter Try.func165, Try.ntmps165
    go_wp2_with fail
    refine h1.mono ?_
    rintro e w1 ⟨rfl, hG⟩
    go_wp2_with fail
    refine (h2 _).mono ?_
    rintro e w2 ⟨rfl, hG2⟩
    go_wp2_with fail
    go_ret
    exact ⟨by cases fin b <;> rfl, hG.trans hG2 fun _ _ h => h⟩

/-- Points apart from each other, and finite. -/
structure TOk (xs : List (Nat × Nat)) : Prop where
  len : xs.length ≤ 64
  fin : ∀ z ∈ xs, finC z = true
  word : ∀ z ∈ xs, z.1 < 4294967296 ∧ z.2 < 4294967296
  dj : ∀ i j, i < j → j < xs.length → eqC (xs.getD i (0, 0)) (xs.getD j (0, 0)) = false
/-- Are the first k points so? (But for their words.) -/
def okTo (xs : List (Nat × Nat)) (k : Nat) : Prop := (∀ i, i < k → finC (xs.getD i (0, 0)) = true) ∧ ∀ i j, i < j → j < k → eqC (xs.getD i (0, 0)) (xs.getD j (0, 0)) = false
theorem TOk.to {xs : List (Nat × Nat)} (h : TOk xs) (k : Nat) (hk : k ≤ xs.length) : okTo xs k :=
  ⟨fun i hi => h.fin _ (by rw [List.getD_eq_getElem?_getD, List.getElem?_eq_getElem (by omega)]; exact List.getElem_mem _), fun i j h1 h2 => h.dj i j h1 (by omega)⟩
/-- The first point that is equal to one. -/
def atTo (xs : List (Nat × Nat)) (z : Nat × Nat) (k : Nat) : Prop := ∀ i, i < k → eqC (xs.getD i (0, 0)) z = false
end Go.Proofs.Ytopkehknaclhlaa
