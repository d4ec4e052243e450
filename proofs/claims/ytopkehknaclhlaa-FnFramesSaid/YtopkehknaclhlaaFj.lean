/- Frames are turned back and sealed. No condition. -/
import Derived.Test.YtopkehknaclhlaaFi
import Derived.Test.YtopkehknaclhlaaMt
import Derived.Test.YtopkehknaclhlaaIs
import Derived.Deep.RegionHeld3
namespace Go.Proofs.Ytopkehknaclhlaa
open Go Go.RowKit

/-- The sum, where it is told; else a NaN. -/
def AddR (a b x : Nat) : Prop := floatBits .add .f32 a b = some x ∨ (floatBits .add .f32 a b = none ∧ isN .f32 x = true)
def SumK (g : Nat → Nat) : Nat → Nat → Prop
  | 0, s => s = 0
  | k + 1, x => ∃ s, SumK g k s ∧ AddR s (g k) x

theorem addR_fbin (a b : Nat) (w : World) : AddR a b (fbin .add .f32 a b w) := by
  unfold AddR fbin
  cases h : floatBits .add .f32 a b with
  | some r => exact .inl rfl
  | none => exact .inr ⟨rfl, isN_bin _ _ _ _⟩
theorem fbin_sub_nan {a : Nat} (h : isN .f32 a = true) (b : Nat) (w : World) : isN .f32 (fbin .sub .f32 a b w) = true := by
  unfold fbin
  rw [floatBits_nan_left .sub .f32 a b h]
  exact isN_bin _ _ _ _

theorem sumK_same {g : Nat → Nat} : ∀ {k : Nat} {x y : Nat}, SumK g k x → SumK g k y → isN .f32 x = false → y = x
  | 0, x, y, hx, hy, _ => by rw [show x = 0 from hx, show y = 0 from hy]
  | k + 1, x, y, hx, hy, hn => by
    obtain ⟨s, hs, ha⟩ := hx
    obtain ⟨t, ht, hb⟩ := hy
    rcases ha with ha | ⟨_, ha⟩
    · have hsn : isN .f32 s = false := by
        cases h : isN .f32 s
        · rfl
        · rw [floatBits_nan_left .add .f32 s (g k) h] at ha; cases ha
      obtain rfl := sumK_same hs ht hsn
      rcases hb with hb | ⟨hb, _⟩
      · rw [ha] at hb; exact (Option.some.inj hb).symm
      · rw [ha] at hb; cases hb
    · rw [ha] at hn; cases hn
theorem sumK_congr {g h : Nat → Nat} : ∀ {k : Nat} {x : Nat}, (∀ j, j < k → g j = h j) → SumK g k x → SumK h k x
  | 0, _, _, hx => hx
  | k + 1, _, hg, ⟨s, hs, ha⟩ => ⟨s, sumK_congr (fun j hj => hg j (by omega)) hs, by rw [← hg k (by omega)]; exact ha⟩

set_option maxHeartbeats 400000 in
theorem add_calls (w : World) (a b c d : Nat) : Calls Try.prog 140 #[.complex .f32 a b, .complex .f32 c d] w (fun e w' => ∃ x y n, AddR a c x ∧ AddR b d y ∧ x < 4294967296 ∧ y < 4294967296 ∧ e = .returned (.complex .f32 x y) ∧ w' = w.drewN n) := by
  go_enter Try.func140, Try.ntmps140
  go_wp2
  go_ret
  exact ⟨_, _, _, addR_fbin a c _, addR_fbin b d _, fbin_lt _ _ _ _, fbin_lt _ _ _ _, rfl, rfl⟩

theorem u32_xor (x : Nat) (h : x < 4294967296) : bits .xor .u32 (x : Int) 2147483648 = ((Op.negFloat .f32 x : Nat) : Int) := by
  have e : (BitVec.ofInt 32 2147483648).toNat = 2 ^ 31 := by decide
  have hn : Op.negFloat .f32 x = x ^^^ 2 ^ 31 := rfl
  have key : (BitVec.ofInt 32 (x : Int) ^^^ BitVec.ofInt 32 2147483648).toNat = Op.negFloat .f32 x := by
    rw [BitVec.toNat_xor, BitVec.toNat_ofInt, e, hn]
    have e2 : ((x : Int) % ((2 ^ 32 : Nat) : Int)).toNat = x := by omega
    rw [e2]
  have hlt := neg_lt h
  show IntKind.u32.wrap ((BitVec.ofInt 32 (x : Int) ^^^ BitVec.ofInt 32 2147483648).toNat : Nat) = _
  rw [key]
  simp [IntKind.wrap, IntKind.signed, IntKind.bits]
  omega

set_option maxHeartbeats 400000 in
theorem flip_calls (w : World) (x : Nat) (h : x < 4294967296) : Calls Try.prog 141 #[.float .f32 x] w (fun e w' => e = .returned (.float .f32 (Op.negFloat .f32 x)) ∧ w = w') := by
  have hx := @run_f32bits
  have hy := @run_f32frombits
  have e1 := u32_xor x h
  go_enter Try.func141, Try.ntmps141
  go_wp2
  go_ret
  exact ⟨rfl, rfl⟩

/-- What seals a frame comes back. -/
def RSeal (w : World) (f : Fr8) (e : Ending) (w' : World) : Prop :=
  ∃ x y, SumK (fun j => (f j).1) 7 x ∧ SumK (fun j => (f j).2) 7 y ∧ e = .returned (.complex .f32 (Op.negFloat .f32 x) (Op.negFloat .f32 y)) ∧ Chg (fun _ => False) w w'

set_option maxRecDepth 100000 in
set_option maxHeartbeats 2000000 in
theorem seal_calls (w : World) (f : Fr8) : Calls Try.prog 104 #[.agg (FA f)] w (RSeal w f) := by
  have H0 := hid (heap_new w (.cells (FA f) 59))
  have G0 := hid ((Chg.refl (fun _ => False) w).alloc (.cells (FA f) 59))
  go_enter Try.func104, Try.ntmps104
  go_wp2_with fail
  go_loopw [3, 8] (fun s i wr => ∃ (k x y : Nat), k ≤ 7 ∧ i = .int .i64 (k : Int) ∧ s = .complex .f32 x y ∧ Hid (SumK (fun j => (f j).1) k x ∧ SumK (fun j => (f j).2) k y ∧ x < 4294967296 ∧ y < 4294967296) ∧ Hid (wr.heap[w.heap.size]? = some (.cells (FA f) 59 (0, 0))) ∧ Hid (Chg (fun _ => False) w wr)) (fun _ i _ => 7 - (intOf i).toNat)
  case atStart => exact ⟨0, 0, 0, by omega, rfl, rfl, hid ⟨rfl, rfl, by omega, by omega⟩, H0, G0⟩
  case round =>
    obtain ⟨k, x, y, hk, rfl, rfl, HS, H, G⟩ := hrel
    clear H0 G0
    by_cases hlt : k < 7
    · have hlt' : (k : Int) < 7 := by omega
      have c1 : wr.cell? ⟨w.heap.size, k, none⟩ = some (.complex .f32 (f k).1 (f k).2) := (cell_at H.out).trans (FA_get f (by omega))
      go_wp2_with fail
      refine (add_calls _ _ _ _ _).mono ?_
      rintro e w1 ⟨x', y', n, hx, hy, lx, ly, rfl, rfl⟩
      have HS2 := hid (show SumK (fun j => (f j).1) (k + 1) x' ∧ SumK (fun j => (f j).2) (k + 1) y' ∧ x' < 4294967296 ∧ y' < 4294967296 from ⟨⟨x, HS.out.1, hx⟩, ⟨y, HS.out.2.1, hy⟩, lx, ly⟩)
      clear hx hy HS
      go_wp2_with fail
      go_roundw
      case rel => exact ⟨k + 1, x', y', by omega, by go_num, rfl, HS2, H, hid (G.out.drewN n)⟩
      case measure => simp [intOf]; omega
    · obtain rfl : k = 7 := by omega
      have hlt' : ¬ ((7 : Nat) : Int) < 7 := by omega
      go_wp2_with fail
      refine (flip_calls _ _ HS.out.2.2.1).mono ?_
      rintro e w1 ⟨rfl, rfl⟩
      go_wp2_with fail
      refine (flip_calls _ _ HS.out.2.2.2).mono ?_
      rintro e w1 ⟨rfl, rfl⟩
      go_wp2_with fail
      go_ret
      exact ⟨x, y, HS.out.1, HS.out.2.1, rfl, G.out⟩
end Go.Proofs.Ytopkehknaclhlaa
