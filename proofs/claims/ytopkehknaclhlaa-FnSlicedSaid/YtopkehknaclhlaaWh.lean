/- A byte of a code; samples whose parts are small whole numbers. Conditions: at most 2^20 bytes. -/
import Derived.Test.YtopkehknaclhlaaSm
import Derived.Test.YtopkehknaclhlaaFr
namespace Go.Proofs.Ytopkehknaclhlaa
open Go Go.RowKit

/-- A number from 0 to 255 comes back. -/
def RAt (w : World) (e : Ending) (w' : World) : Prop := ∃ x : Nat, x ≤ 255 ∧ e = .returned (.int .i64 (x : Int)) ∧ w = w'

set_option maxHeartbeats 1000000 in
theorem at_calls (w : World) (a : Option Addr) (len cap : Nat) (hy : Bytes w w.heap.size a len cap) (i : Nat) (hi : i ≤ 10000) :
    Calls Try.prog 56 #[.slice a len cap, .int .i64 (i : Int)] w (RAt w) := by
  have HY := hid hy
  have hl := hy.2.1
  clear hy
  by_cases hlt : i < len
  · have hlt' : (i : Int) < (len : Int) := by omega
    obtain ⟨b, off, z, rfl, hb, hz, hz0, hz1⟩ := HY.out.2.2 i hlt
    obtain ⟨x, rfl⟩ := Int.eq_ofNat_of_zero_le hz0
    go_enter Try.func56, Try.ntmps56
    go_wp2
    go_ret
    exact ⟨x, by omega, rfl, rfl⟩
  · have hlt' : ¬ (i : Int) < (len : Int) := by omega
    have i0 : (0 : Int) ≤ (i : Int) := by omega
    have i1 : (i : Int) ≤ 10000 := by omega
    have l0 : (0 : Int) ≤ (len : Int) := by omega
    have l1 : (len : Int) ≤ 1048576 := by omega
    go_enter Try.func56, Try.ntmps56
    go_wp2
    go_ret
    exact ⟨(i * 37 + len * 11) % 256, by omega, by congr 2, rfl⟩

/-- Parts of a small whole number. -/
def Whole (z : Nat × Nat) : Prop := ∃ x y : Int, -3 ≤ x ∧ x ≤ 3 ∧ -3 ≤ y ∧ y ≤ 3 ∧ z = (floatOfInt .f32 x, floatOfInt .f32 y)

/-- A list of whole samples comes back. -/
def RWhole (w : World) (most : Nat) (e : Ending) (w' : World) : Prop :=
  ∃ a cap xs, xs.length ≤ most ∧ (∀ z ∈ xs, Whole z) ∧ e = .returned (.slice a xs.length cap) ∧ OwnC w' w.heap.size (.slice a xs.length cap) xs ∧ Chg (fun _ => False) w w'

set_option maxHeartbeats 2000000 in
theorem MakeWhole_calls (w : World) (a0 : Option Addr) (len cap0 : Nat) (hy : Bytes w w.heap.size a0 len cap0) (n : Nat) (h0 : 0 < n) (hn : n ≤ 100) :
    Calls Try.prog 68 #[.slice a0 len cap0, .int .i64 (n : Int)] w (RWhole w n) := by
  have HY := hid hy
  clear hy
  go_enter Try.func68, Try.ntmps68
  go_wp2_with fail
  refine (l01New_calls _ _ _ _ HY.out).mono ?_
  rintro e w0 ⟨c, hc, rfl, hc0, g0⟩
  have HC0 := hid hc0
  have ltc := hc0.lt
  have z0 := g0.size
  clear hc0
  go_wp2_with fail
  refine (l01Below_calls _ c (HC0.out.alloc _) ((n : Int) + 1) (by omega) (by omega)).mono ?_
  rintro e w1 ⟨x, x0, x1, rfl, hc1, g1⟩
  have HC1 := hid hc1
  have O1 := hid ((OwnC.lit w0 [] 33 rfl (by simp) (Nat.le_refl w0.heap.size) #[] rfl).chg g1 (fun n h1 _ e => by omega))
  have z1 := g1.size
  simp at z1
  obtain ⟨m, rfl⟩ := Int.eq_ofNat_of_zero_le x0
  clear hc1
  have G1 := hid (((Chg.refl (fun k => k = c) w0).alloc (.cells #[] 33)).trans g1 fun _ _ h => h)
  have G0 := hid g0
  clear g1 g0 HC0
  go_wp2_with fail
  go_loopw [6, 7] (fun s i wr => ∃ (a : Option Addr) (cap k : Nat) (xs : List (Nat × Nat)), k + xs.length ≤ n ∧ i = .int .i64 (k : Int) ∧ s = .slice a xs.length cap ∧ Hid (∀ z ∈ xs, Whole z) ∧ Hid (OwnC wr w0.heap.size (.slice a xs.length cap) xs) ∧ Hid (Cur wr c) ∧ Hid (Chg (fun k => k = c) w0 wr)) (fun _ i _ => (intOf i).toNat)
  case atStart => exact ⟨_, _, m, [], by simp; omega, rfl, rfl, hid (by simp), O1, HC1, G1⟩
  case round =>
    obtain ⟨a, cap, k, xs, hk, rfl, rfl, HWH, HO, HW, G⟩ := hrel
    clear O1 HC1 G1
    have zr := G.out.size
    by_cases hlt : 0 < k
    · have hlt' : (0 : Int) < (k : Int) := by omega
      go_wp2_with fail
      refine (l2Small_calls _ c HW.out).mono ?_
      rintro e w2 ⟨x, y, hx1, hx2, hy1, hy2, rfl, hc2, g2⟩
      have HZ := hid (show Whole (floatOfInt .f32 x, floatOfInt .f32 y) from ⟨x, y, hx1, hx2, hy1, hy2, rfl⟩)
      clear hx1 hx2 hy1 hy2
      generalize floatOfInt .f32 x = p at *
      generalize floatOfInt .f32 y = q at *
      have HC3 := hid hc2
      have HO3 := hid (HO.out.chg g2 (fun n h1 _ e => by omega))
      have G3 := hid (G.out.trans g2 fun _ _ h => h)
      clear hc2 g2 HW HO G
      have z3 := G3.out.size
      have HO4 := hid (HO3.out.chg ((Chg.refl (fun _ => False) w2).alloc (.cells #[.complex .f32 p q] 33)) (fun _ _ _ h => h))
      go_wp2_with (at_builtin; refine wpList_app _ rfl _ _ rfl w0.heap.size _ _ xs [(p, q)] rfl HO4.out rfl (OwnC.lit w2 [(p, q)] _ rfl (by simp) (Nat.zero_le _) #[.complex .f32 p q] rfl) (by simp; omega) (by simp; omega) ?_)
      intro a' c' w' hO hG
      have HO5 := hid hO
      have GT := ((Chg.refl (fun n => some n = (Value.slice a xs.length cap).ownBlock) w2).alloc (.cells #[.complex .f32 p q] 33)).trans hG (fun _ _ h => h)
      have G5 := hid (G3.out.trans GT (fun n h1 h2 => absurd h1 (by have := (HO3.out.own_lt h2); omega)))
      have HC5 := hid (HC3.out.chg GT (fun n h1 h2 => by have := (HO3.out.own_lt h2); omega))
      clear hO hG GT HO4 HO3 HC3 G3
      go_wp2
      go_roundw
      case rel => exact ⟨a', c', k - 1, xs ++ [(p, q)], by simp; omega, by go_num, by simp, hid (by
        intro z hz
        rcases List.mem_append.mp hz with h | h
        · exact HWH.out z h
        · obtain rfl : z = (p, q) := by simpa using h
          exact HZ.out), by simpa using HO5, HC5, G5⟩
      case measure => simp [intOf]; omega
    · obtain rfl : k = 0 := by omega
      go_wp2
      go_ret
      exact ⟨_, _, xs, by omega, HWH.out, rfl, HO.out.mono z0, G0.out.trans G.out fun n hn e => by omega⟩
end Go.Proofs.Ytopkehknaclhlaa
