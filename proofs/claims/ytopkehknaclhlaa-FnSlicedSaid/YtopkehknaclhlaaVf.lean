/- The reference's grid of points. Conditions: a side from 1 to 8. (Printed by gen_vf.py.) -/
import Derived.Test.YtopkehknaclhlaaVe
namespace Go.Proofs.Ytopkehknaclhlaa
open Go Go.RowKit

/-- The first k points of a grid. -/
def gridP (s k : Nat) : List (Nat × Nat) := (List.range k).map fun t => (floatOfInt .f32 (2 * ((t / s : Nat) : Int) - (s : Int) + 1), floatOfInt .f32 (2 * ((t % s : Nat) : Int) - (s : Int) + 1))
def gridL (k : Nat) : List Int := (List.range k).map fun (t : Nat) => (t : Int)
theorem gridP_len (s k : Nat) : (gridP s k).length = k := by simp [gridP]
theorem gridL_len (k : Nat) : (gridL k).length = k := by simp [gridL]
theorem gridP_next (s i j : Nat) (h : j < s) : gridP s (i * s + j + 1) = gridP s (i * s + j) ++ [(floatOfInt .f32 (2 * (i : Int) - (s : Int) + 1), floatOfInt .f32 (2 * (j : Int) - (s : Int) + 1))] := by
  have h1 : (i * s + j) / s = i := by rw [Nat.mul_comm, Nat.mul_add_div (by omega), Nat.div_eq_of_lt h, Nat.add_zero]
  have h2 : (i * s + j) % s = j := by rw [Nat.mul_comm, Nat.mul_add_mod, Nat.mod_eq_of_lt h]
  unfold gridP
  rw [List.range_succ, List.map_append, List.map_singleton, h1, h2]
theorem gridL_next (k : Nat) : gridL (k + 1) = gridL k ++ [(k : Int)] := by
  unfold gridL
  rw [List.range_succ, List.map_append, List.map_singleton]

/-- The grid of a side comes back. -/
def RGr (w : World) (s : Nat) (e : Ending) (w' : World) : Prop :=
  ∃ a c a2 c2, e = .returned (.tuple #[.agg #[.slice a (s * s) c, .slice a2 (s * s) c2], .bool true]) ∧ OwnC w' w.heap.size (.slice a (s * s) c) (gridP s (s * s)) ∧ OwnN w' w.heap.size (.slice a2 (s * s) c2) (gridL (s * s)) ∧ Chg (fun _ => False) w w'

set_option maxRecDepth 100000 in
set_option maxHeartbeats 4000000 in
theorem GridTable_calls (w : World) (s : Nat) (h1 : 1 ≤ s) (h8 : s ≤ 8) :
    Calls Try.prog 83 #[.int .i64 (s : Int)] w (RGr w s) := by
  have A1 := ((Chg.refl (fun _ => False) w).alloc (.cells #[.slice none 0 0, .slice none 0 0] 36)).alloc (.cells #[.slice none 0 0, .slice none 0 0] 36)
  have R0 := hid (show ((w.alloc (.cells #[.slice none 0 0, .slice none 0 0] 36)).alloc (.cells #[.slice none 0 0, .slice none 0 0] 36)).heap[w.heap.size]? = _ from heap_old (heap_new w _))
  have R1 := hid (show ((w.alloc (.cells #[.slice none 0 0, .slice none 0 0] 36)).alloc (.cells #[.slice none 0 0, .slice none 0 0] 36)).heap[w.heap.size + 1]? = _ from heap_new' (w := w.alloc _) (b := w.heap.size + 1) (by simp))
  have HO := hid (OwnC.nil ((w.alloc (.cells #[.slice none 0 0, .slice none 0 0] 36)).alloc (.cells #[.slice none 0 0, .slice none 0 0] 36)) w.heap.size)
  have HV := hid (OwnR.nil encN ((w.alloc (.cells #[.slice none 0 0, .slice none 0 0] 36)).alloc (.cells #[.slice none 0 0, .slice none 0 0] 36)) w.heap.size)
  have HG := hid A1
  have Z1 : ((w.alloc (.cells #[.slice none 0 0, .slice none 0 0] 36)).alloc (.cells #[.slice none 0 0, .slice none 0 0] 36)).heap.size = w.heap.size + 2 := by simp
  clear A1
  have s1 : (1 : Int) ≤ (s : Int) := by omega
  have s8 : (s : Int) ≤ 8 := by omega
  go_enter Try.func83, Try.ntmps83
  go_upto_region 1 with fail
  go_wp2_with fail
  refine (l1In_yes _ (s : Int) 1 8 s1 s8).mono ?_
  rintro e w0 ⟨rfl, rfl⟩
  go_upto_region 4 with fail
  generalize (w.alloc (.cells #[.slice none 0 0, .slice none 0 0] 36)).alloc (.cells #[.slice none 0 0, .slice none 0 0] 36) = w1 at *
  go_wp2_with fail
  go_loopw [5] (fun x wr => ∃ (i k : Nat) (a : Option Addr) (c : Nat) (a2 : Option Addr) (c2 : Nat), i ≤ s ∧ k = i * s ∧ x = .int .i64 (i : Int) ∧ Hid (OwnC wr w.heap.size (.slice a k c) (gridP s k)) ∧ Hid (OwnN wr w.heap.size (.slice a2 k c2) (gridL k)) ∧ Hid (wr.heap[w.heap.size + 1]? = some (.cells #[.slice a k c, .slice a2 k c2] 36 (0, 0))) ∧ Hid (wr.heap[w.heap.size]? = some (.cells #[.slice none 0 0, .slice none 0 0] 36 (0, 0))) ∧ Hid (Chg (fun _ => False) w wr)) (fun x _ => s - (intOf x).toNat)
  case atStart => exact ⟨0, 0, none, 0, none, 0, Nat.zero_le _, by simp, rfl, HO, HV, R1, R0, HG⟩
  case round =>
    obtain ⟨i, k, a, c, a2, c2, hi, hk, rfl, HO2, HV2, R12, R02, HG2⟩ := hrel
    obtain ⟨w2, rfl⟩ : ∃ w2 : World, w2 = wr := ⟨_, rfl⟩
    clear HO HV R1 R0 HG
    by_cases hlt : i < s
    · have hlt' : (i : Int) < (s : Int) := by omega
      go_wp2_with fail
      go_loopw [6] (fun y wr => ∃ (j k : Nat) (a : Option Addr) (c : Nat) (a2 : Option Addr) (c2 : Nat), j ≤ s ∧ k = i * s + j ∧ y = .int .i64 (j : Int) ∧ Hid (OwnC wr w.heap.size (.slice a k c) (gridP s k)) ∧ Hid (OwnN wr w.heap.size (.slice a2 k c2) (gridL k)) ∧ Hid (wr.heap[w.heap.size + 1]? = some (.cells #[.slice a k c, .slice a2 k c2] 36 (0, 0))) ∧ Hid (wr.heap[w.heap.size]? = some (.cells #[.slice none 0 0, .slice none 0 0] 36 (0, 0))) ∧ Hid (Chg (fun _ => False) w wr)) (fun y _ => s - (intOf y).toNat)
      case atStart => exact ⟨0, k, a, c, a2, c2, Nat.zero_le _, by omega, rfl, HO2, HV2, R12, R02, HG2⟩
      case round =>
        clear HO2 HV2 R12 R02 HG2
        clear a c a2 c2 hk k
        obtain ⟨j, k, a, c, a2, c2, hj, hk, rfl, HO, HV, R1, R0, HG⟩ := hrel
        obtain ⟨w5, rfl⟩ : ∃ w2 : World, w2 = wr := ⟨_, rfl⟩
        have zg := HG.out.size
        by_cases hltj : j < s
        · have hltj' : (j : Int) < (s : Int) := by omega
          have k63 : k ≤ 63 := by
            have h1 : i * s ≤ 7 * s := Nat.mul_le_mul_right s (by omega)
            omega
          have lP := gridP_len s k
          have lL := gridL_len k
          have LP := hid lP
          have LL := hid lL
          have NP := hid (gridP_next s i j (by omega))
          have NL := hid (gridL_next k)
          rw [← hk] at NP
          have ks : (i : Int) * (s : Int) + (j : Int) = (k : Int) := by rw [hk]; simp
          have KS := hid ks
          have ki : (i : Int) * (s : Int) ≤ 63 := by omega
          have k0 : (0 : Int) ≤ (i : Int) * (s : Int) := by omega
          have HK := hid hk
          clear lP lL hk ks
          generalize hPs : gridP s k = xs at *
          generalize hLs : gridL k = zs at *
          clear hPs hLs
          have kR8o := cells_at R1.out
          have A1 := (Chg.refl (fun _ => False) w5).alloc (.cells #[(.complex .f32 (floatOfInt .f32 (2 * (i : Int) - (s : Int) + 1)) (floatOfInt .f32 (2 * (j : Int) - (s : Int) + 1)))] 33)
          have L8 := hid (OwnC.lit w5 [(floatOfInt .f32 (2 * (i : Int) - (s : Int) + 1), floatOfInt .f32 (2 * (j : Int) - (s : Int) + 1))] 33 rfl (by simp) (Nat.zero_le _) #[(.complex .f32 (floatOfInt .f32 (2 * (i : Int) - (s : Int) + 1)) (floatOfInt .f32 (2 * (j : Int) - (s : Int) + 1)))] rfl)
          replace HO := hid (HO.out.chg A1 fun _ _ _ h => h)
          replace HV := hid (HV.out.chg A1 fun _ _ _ h => h)
          replace R1 := hid (A1.heap R1.out (fun h => h))
          replace R0 := hid (A1.heap R0.out (fun h => h))
          replace HG := hid (HG.out.trans A1 fun _ _ h => h)
          have z5 : w.heap.size ≤ (w5.alloc (.cells #[(.complex .f32 (floatOfInt .f32 (2 * (i : Int) - (s : Int) + 1)) (floatOfInt .f32 (2 * (j : Int) - (s : Int) + 1)))] 33)).heap.size := by simp; omega
          clear A1
          have kR8 := cells_at R1.out
          have fR8 := frees_at R1.out
          go_wp2_with (at_builtin; refine wpList_appW _ rfl _ _ rfl w.heap.size _ _ xs [(floatOfInt .f32 (2 * (i : Int) - (s : Int) + 1), floatOfInt .f32 (2 * (j : Int) - (s : Int) + 1))] rfl HO.out rfl L8.out (by rw [LP.out]; simp; omega) z5 ?_)
          intro a9 c9 w9 hO hG
          have zw9 := hG.size
          rw [LP.out] at hO
          rw [LP.out]
          have HO9 := hid (show OwnC w9 w.heap.size (.slice a9 (k + 1) c9) (gridP s (k + 1)) from by rw [NP.out]; exact hO)
          have R19 := hid (hG.heap R1.out (fun h => apTC HO.out R1.out (by decide) h))
          have R09 := hid (hG.heap R0.out (fun h => apTC HO.out R0.out (by decide) h))
          have HV9 := hid (HV.out.chgN hG (fun q h1 h2 => apartC (by decide) HO.out HV.out h2 h1))
          have G9 := hid (HG.out.trans hG (fun q hq h => by have := HO.out.own_lt h; omega))
          clear hO hG HO HV R1 R0 HG kR8 kR8o fR8 L8 NP LP
          try simp only [List.length_cons, List.length_nil, Nat.zero_add]
          have kR8 := cells_at R19.out
          have fR8 := frees_at R19.out
          go_upto_region 11 with fail
          have CS := (Chg.refl (fun q => q = w.heap.size + 1) w9).setCell (p := ⟨w.heap.size + 1, 0, none⟩) (.inl rfl) (.slice a9 (k + 1) c9)
          have R1x := hid (show (w9.setCell ⟨w.heap.size + 1, 0, none⟩ (.slice a9 (k + 1) c9)).heap[w.heap.size + 1]? = some (.cells #[.slice a9 (k + 1) c9, .slice a2 k c2] 36 (0, 0)) from by simpa using heap_set (k := 0) (v := .slice a9 (k + 1) c9) R19.out)
          have R0x := hid (CS.heap R09.out (by show ¬ (w.heap.size = w.heap.size + 1); omega))
          have HOx := hid (HO9.out.chgN CS (fun q h1 h2 => by subst h2; exact apTC HO9.out R19.out (by decide) h1))
          have HVx := hid (OwnR.chgN HV9.out CS (fun q h1 h2 => by subst h2; exact apT HV9.out R19.out (by decide) h1))
          have Gx := hid (G9.out.trans CS (fun q hq (e : q = w.heap.size + 1) => by omega))
          have zwx : w9.heap.size ≤ (w9.setCell ⟨w.heap.size + 1, 0, none⟩ (.slice a9 (k + 1) c9)).heap.size := CS.size
          clear CS R19 R09 HO9 HV9 G9 kR8 fR8
          generalize w9.setCell ⟨w.heap.size + 1, 0, none⟩ (.slice a9 (k + 1) c9) = w10 at *
          have kR8o := cells_at R1x.out
          have A1 := (Chg.refl (fun _ => False) w10).alloc (.cells #[.int .i64 ((i : Int) * (s : Int) + (j : Int))] 3)
          have L9 := hid (OwnR.lit encN w10 [(i : Int) * (s : Int) + (j : Int)] (by simp) (Nat.zero_le _) #[.int .i64 ((i : Int) * (s : Int) + (j : Int))] 3 rfl rfl)
          replace R1x := hid (A1.heap R1x.out (fun h => h))
          replace R0x := hid (A1.heap R0x.out (fun h => h))
          replace HOx := hid (HOx.out.chg A1 fun _ _ _ h => h)
          replace HVx := hid (HVx.out.chg A1 fun _ _ _ h => h)
          replace Gx := hid (Gx.out.trans A1 fun _ _ h => h)
          have z6 : w.heap.size ≤ (w10.alloc (.cells #[.int .i64 ((i : Int) * (s : Int) + (j : Int))] 3)).heap.size := by simp; omega
          clear A1
          have kR8 := cells_at R1x.out
          have fR8 := frees_at R1x.out
          go_wp2_with (at_builtin; go_loud (refine wpList_appR encN _ rfl _ _ rfl w.heap.size _ _ zs [(i : Int) * (s : Int) + (j : Int)] rfl HVx.out rfl L9.out (by rw [LL.out]; simp; omega) z6 ?_))
          intro a11 c11 w11 hV hG
          have zw11 := hG.size
          rw [LL.out] at hV
          rw [LL.out]
          have HV9 := hid (show OwnN w11 w.heap.size (.slice a11 (k + 1) c11) (gridL (k + 1)) from by rw [NL.out, ← KS.out]; exact hV)
          have R19 := hid (hG.heap R1x.out (fun h => apT HVx.out R1x.out (by decide) h))
          have R09 := hid (hG.heap R0x.out (fun h => apT HVx.out R0x.out (by decide) h))
          have HO9 := hid (HOx.out.chgN hG (fun q h1 h2 => apartC (by decide) HOx.out HVx.out h1 h2))
          have G9 := hid (Gx.out.trans hG (fun q hq h => by have := OwnR.own_lt HVx.out h; omega))
          clear hV hG HOx HVx R1x R0x Gx kR8 kR8o fR8 L9 LL NL
          try simp only [List.length_cons, List.length_nil, Nat.zero_add]
          have kR8 := cells_at R19.out
          have fR8 := frees_at R19.out
          go_upto_region 9 with fail
          have CS := (Chg.refl (fun q => q = w.heap.size + 1) w11).setCell (p := ⟨w.heap.size + 1, 1, none⟩) (.inl rfl) (.slice a11 (k + 1) c11)
          have R1x := hid (show (w11.setCell ⟨w.heap.size + 1, 1, none⟩ (.slice a11 (k + 1) c11)).heap[w.heap.size + 1]? = some (.cells #[.slice a9 (k + 1) c9, .slice a11 (k + 1) c11] 36 (0, 0)) from by simpa using heap_set (k := 1) (v := .slice a11 (k + 1) c11) R19.out)
          have R0x := hid (CS.heap R09.out (by show ¬ (w.heap.size = w.heap.size + 1); omega))
          have HOx := hid (HO9.out.chgN CS (fun q h1 h2 => by subst h2; exact apTC HO9.out R19.out (by decide) h1))
          have HVx := hid (OwnR.chgN HV9.out CS (fun q h1 h2 => by subst h2; exact apT HV9.out R19.out (by decide) h1))
          have Gx := hid (G9.out.trans CS (fun q hq (e : q = w.heap.size + 1) => by omega))
          clear CS R19 R09 HO9 HV9 G9 kR8 fR8
          generalize w11.setCell ⟨w.heap.size + 1, 1, none⟩ (.slice a11 (k + 1) c11) = w12 at *
          go_wp2_with fail
          go_roundw
          case rel => exact ⟨j + 1, k + 1, a9, c9, a11, c11, by omega, by rw [HK.out]; omega, by go_num, HOx, HVx, R1x, R0x, Gx⟩
          case measure => simp [intOf]; omega
        · obtain rfl : j = s := by omega
          have hltj' : ¬ (j : Int) < (j : Int) := by omega
          have HK := hid hk
          clear hk
          go_wp2_with fail
          go_roundw
          case rel => exact ⟨i + 1, k, a, c, a2, c2, by omega, by rw [HK.out, Nat.succ_mul], by go_num, HO, HV, R1, R0, HG⟩
          case measure => simp [intOf]; omega
    · obtain rfl : i = s := by omega
      have hlt' : ¬ (i : Int) < (i : Int) := by omega
      subst hk
      have kR8 := cells_at R12.out
      have kR1 := cells_at R02.out
      have fR1 := frees_at R02.out
      generalize hm : i * i = m at *
      go_wp2_with fail
      refine bodyPost_ret (results_row_tmp (by rfl) _ _ _ w.heap.size _ (.bool true) rfl (load_table (heap_r2 R02.out _ _) rfl) rfl) rfl ?_
      have CR := chg_r2 w2 w.heap.size (.slice a m c) (.slice a2 m c2)
      refine ⟨a, c, a2, c2, by rw [hm], ?_, ?_, HG2.out.trans CR (fun q hq (e : q = w.heap.size) => by omega)⟩
      · rw [hm]
        exact HO2.out.chgN CR (fun q e1 (e2 : q = w.heap.size) => by subst e2; exact apTC HO2.out R02.out (by decide) e1)
      · rw [hm]
        exact OwnR.chgN HV2.out CR (fun q e1 (e2 : q = w.heap.size) => by subst e2; exact apT HV2.out R02.out (by decide) e1)
end Go.Proofs.Ytopkehknaclhlaa
