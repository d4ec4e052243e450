/- The reference's generator of draws: what each function hands back (within which bounds), and that it turns its cursor alone. -/
import Derived.Test.YtopkehknaclhlaaBase
namespace Go.Proofs.Ytopkehknaclhlaa
open Go Go.RowKit

set_option maxHeartbeats 400000 in
theorem l01Byte_calls (w : World) (c : Nat) (hc : Cur w c) :
    Calls Try.prog 159 #[.pointer (some ⟨c, 0, none⟩)] w (RI w c 0 255) := by
  obtain ⟨a, len, cap, i, h, hb, hi, hl, hcap, hy⟩ := hc
  have hc0 : w.cell? ⟨c, 0, none⟩ = some (.slice a len cap) := by rw [cell_at hb]; rfl
  have hc1 : w.cell? ⟨c, 1, none⟩ = some (.int .i64 i) := by rw [cell_at hb]; rfl
  have hc2 : w.cell? ⟨c, 2, none⟩ = some (.int .i64 h) := by rw [cell_at hb]; rfl
  have hf1 : w.frozen? ⟨c, 1, none⟩ = false := free_at hb
  have hf2 : w.frozen? ⟨c, 2, none⟩ = false := free_at hb
  have HB := hid hb
  clear hb
  by_cases hlt : i < len
  · obtain ⟨b, off, z, rfl, hbc, hz, z0, z1⟩ := hy i hlt
    have HY := hid hy
    clear hy
    have hlt' : (i : Int) < (len : Int) := by omega
    have hne : b ≠ c := by omega
    go_enter Try.func159, Try.ntmps159
    go_wp2
    go_quiet (fail)
    go_wp2
    go_quiet (fail)
    go_wp2
    go_quiet (fail)
    go_wp2
    go_ret
    refine RI.mk (i := i + 1) (by rw [i64_and255]; omega) ?_ (heap_set (heap_set HB.out)) (by omega) ⟨hl, hcap, HY.out⟩
    repeat (first | exact Chg.refl _ _ | refine Chg.drewN ?_ _ | (refine Chg.setCell ?_ ?_ _; rotate_left; exact Or.inl rfl))
  · have HY := hid hy
    clear hy
    have hlt' : ¬ (i : Int) < (len : Int) := by omega
    go_enter Try.func159, Try.ntmps159
    go_wp2
    go_quiet (fail)
    go_wp2
    go_quiet (fail)
    go_wp2
    go_ret
    refine RI.mk (i := i) (by rw [i64_and255]; omega) ?_ (heap_set HB.out) (by omega) ⟨hl, hcap, HY.out⟩
    repeat (first | exact Chg.refl _ _ | refine Chg.drewN ?_ _ | (refine Chg.setCell ?_ ?_ _; rotate_left; exact Or.inl rfl))

set_option maxHeartbeats 400000 in
theorem l01Below_calls (w : World) (c : Nat) (hc : Cur w c) (n : Int) (h1 : 1 ≤ n) (h2 : n ≤ 4294967296) :
    Calls Try.prog 124 #[.pointer (some ⟨c, 0, none⟩), .int .i64 n] w (RI w c 0 (n - 1)) := by
  by_cases hn : n ≤ 256
  · go_enter Try.func124, Try.ntmps124
    go_wp2_with (go_at_call 159; refine (l01Byte_calls _ _ hc).mono ?_; rintro e w1 ⟨x, x0, x1, rfl, hc1, g1⟩)
    go_ret
    refine ⟨_, ?_, ?_, rfl, hc1, g1⟩
    · exact Int.emod_nonneg _ (by omega)
    · have := Int.emod_lt_of_pos x (show 0 < n by omega); omega
  · go_enter Try.func124, Try.ntmps124
    go_wp2_with fail
    refine (l01Byte_calls _ _ hc).mono ?_
    rintro e w1 ⟨x, x0, x1, rfl, hc1, g1⟩
    go_wp2_with fail
    refine (l01Byte_calls _ _ hc1).mono ?_
    rintro e w2 ⟨y, y0, y1, rfl, hc2, g2⟩
    go_wp2_with fail
    refine (l01Byte_calls _ _ hc2).mono ?_
    rintro e w3 ⟨z, z0, z1, rfl, hc3, g3⟩
    go_wp2_with fail
    refine (l01Byte_calls _ _ hc3).mono ?_
    rintro e w4 ⟨u, u0, u1, rfl, hc4, g4⟩
    go_wp2_with fail
    go_ret
    refine ⟨_, ?_, ?_, rfl, hc4, ((g1.trans g2 fun _ _ h => h).trans g3 fun _ _ h => h).trans g4 fun _ _ h => h⟩
    · exact Int.emod_nonneg _ (by omega)
    · have := Int.emod_lt_of_pos (x * 16777216 + y * 65536 + z * 256 + u) (show 0 < n by omega); omega

set_option maxHeartbeats 400000 in
theorem l01Once_calls (w : World) (c : Nat) (hc : Cur w c) (n : Int) (h1 : 1 ≤ n) (h2 : n ≤ 4294967296) :
    Calls Try.prog 136 #[.pointer (some ⟨c, 0, none⟩), .int .i64 n] w (RB w c) := by
  go_enter Try.func136, Try.ntmps136
  go_wp2_with (go_at_call 124; refine (l01Below_calls _ _ hc n h1 h2).mono ?_; rintro e w1 ⟨x, x0, x1, rfl, hc1, g1⟩)
  go_ret
  exact ⟨_, rfl, hc1, g1⟩

set_option maxHeartbeats 400000 in
theorem l01Int_calls (w : World) (c : Nat) (hc : Cur w c) (b : Nat) (zs : List Int) (T : TypeId) (hb : w.heap[b]? = some (.cells (zs.map (Value.int .i64)).toArray T (0, 0))) (hne : b ≠ c) (h1 : 0 < zs.length) (h2 : zs.length ≤ 100) :
    Calls Try.prog 143 #[.pointer (some ⟨c, 0, none⟩), .slice (some ⟨b, 0, none⟩) zs.length zs.length] w (ROne w c zs) := by
  have HB := hid hb
  clear hb
  go_enter Try.func143, Try.ntmps143
  go_wp2_with fail
  refine (l01Below_calls _ _ hc zs.length (by omega) (by omega)).mono ?_
  rintro e w1 ⟨x, x0, x1, rfl, hc1, g1⟩
  obtain ⟨k, rfl⟩ := Int.eq_ofNat_of_zero_le x0
  have hk : k < zs.length := by omega
  have hcell : w1.cell? ⟨b, k, none⟩ = some (.int .i64 zs[k]) := by
    rw [cell_at (g1.heap HB.out hne)]
    simp [hk]
  go_wp2_with fail
  go_ret
  exact ⟨_, List.getElem_mem hk, rfl, hc1, g1⟩

set_option maxHeartbeats 400000 in
theorem l01New_calls (w : World) (a : Option Addr) (len cap : Nat) (hy : Bytes w w.heap.size a len cap) :
    Calls Try.prog 96 #[.slice a len cap] w (RCur w) := by
  have HY := hid hy
  obtain ⟨hl, hcap, hz⟩ := hy
  have HZ := hid hz
  clear hz
  go_enter Try.func96, Try.ntmps96
  go_wp2
  go_loop [3, 4] (fun h i => ∃ (k : Nat) (z : Int), k ≤ len ∧ i = .int .i64 k ∧ h = .int .i64 z) (fun _ i => len - (intOf i).toNat)
  case atStart => exact ⟨0, _, by omega, rfl, rfl⟩
  case round =>
    obtain ⟨k, z, hk, rfl, rfl⟩ := hrel
    by_cases hlt : k < len
    · have hlt' : (k : Int) < (len : Int) := by omega
      by_cases hlt4 : (k : Int) < 4000
      · obtain ⟨b, off, u, rfl, hb, hu, u0, u1⟩ := HZ.out k hlt
        go_wp2
        go_round
        case rel => exact ⟨k + 1, _, by omega, by go_num, rfl⟩
        case measure => simp [intOf]; omega
      · go_wp2
        go_ret
        exact ⟨_, Nat.le_refl _, rfl, ⟨a, len, cap, 0, _, heap_new _ _, by omega, HY.out.chg ((Chg.refl (fun _ => False) w).alloc _) fun _ _ x => x⟩, (Chg.refl _ w).alloc _⟩
    · have hlt' : ¬ (k : Int) < (len : Int) := by omega
      go_wp2
      go_ret
      exact ⟨_, Nat.le_refl _, rfl, ⟨a, len, cap, 0, _, heap_new _ _, by omega, HY.out.chg ((Chg.refl (fun _ => False) w).alloc _) fun _ _ x => x⟩, (Chg.refl _ w).alloc _⟩

set_option maxHeartbeats 400000 in
theorem l1In_yes (w : World) (x a b : Int) (h1 : a ≤ x) (h2 : x ≤ b) :
    Calls Try.prog 85 #[.int .i64 x, .int .i64 a, .int .i64 b] w fun e w' => e = .returned (.bool true) ∧ w = w' := by
  go_enter Try.func85, Try.ntmps85
  go_wp2
  go_ret
  exact ⟨rfl, rfl⟩

set_option maxHeartbeats 400000 in
theorem l1In_no (w : World) (x a b : Int) (h : ¬ (a ≤ x ∧ x ≤ b)) :
    Calls Try.prog 85 #[.int .i64 x, .int .i64 a, .int .i64 b] w fun e w' => e = .returned (.bool false) ∧ w = w' := by
  by_cases h1 : a ≤ x
  · have h2 : ¬ x ≤ b := fun h2 => h ⟨h1, h2⟩
    clear h
    go_enter Try.func85, Try.ntmps85
    go_wp2
    go_ret
    exact ⟨rfl, rfl⟩
  · clear h
    go_enter Try.func85, Try.ntmps85
    go_wp2
    go_ret
    exact ⟨rfl, rfl⟩

set_option maxHeartbeats 1000000 in
theorem FromSteps_in (w : World) (k m : Int) (hlo : -2139095039 ≤ k) (hhi : k ≤ 2139095039) (hm : 0 ≤ m ∧ m ≤ 2139095039) (hmx : k < 0 ∧ m = -k ∨ 0 ≤ k ∧ m = k) :
    Calls Try.prog 65 #[.int .i64 k] w (RFany w) := by
  rcases hmx with ⟨hneg, rfl⟩ | ⟨hneg, rfl⟩
  all_goals
    go_enter Try.func65, Try.ntmps65
    go_wp2_with (go_at_call 85; refine (l1In_yes _ _ _ _ (by omega) (by omega)).mono ?_; rintro e w' ⟨rfl, rfl⟩)
    go_loop [4, 5] (fun n e => ∃ u v : Int, 0 ≤ u ∧ u ≤ 2139095039 ∧ 0 ≤ v ∧ u + 8388608 * v ≤ 2139095039 ∧ n = .int .i64 u ∧ e = .int .i64 v) (fun n _ => (intOf n).toNat)
    case atStart => exact ⟨_, 0, by omega, by omega, by omega, by omega, rfl, rfl⟩
    case round =>
      obtain ⟨u, v, hu0, hu1, hv0, hv1, rfl, rfl⟩ := hrel
      by_cases hge : 16777216 ≤ u
      · go_wp2
        go_round
        case rel => exact ⟨u - 8388608, v + 1, by omega, by omega, by omega, by omega, rfl, rfl⟩
        case measure => simp [intOf]; omega
      · go_wp2
        go_loopw [6, 7] (fun y i wr => ∃ (j b n : Nat), j ≤ 149 ∧ y = .float .f64 b ∧ i = .int .i64 (j : Int) ∧ wr = w.drewN n) (fun _ i _ => 149 - (intOf i).toNat)
        case atStart => exact ⟨0, _, 0, by omega, rfl, rfl, rfl⟩
        case round =>
          obtain ⟨j, b, n, hj, rfl, rfl, rfl⟩ := hrel
          by_cases hlt : (j : Int) < 149
          · go_wp2
            go_roundw
            case rel => exact ⟨j + 1, _, _, by omega, rfl, by go_num, rfl⟩
            case measure => simp [intOf]; omega
          · go_wp2
            go_loopw [5, 6] (fun e y wr => ∃ (v : Int) (b n : Nat), 0 ≤ v ∧ v ≤ 2139095039 ∧ y = .float .f64 b ∧ e = .int .i64 v ∧ wr = w.drewN n) (fun e _ _ => (intOf e).toNat)
            case atStart => exact ⟨v, b, n, hv0, by omega, rfl, rfl, rfl⟩
            case round =>
              obtain ⟨v', b', n', hv0', hv1', rfl, rfl, rfl⟩ := hrel
              by_cases hgt : 0 < v'
              · go_wp2
                go_roundw
                case rel => exact ⟨v' - 1, _, _, by omega, by omega, rfl, rfl, rfl⟩
                case measure => simp [intOf]; omega
              · go_wp2
                go_ret2
                exact ⟨_, _, _, fconv_lt _ _, rfl, rfl⟩

set_option maxHeartbeats 400000 in
theorem FromSteps_any (w : World) (k : Int) (h1 : -4611686018427387904 ≤ k) (h2 : k ≤ 4611686018427387904) :
    Calls Try.prog 65 #[.int .i64 k] w (RFany w) := by
  by_cases hin : -2139095039 ≤ k ∧ k ≤ 2139095039
  · by_cases hneg : k < 0
    · exact FromSteps_in w k (-k) hin.1 hin.2 (by omega) (.inl ⟨hneg, rfl⟩)
    · exact FromSteps_in w k k hin.1 hin.2 (by omega) (.inr ⟨by omega, rfl⟩)
  · go_enter Try.func65, Try.ntmps65
    have HIN := hid hin
    clear hin
    go_wp2_with (go_at_call 85; refine (l1In_no _ _ _ _ HIN.out).mono ?_; rintro e w' ⟨rfl, rfl⟩)
    go_ret2
    exact ⟨0, _, 0, by omega, rfl, rfl⟩

set_option maxHeartbeats 1000000 in
theorem l1Odd_calls (w : World) (c : Nat) (hc : Cur w c) :
    Calls Try.prog 160 #[.pointer (some ⟨c, 0, none⟩)] w (RF w c) := by
  go_enter Try.func160, Try.ntmps160
  go_wp2_with (go_at_call 124; refine (l01Below_calls _ _ hc 12 (by omega) (by omega)).mono ?_; rintro e w1 ⟨x, x0, x1, rfl, hc1, g1⟩)
  all_goals (go_ret; first | exact ⟨_, fbin_lt _ _ _ _, rfl, hc1.drewN _, g1.drewN _⟩ | exact ⟨_, by decide, rfl, hc1, g1⟩)

set_option maxHeartbeats 1000000 in
theorem l1Some_calls (w : World) (c : Nat) (hc : Cur w c) :
    Calls Try.prog 161 #[.pointer (some ⟨c, 0, none⟩)] w (RF w c) := by
  go_enter Try.func161, Try.ntmps161
  go_wp2_with fail
  refine (l01Below_calls _ _ hc 3 (by omega) (by omega)).mono ?_
  rintro e w1 ⟨x, x0, x1, rfl, hc1, g1⟩
  go_wp2_with fail
  · refine (l01Below_calls _ _ hc1 65 (by omega) (by omega)).mono ?_
    rintro e w2 ⟨y, y0, y1, rfl, hc2, g2⟩
    go_wp2_with fail
    go_ret
    exact ⟨_, fbin_lt _ _ _ _, rfl, hc2.drewN _, (g1.trans g2 fun _ _ h => h).drewN _⟩
  · refine (l01Below_calls _ _ hc1 2000001 (by omega) (by omega)).mono ?_
    rintro e w2 ⟨y, y0, y1, rfl, hc2, g2⟩
    go_wp2_with fail
    go_ret
    exact ⟨_, fbin_lt _ _ _ _, rfl, hc2.drewN _, (g1.trans g2 fun _ _ h => h).drewN _⟩
  · refine (l01Below_calls _ _ hc1 9 (by omega) (by omega)).mono ?_
    rintro e w2 ⟨y, y0, y1, rfl, hc2, g2⟩
    go_wp2_with fail
    go_ret
    exact ⟨_, ofInt_lt _, rfl, hc2, g1.trans g2 fun _ _ h => h⟩

set_option maxHeartbeats 1000000 in
theorem l1Any_calls (w : World) (c : Nat) (hc : Cur w c) :
    Calls Try.prog 126 #[.pointer (some ⟨c, 0, none⟩)] w (RF w c) := by
  go_enter Try.func126, Try.ntmps126
  go_wp2_with fail
  refine (l01Once_calls _ _ hc 8 (by omega) (by omega)).mono ?_
  rintro e w1 ⟨x, rfl, hc1, g1⟩
  cases x with
  | true =>
    go_wp2_with fail
    refine (l1Odd_calls _ _ hc1).mono ?_
    rintro e w2 ⟨b, hb, rfl, hc2, g2⟩
    go_wp2_with fail
    go_ret
    exact ⟨_, hb, rfl, hc2, g1.trans g2 fun _ _ h => h⟩
  | false =>
    go_wp2_with fail
    refine (l01Once_calls _ _ hc1 6 (by omega) (by omega)).mono ?_
    rintro e w2 ⟨x, rfl, hc2, g2⟩
    cases x with
    | true =>
      go_wp2_with fail
      refine (l01Below_calls _ _ hc2 40 (by omega) (by omega)).mono ?_
      rintro e w3 ⟨y, y0, y1, rfl, hc3, g3⟩
      go_wp2_with fail
      have hlt := hc3.lt
      refine (l01Int_calls _ _ (hc3.alloc _) _ [0, 8388608, -8388608, 1065353216, 2139095019] _ (heap_new _ _) (by omega) (by decide) (by decide)).mono ?_
      rintro e w4 ⟨z, hz, rfl, hc4, g4⟩
      have hz1 : -8388608 ≤ z ∧ z ≤ 2139095019 := by
        simp at hz
        omega
      clear hz
      obtain ⟨hz1, hz2⟩ := hz1
      go_wp2_with fail
      refine (FromSteps_any _ _ (by omega) (by omega)).mono ?_
      rintro e w5 ⟨b, t, n, hb, rfl, rfl⟩
      go_wp2_with fail
      go_ret
      exact ⟨_, hb, rfl, hc4.drewN _, ((((g1.trans g2 fun _ _ h => h).trans g3 fun _ _ h => h).alloc _).trans g4 fun _ _ h => h).drewN _⟩
    | false =>
      go_wp2_with fail
      refine (l1Some_calls _ _ hc2).mono ?_
      rintro e w3 ⟨b, hb, rfl, hc3, g3⟩
      go_wp2_with fail
      go_ret
      exact ⟨_, hb, rfl, hc3, (g1.trans g2 fun _ _ h => h).trans g3 fun _ _ h => h⟩

set_option maxHeartbeats 400000 in
theorem l2Any_calls (w : World) (c : Nat) (hc : Cur w c) :
    Calls Try.prog 137 #[.pointer (some ⟨c, 0, none⟩)] w (RC w c) := by
  go_enter Try.func137, Try.ntmps137
  go_wp2_with fail
  refine (l1Any_calls _ _ hc).mono ?_
  rintro e w1 ⟨a, ha, rfl, hc1, g1⟩
  go_wp2_with fail
  refine (l1Any_calls _ _ hc1).mono ?_
  rintro e w2 ⟨b, hb, rfl, hc2, g2⟩
  go_wp2_with fail
  go_ret
  exact ⟨_, _, ha, hb, rfl, hc2, g1.trans g2 fun _ _ h => h⟩

set_option maxHeartbeats 400000 in
theorem l2Small_calls (w : World) (c : Nat) (hc : Cur w c) :
    Calls Try.prog 125 #[.pointer (some ⟨c, 0, none⟩)] w (RSmall w c) := by
  go_enter Try.func125, Try.ntmps125
  go_wp2_with fail
  refine (l01Below_calls _ _ hc 7 (by omega) (by omega)).mono ?_
  rintro e w1 ⟨x, x0, x1, rfl, hc1, g1⟩
  go_wp2_with fail
  refine (l01Below_calls _ _ hc1 7 (by omega) (by omega)).mono ?_
  rintro e w2 ⟨y, y0, y1, rfl, hc2, g2⟩
  go_wp2_with fail
  go_ret
  exact ⟨x - 3, y - 3, by omega, by omega, by omega, by omega, rfl, hc2, g1.trans g2 fun _ _ h => h⟩

end Go.Proofs.Ytopkehknaclhlaa
