/- The text of a number of single precision: there is one, whatever the world. No condition. -/
import Derived.Test.YtopkehknaclhlaaTa
import Derived.Test.YtopkehknaclhlaaTb
import Derived.Deep.DeepCutAuto
namespace Go.Proofs.Ytopkehknaclhlaa
open Go Go.RowKit

set_option maxHeartbeats 1000000 in
theorem Finite_calls (w : World) (x : Nat) : Calls Try.prog 180 #[.float .f32 x] w (fun e w' => e = .returned (.bool (fin x)) ∧ Chg (fun _ => False) w w') := by
  go_enter Try.func180, Try.ntmps180
  go_wp2
  go_ret
  exact ⟨by rw [fin_sub]; rfl, (Chg.refl _ w).drewN _⟩

theorem Abs_calls (w : World) (x : Nat) : Calls Try.prog 195 #[.float .f32 x] w (fun e w' => e = .returned (.float .f32 (absF x)) ∧ w' = w) := by
  unfold absF
  cases h1 : FloatKind.f32.format.order x 0 == some .lt <;> cases h2 : FloatKind.f32.format.order x 0 == some .eq
  all_goals
    go_enter Try.func195, Try.ntmps195
    go_wp2
    go_ret
    exact ⟨rfl, rfl⟩

/-- A text comes back. -/
def RTx (w : World) (T : ByteArray) (e : Ending) (w' : World) : Prop := e = .returned (.string T) ∧ Chg (fun _ => False) w w'

set_option maxRecDepth 100000 in
set_option maxHeartbeats 2000000 in
theorem Format_zero (x : Nat) (hf : fin x = true) (h0 : x % 2147483648 = 0) : ∃ T : ByteArray, T.size ≤ 45 ∧ ∀ w, Calls Try.prog 181 #[.float .f32 x] w (RTx w T) := by
  obtain ⟨r, hr⟩ := one_over hf h0
  have ho := order_zero hf
  rw [if_pos h0] at ho
  have q1 := fun w => fbin_of hr w
  have q2 := fask_of hr
  have hF := fun w => Finite_calls w x
  rw [hf] at hF
  cases hs : FloatKind.f32.format.order r 0 == some .lt
  · refine ⟨⟨#[48]⟩, by decide, fun w => ?_⟩
    go_enter Try.func181, Try.ntmps181
    go_wp2_with fail
    refine (hF _).mono ?_
    rintro e w1 ⟨rfl, hG⟩
    go_wp2_with fail
    go_ret
    exact ⟨rfl, hG⟩
  · refine ⟨⟨#[45, 48]⟩, by decide, fun w => ?_⟩
    go_enter Try.func181, Try.ntmps181
    go_wp2_with fail
    refine (hF _).mono ?_
    rintro e w1 ⟨rfl, hG⟩
    go_wp2_with fail
    go_ret
    exact ⟨rfl, hG⟩

set_option maxRecDepth 100000 in
set_option maxHeartbeats 4000000 in
theorem Format_main (x : Nat) (hf : fin x = true) (h0 : 0 < x % 2147483648) : ∃ T : ByteArray, T.size ≤ 45 ∧ ∀ w, Calls Try.prog 181 #[.float .f32 x] w (RTx w T) := by
  obtain ⟨a1, a2, a3⟩ := abs_facts hf h0
  obtain ⟨m, L, e, l1, l2, hL, he, hup⟩ := up_DD a1 a2 a3
  have hM := Mt_of l1 l2 hL
  obtain ⟨E0, hE0⟩ : ∃ E0, E0 = 873 + e + L := ⟨_, rfl⟩
  rw [← hE0] at hup
  obtain ⟨E1, hE1⟩ : ∃ E1, E1 = min E0 1045 := ⟨_, rfl⟩
  have E1a : E1 ≤ 1045 := by omega
  obtain ⟨E2, w1, w2, w3, w4, w5, w6⟩ := whole_at (E := E1) l1 l2 hL E1a
  obtain ⟨M, hMe⟩ : ∃ M, M = m * 2 ^ (52 - L) := ⟨_, rfl⟩
  rw [← hMe] at hM w3 w4 w5 w6 hup
  obtain ⟨q, hq⟩ : ∃ q, q = M / 2 ^ (1074 - E2) := ⟨_, rfl⟩
  rw [← hq] at w5 w6
  obtain ⟨j, hj, o1, o2⟩ := odd_at w5 w6
  have ho := order_zero hf
  rw [if_neg (by omega)] at ho
  have hF := fun w => Finite_calls w x
  rw [hf] at hF
  have hA := fun w => Abs_calls w x
  have hqj : q / 2 ^ j ≤ q := Nat.div_le_self _ _
  obtain ⟨Q, hQ⟩ : ∃ Q, Q = q / 2 ^ j := ⟨_, rfl⟩
  rw [← hQ] at hqj o1
  have HQJ := hid hQ
  clear hQ
  have hN1 := fun w => Number_calls (Q : Int) (by omega) (by omega) w
  have hN2 := fun w => Number_calls ((E0 : Int) - (E2 : Int) + (j : Int)) (by omega) (by omega) w
  have z1 := numT_size (Q : Int)
  have z2 := numT_size ((E0 : Int) - (E2 : Int) + (j : Int))
  have hE0b : E0 ≤ 1149 := by omega
  clear l1 l2 hMe hE0 he a1 a2 a3 hf
  generalize numT (Q : Int) = T1 at *
  generalize numT ((E0 : Int) - (E2 : Int) + (j : Int)) = T2 at *
  have heq : (Ieee.Format.order FloatKind.f32.format x 0 == some .eq) = false := by rw [ho]; split <;> rfl
  have hlt : (Ieee.Format.order FloatKind.f32.format x 0 == some .lt) = decide (x / 2147483648 % 2 = 1) := by
    rw [ho]
    by_cases b : x / 2147483648 % 2 = 1
    · rw [if_pos b, decide_eq_true b]; rfl
    · rw [if_neg b, decide_eq_false b]; rfl
  have hp1 : (⟨#[112]⟩ : ByteArray).size = 1 := rfl
  have hp2 : (⟨#[45]⟩ : ByteArray).size = 1 := rfl
  have hp3 : (⟨#[]⟩ : ByteArray).size = 0 := rfl
  have c1 := fun w => fconv_of hup w
  have c2 := fconvAsk_of hup
  have HQ := hid hq
  clear hup hq ho
  generalize decide (x / 2147483648 % 2 = 1) = b at *
  refine ⟨(if b then ⟨#[45]⟩ else ⟨#[]⟩) ++ T1 ++ ⟨#[112]⟩ ++ T2, by rw [ByteArray.size_append, ByteArray.size_append, ByteArray.size_append]; cases b <;> simp only [if_true, if_false, Bool.false_eq_true] <;> omega, fun w => ?_⟩
  obtain ⟨sg, hsg⟩ : ∃ sg : ByteArray, sg = if b then ⟨#[45]⟩ else ⟨#[]⟩ := ⟨_, rfl⟩
  rw [← hsg]
  have hsz : sg.size ≤ 1 := by rw [hsg]; cases b <;> decide
  have s1 := fun w => add_run sg T1 w (by omega)
  have s2 := fun w => add_run (sg ++ T1) ⟨#[112]⟩ w (by rw [ByteArray.size_append]; omega)
  have s3 := fun w => add_run (sg ++ T1 ++ ⟨#[112]⟩) T2 w (by rw [ByteArray.size_append, ByteArray.size_append]; omega)
  clear z1 z2 hsz hp1 hp2 hp3
  cases b
  all_goals
    simp only [if_true, if_false, Bool.false_eq_true] at hsg
    subst hsg
    go_enter Try.func181, Try.ntmps181
    go_wp2_with fail
    refine (hF _).mono ?_
    rintro e' v1 ⟨rfl, hG⟩
    have HG := hid hG
    clear hG hF
    go_wp2_with fail
    refine (hA _).mono ?_
    rintro e' v2 ⟨rfl, rfl⟩
    go_wp2_with fail
    clear hA c1 c2 heq hlt
    go_loop [4, 5] (fun y e => ∃ E : Nat, E1 ≤ E ∧ E ≤ E0 ∧ y = .float .f64 (DD E M) ∧ e = .int .i64 ((E0 : Int) - (E : Int))) (fun _ e => 2000 - (intOf e).toNat)
    case atStart => exact ⟨E0, by omega, Nat.le_refl _, rfl, by rw [Int.sub_self]⟩
    case round =>
      obtain ⟨E, r1, r2, rfl, rfl⟩ := hrel
      have hbig := DD_big hM (show E ≤ 2000 by omega)
      by_cases hE : E < 1046
      · rw [if_pos hE] at hbig
        obtain rfl : E = E1 := by omega
        clear hE r1 r2 hE1
        go_wp2_with fail
        go_loop [4, 5] (fun y e => ∃ F : Nat, E ≤ F ∧ F ≤ E2 ∧ y = .float .f64 (DD F M) ∧ e = .int .i64 ((E0 : Int) - (F : Int))) (fun _ e => 4000 - (E0 - intOf e).toNat)
        case atStart => exact ⟨E, Nat.le_refl _, w1, rfl, rfl⟩
        case round =>
          obtain ⟨F, r1, r2, rfl, rfl⟩ := hrel
          clear hbig
          have hI := DD_int hM (show F ≤ 1074 by omega)
          have hW := DD_whole hM (show F ≤ 1074 by omega)
          by_cases hF : F = E2
          · subst hF
            rw [if_pos w3, ← HQ.out] at hW
            rw [← HQ.out] at hI
            clear w4 r1 r2 w1 w3 hM
            go_wp2_with fail
            clear hI hW
            go_loop [5, 6] (fun e m => ∃ i : Nat, i ≤ j ∧ m = .int .i64 ((q / 2 ^ i : Nat) : Int) ∧ e = .int .i64 ((E0 : Int) - (F : Int) + (i : Int))) (fun e _ => 4000 - (2000 + intOf e - E0 + F).toNat)
            case atStart => exact ⟨0, Nat.zero_le _, by rw [Nat.pow_zero, Nat.div_one], by congr 1; omega⟩
            case round =>
              obtain ⟨i, hi, rfl, rfl⟩ := hrel
              by_cases hij : i = j
              · subst hij
                rw [← HQJ.out]
                have hodd : ¬ ((Q : Int) % 2 = 0) := by omega
                clear o2
                go_wp2_with fail
                refine (hN1 _).mono ?_
                rintro e3 v3 ⟨rfl, hG3⟩
                go_wp2_with fail
                refine (hN2 _).mono ?_
                rintro e4 v4 ⟨rfl, hG4⟩
                go_wp2_with fail
                go_ret
                exact ⟨rfl, (HG.out.trans hG3 fun _ _ h => h).trans hG4 fun _ _ h => h⟩
              · have hev := o2 i (by omega)
                have hsucc : q / 2 ^ i / 2 = q / 2 ^ (i + 1) := by rw [Nat.div_div_eq_div_mul, Nat.pow_succ]
                have hle : q / 2 ^ i ≤ q := Nat.div_le_self _ _
                have HS := hid hsucc
                clear hsucc o2
                generalize q / 2 ^ i = p at *
                have hev2 : (p : Int) % 2 = 0 := by omega
                have hp0 : (0 : Int) ≤ (p : Int) := by omega
                go_wp2_with fail
                go_round
                case rel => exact ⟨i + 1, by omega, by rw [← HS.out]; congr 1, by congr 1; omega⟩
                case measure => simp [intOf]; omega
          · have hne := w4 F r1 (by omega)
            rw [if_neg hne] at hW
            have q1 := fun w => fbin_of (DD_double hM (show F ≤ 1999 by omega)) w
            have q2 := fask_of (DD_double hM (show F ≤ 1999 by omega))
            generalize M / 2 ^ (1074 - F) = qq at *
            go_wp2_with fail
            go_round
            case rel => exact ⟨F + 1, by omega, by omega, rfl, by congr 1; omega⟩
            case measure => simp [intOf]; omega
      · obtain ⟨F, rfl⟩ : ∃ F, E = F + 1 := ⟨E - 1, by omega⟩
        have q1 := fun w => fbin_of (DD_half hM (show F ≤ 1999 by omega)) w
        have q2 := fask_of (DD_half hM (show F ≤ 1999 by omega))
        rw [if_neg hE] at hbig
        by_cases hE2 : F + 1 = 1046 ∧ M = 4503599627370496
        · rw [if_pos hE2] at hbig
          clear hE2
          go_wp2_with fail
          go_round
          case rel => exact ⟨F, by omega, by omega, rfl, by congr 1; omega⟩
          case measure => simp [intOf]; omega
        · rw [if_neg hE2] at hbig
          clear hE2
          go_wp2_with fail
          go_round
          case rel => exact ⟨F, by omega, by omega, rfl, by congr 1; omega⟩
          case measure => simp [intOf]; omega

/-- The text of a number, one that there is. -/
theorem Single_ex (x : Nat) : ∃ T : ByteArray, T.size ≤ 45 ∧ ∀ w, Calls Try.prog 147 #[.float .f32 x] w (RTx w T) := by
  have hF := fun w => Finite_calls w x
  cases hf : fin x
  · rw [hf] at hF
    cases hn : isN .f32 x
    · have ho := order_self .f32 x
      rw [hn] at ho
      cases hs : FloatKind.f32.format.order x 0 == some .gt
      · refine ⟨⟨#[45, 105, 110, 102]⟩, by decide, fun w => ?_⟩
        go_enter Try.func147, Try.ntmps147
        go_wp2_with fail
        refine (hF _).mono ?_
        rintro e w1 ⟨rfl, hG⟩
        go_wp2_with fail
        go_ret
        exact ⟨rfl, hG⟩
      · refine ⟨⟨#[105, 110, 102]⟩, by decide, fun w => ?_⟩
        go_enter Try.func147, Try.ntmps147
        go_wp2_with fail
        refine (hF _).mono ?_
        rintro e w1 ⟨rfl, hG⟩
        go_wp2_with fail
        go_ret
        exact ⟨rfl, hG⟩
    · have ho := order_self .f32 x
      rw [hn] at ho
      refine ⟨⟨#[110, 97, 110]⟩, by decide, fun w => ?_⟩
      go_enter Try.func147, Try.ntmps147
      go_wp2_with fail
      go_ret
      exact ⟨rfl, Chg.refl _ w⟩
  · rw [hf] at hF
    have ho := order_self .f32 x
    rw [fin_notN hf] at ho
    obtain ⟨T, hT, hc⟩ : ∃ T : ByteArray, T.size ≤ 45 ∧ ∀ w, Calls Try.prog 181 #[.float .f32 x] w (RTx w T) := by
      rcases Nat.eq_zero_or_pos (x % 2147483648) with h0 | h0
      · exact Format_zero x hf h0
      · exact Format_main x hf h0
    refine ⟨T, hT, fun w => ?_⟩
    go_enter Try.func147, Try.ntmps147
    go_wp2_with fail
    refine (hF _).mono ?_
    rintro e w1 ⟨rfl, hG⟩
    go_wp2_with fail
    refine (hc _).mono ?_
    rintro e w2 ⟨rfl, hG2⟩
    go_wp2_with fail
    go_ret
    exact ⟨rfl, hG.trans hG2 fun _ _ h => h⟩
noncomputable def sgT (x : Nat) : ByteArray := Classical.choose (Single_ex x)
theorem sgT_size (x : Nat) : (sgT x).size ≤ 45 := (Classical.choose_spec (Single_ex x)).1
theorem Single_calls (x : Nat) (w : World) : Calls Try.prog 147 #[.float .f32 x] w (RTx w (sgT x)) := (Classical.choose_spec (Single_ex x)).2 w
noncomputable def ptT (z : Nat × Nat) : ByteArray := sgT z.1 ++ ⟨#[32]⟩ ++ sgT z.2
theorem ptT_size (z : Nat × Nat) : (ptT z).size ≤ 91 := by
  have h1 := sgT_size z.1
  have h2 := sgT_size z.2
  have h3 : (⟨#[32]⟩ : ByteArray).size = 1 := rfl
  unfold ptT
  rw [ByteArray.size_append, ByteArray.size_append]
  omega
set_option maxHeartbeats 1000000 in
theorem Point_calls (x y : Nat) (w : World) : Calls Try.prog 116 #[.complex .f32 x y] w (RTx w (ptT (x, y))) := by
  have h1 := sgT_size x
  have h2 := sgT_size y
  have h3 : (⟨#[32]⟩ : ByteArray).size = 1 := rfl
  have s1 := fun w => add_run (sgT x) ⟨#[32]⟩ w (by omega)
  have s2 := fun w => add_run (sgT x ++ ⟨#[32]⟩) (sgT y) w (by rw [ByteArray.size_append]; omega)
  have c1 := fun w => Single_calls x w
  have c2 := fun w => Single_calls y w
  unfold ptT
  show Calls Try.prog 116 #[.complex .f32 x y] w (RTx w (sgT x ++ ⟨#[32]⟩ ++ sgT y))
  generalize sgT x = A at *
  generalize sgT y = B at *
  clear h1 h2 h3
  go_enter Try.func116, Try.ntmps116
  go_wp2_with fail
  refine (c1 _).mono ?_
  rintro e w1 ⟨rfl, hG⟩
  go_wp2_with fail
  refine (c2 _).mono ?_
  rintro e w2 ⟨rfl, hG2⟩
  go_wp2_with fail
  go_ret
  exact ⟨rfl, hG.trans hG2 fun _ _ h => h⟩
theorem Int_calls (n : Int) (h1 : -1000000000 < n) (h2 : n < 1000000000) (w : World) : Calls Try.prog 117 #[.int .i64 n] w (RTx w (numT n)) := by
  have c1 := fun w => Number_calls n h1 h2 w
  have h3 : ¬ (n < -9223372036854775807) := by omega
  generalize numT n = T at *
  go_enter Try.func117, Try.ntmps117
  go_wp2_with fail
  refine (c1 _).mono ?_
  rintro e w1 ⟨rfl, hG⟩
  go_wp2_with fail
  go_ret
  exact ⟨rfl, hG⟩
end Go.Proofs.Ytopkehknaclhlaa
