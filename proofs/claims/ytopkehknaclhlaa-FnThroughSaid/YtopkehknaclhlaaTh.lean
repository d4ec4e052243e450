/- The law on what goes through modules, walked: for all bytes. No condition. -/
import Derived.Test.YtopkehknaclhlaaTg
import Derived.Deep.DeepCutAuto
namespace Go.Proofs.Ytopkehknaclhlaa
open Go Go.RowKit

set_option maxRecDepth 100000 in
set_option maxHeartbeats 8000000 in
theorem walkFnThrough (w : World) (a : Option Addr) (len cap : Nat) (h0 : Bytes0 w w.heap.size a len cap) :
    Calls Try.prog 14 #[.slice a len cap] w (LawPost w) := by
  by_cases hbig : len ≤ 1048576
  · have HY := hid (show Bytes w w.heap.size a len cap from ⟨h0.1, hbig, h0.2.2⟩)
    clear h0
    have hb1 : ¬ (1048576 : Int) < (len : Int) := by omega
    go_enter Try.func14, Try.ntmps14
    go_wp2_with fail
    refine (at_calls _ _ _ _ HY.out 1 (by omega)).mono ?_
    rintro e w' ⟨x1, lx1, rfl, rfl⟩
    go_wp2_with fail
    refine (at_calls _ _ _ _ HY.out 2 (by omega)).mono ?_
    rintro e w' ⟨x2, lx2, rfl, rfl⟩
    have hp : x1 * x2 ≤ 65025 := Nat.mul_le_mul lx1 lx2
    have HK := hid (show wrap64 (1 + wrap64 ((x1 : Int) * (x2 : Int))) = ((1 + x1 * x2 : Nat) : Int) by
      rw [← Int.natCast_mul, IntWalk.wrap64_in ((x1 * x2 : Nat) : Int) (by omega), IntWalk.wrap64_in _ (by omega)]; omega)
    have SN := hid (show Sm (1 + x1 * x2) from ⟨by omega, by omega⟩)
    generalize 1 + x1 * x2 = n at *
    clear hp lx1 lx2
    go_wp2_with fail
    refine (FromSteps_up' _ _ n SN.out HK.out).mono ?_
    rintro e w' ⟨rfl, rfl⟩
    clear HK
    go_wp2_with fail
    refine (at_calls _ _ _ _ HY.out 3 (by omega)).mono ?_
    rintro e w' ⟨x3, lx3, rfl, rfl⟩
    go_wp2_with fail
    refine (at_calls _ _ _ _ HY.out 4 (by omega)).mono ?_
    rintro e w' ⟨x4, lx4, rfl, rfl⟩
    have hp : x3 * x4 ≤ 65025 := Nat.mul_le_mul lx3 lx4
    have HK := hid (show wrap64 (-1 - wrap64 ((x3 : Int) * (x4 : Int))) = -((1 + x3 * x4 : Nat) : Int) by
      rw [← Int.natCast_mul, IntWalk.wrap64_in ((x3 * x4 : Nat) : Int) (by omega), IntWalk.wrap64_in _ (by omega)]; omega)
    have SM := hid (show Sm (1 + x3 * x4) from ⟨by omega, by omega⟩)
    generalize 1 + x3 * x4 = m at *
    clear hp lx3 lx4
    go_wp2_with fail
    refine (FromSteps_down' _ _ m SM.out HK.out).mono ?_
    rintro e w' ⟨rfl, rfl⟩
    clear HK HY
    have hX := order_sub false SN.out
    have hY := order_sub true SM.out
    have hLV := through_level SN.out SM.out
    have hMX := fun (w : World) ts t => run_maxF Try.prog w ts t (Ieee.single.word false n) (Op.negFloat .f32 (Ieee.single.word true m)) (isN_sub false SN.out) (by rw [isN_neg]; exact isN_sub true SM.out)
    have HMP := hid (mulP_through SN.out SM.out)
    have HG1 := hid (mul_one_sub (s := false) SN.out)
    have HG2 := hid (mul_one_sub (s := true) SM.out)
    have HW1 := hid (word_lt32 false SN.out)
    have HW2 := hid (word_lt32 true SM.out)
    have hF1 : flush (Ieee.single.word false n) = 0 := flush_word false SN.out
    have hF2 : flush (Ieee.single.word true m) = 2147483648 := flush_word true SM.out
    have HF1 := hid hF1
    have HF2 := hid hF2
    have HX := hid hX
    have HYY := hid hY
    have HLV := hid hLV
    have HMX := hid hMX
    clear hF1 hF2 hX hY hLV hMX
    generalize Ieee.single.word false n = X at *
    generalize Ieee.single.word true m = Y at *
    clear SN SM
    go_wp2_with fail
    refine (NewHold_yes _ 3 (by omega) (by omega)).mono ?_
    rintro e w1 ⟨rfl, g1⟩
    have lz1 := g1.size
    have F1 := hid (heap_new w1 (.cells #[.int .i64 (8), .complex .f32 0 0, .complex .f32 0 0, .float .f32 0, .slice none 0 0, .int .i64 (0), .int .i64 (0), .slice none 0 0, .slice none 0 0, .int .i64 (3), .int .i64 (0)] 38))
    have G1 := hid (g1.alloc (.cells #[.int .i64 (8), .complex .f32 0 0, .complex .f32 0 0, .float .f32 0, .slice none 0 0, .int .i64 (0), .int .i64 (0), .slice none 0 0, .slice none 0 0, .int .i64 (3), .int .i64 (0)] 38))
    clear g1
    go_wp2_with fail
    refine (NewDelay_one _).mono ?_
    rintro e w2 ⟨md, rfl, hd, g2⟩
    obtain ⟨q, c, rfl, hq, ho⟩ := hd
    have lz2 := g2.size
    simp at lz2 hq
    have F2 := hid (heap_old (o' := .cells #[.int .i64 (4), .complex .f32 0 0, .complex .f32 0 0, .float .f32 0, .slice (some ⟨q, 0, none⟩) 1 c, .int .i64 (0), .int .i64 (1), .slice none 0 0, .slice none 0 0, .int .i64 (0), .int .i64 (0)] 38) (g2.heap F1.out id))
    have D2 := hid (heap_new w2 (.cells #[.int .i64 (4), .complex .f32 0 0, .complex .f32 0 0, .float .f32 0, .slice (some ⟨q, 0, none⟩) 1 c, .int .i64 (0), .int .i64 (1), .slice none 0 0, .slice none 0 0, .int .i64 (0), .int .i64 (0)] 38))
    have O2 := hid (ho.chg ((Chg.refl (fun _ => False) w2).alloc (.cells #[.int .i64 (4), .complex .f32 0 0, .complex .f32 0 0, .float .f32 0, .slice (some ⟨q, 0, none⟩) 1 c, .int .i64 (0), .int .i64 (1), .slice none 0 0, .slice none 0 0, .int .i64 (0), .int .i64 (0)] 38)) fun _ _ _ h => h)
    have G2 := hid ((G1.out.trans g2 fun _ _ h => h).alloc (.cells #[.int .i64 (4), .complex .f32 0 0, .complex .f32 0 0, .float .f32 0, .slice (some ⟨q, 0, none⟩) 1 c, .int .i64 (0), .int .i64 (1), .slice none 0 0, .slice none 0 0, .int .i64 (0), .int .i64 (0)] 38))
    clear F1 G1 ho g2
    have F3 := hid (heap_old (o' := .cells #[.complex .f32 X Y] 33) F2.out)
    have D3 := hid (heap_old (o' := .cells #[.complex .f32 X Y] 33) D2.out)
    have O3 := hid (O2.out.chg ((Chg.refl (fun _ => False) _).alloc (.cells #[.complex .f32 X Y] 33)) fun _ _ _ h => h)
    have G3 := hid (G2.out.alloc (.cells #[.complex .f32 X Y] 33))
    have hL : OwnC ((w2.alloc (.cells #[.int .i64 (4), .complex .f32 0 0, .complex .f32 0 0, .float .f32 0, .slice (some ⟨q, 0, none⟩) 1 c, .int .i64 (0), .int .i64 (1), .slice none 0 0, .slice none 0 0, .int .i64 (0), .int .i64 (0)] 38)).alloc (.cells #[.complex .f32 X Y] 33)) 0 (.slice (some ⟨w2.heap.size + 1, 0, none⟩) 1 1) [(X, Y)] := by
      have h := OwnC.lit (w2.alloc (.cells #[.int .i64 (4), .complex .f32 0 0, .complex .f32 0 0, .float .f32 0, .slice (some ⟨q, 0, none⟩) 1 c, .int .i64 (0), .int .i64 (1), .slice none 0 0, .slice none 0 0, .int .i64 (0), .int .i64 (0)] 38)) [(X, Y)] 33 rfl (by simp) (Nat.zero_le _) #[.complex .f32 X Y] rfl
      simpa using h
    have L3 := hid hL
    have lz3 : ((w2.alloc (.cells #[.int .i64 (4), .complex .f32 0 0, .complex .f32 0 0, .float .f32 0, .slice (some ⟨q, 0, none⟩) 1 c, .int .i64 (0), .int .i64 (1), .slice none 0 0, .slice none 0 0, .int .i64 (0), .int .i64 (0)] 38)).alloc (.cells #[.complex .f32 X Y] 33)).heap.size = w2.heap.size + 2 := by simp
    clear hL F2 D2 O2 G2
    go_upto_region 9 with fail
    generalize ((w2.alloc (.cells #[.int .i64 (4), .complex .f32 0 0, .complex .f32 0 0, .float .f32 0, .slice (some ⟨q, 0, none⟩) 1 c, .int .i64 (0), .int .i64 (1), .slice none 0 0, .slice none 0 0, .int .i64 (0), .int .i64 (0)] 38)).alloc (.cells #[.complex .f32 X Y] 33)) = w3 at *
    go_cut [72, 73, 74] (fun r72 r73 r74 wx => r73 = .int .i64 3 ∧ r74 = .int .i64 0 ∧ ∃ B, r72 = .slice (some ⟨B, 0, none⟩) 3 3 ∧ Hid (wx.heap[B]? = some (.cells #[.int .i64 (5), .complex .f32 0 0, .complex .f32 0 0, .float .f32 0, .slice none 0 0, .int .i64 (0), .int .i64 (0), .slice none 0 0, .slice none 0 0, .int .i64 (0), .int .i64 (0), .int .i64 (7), .complex .f32 0 0, .complex .f32 0 0, .float .f32 0, .slice none 0 0, .int .i64 (0), .int .i64 (0), .slice none 0 0, .slice none 0 0, .int .i64 (0), .int .i64 (0), .int .i64 (8), .complex .f32 0 0, .complex .f32 0 0, .float .f32 0, .slice none 0 0, .int .i64 (0), .int .i64 (0), .slice none 0 0, .slice none 0 0, .int .i64 (3), .int .i64 (0)] 38 (0, 0))) ∧ Hid (Chg (fun _ => False) w3 wx))
    case first =>
      have kH := cells_at F3.out
      go_region_with (first
        | (go_at_call 35; refine (NewSum_calls _).mono ?_; rintro e wS ⟨rfl, gS⟩; have FS := hid (gS.heap F3.out id); have kS := cells_at FS.out; have GS := hid gS)
        | (go_at_call 33; refine (NewMeter_calls _).mono ?_; rintro e wM ⟨rfl, gM⟩; have FM := hid (gM.heap FS.out id); have kM := cells_at FM.out; have GM := hid gM))
      all_goals (go_wp2_with fail; go_meet; exact ⟨rfl, rfl, _, rfl, hid (heap_new _ _), hid ((((Chg.refl (fun _ => False) w3).drew.trans GS.out fun _ _ h => h).trans GM.out fun _ _ h => h).alloc _)⟩)
    case rest =>
      obtain ⟨rfl, rfl, B, rfl, HB, HG⟩ := hcut
      have lz4 := HG.out.size
      go_wp2_with fail
      go_loopw [74] (fun i wr => ∃ k : Nat, k ≤ 3 ∧ i = .int .i64 (k : Int) ∧ Hid (Chg (fun _ => False) wc wr)) (fun i _ => 3 - (intOf i).toNat)
      case atStart => exact ⟨0, by omega, rfl, hid (Chg.refl _ wc)⟩
      case round =>
        obtain ⟨k, hk, rfl, G⟩ := hrel
        have LR := hid ((L3.out.chg HG.out fun _ _ _ h => h).chg G.out fun _ _ _ h => h)
        rcases (by omega : k = 0 ∨ k = 1 ∨ k = 2 ∨ k = 3) with rfl | rfl | rfl | rfl
        · have HBR := hid (G.out.heap HB.out id)
          have cb0 : wr.cell? ⟨B, 0, none⟩ = some (.int .i64 5) := by rw [cell_at HBR.out]; rfl
          have cb1 : wr.cell? ⟨B, 1, none⟩ = some (.complex .f32 0 0) := by rw [cell_at HBR.out]; rfl
          have cb2 : wr.cell? ⟨B, 2, none⟩ = some (.complex .f32 0 0) := by rw [cell_at HBR.out]; rfl
          have cb3 : wr.cell? ⟨B, 3, none⟩ = some (.float .f32 0) := by rw [cell_at HBR.out]; rfl
          have cb4 : wr.cell? ⟨B, 4, none⟩ = some (.slice none 0 0) := by rw [cell_at HBR.out]; rfl
          have cb5 : wr.cell? ⟨B, 5, none⟩ = some (.int .i64 0) := by rw [cell_at HBR.out]; rfl
          have cb6 : wr.cell? ⟨B, 6, none⟩ = some (.int .i64 0) := by rw [cell_at HBR.out]; rfl
          have cb7 : wr.cell? ⟨B, 7, none⟩ = some (.slice none 0 0) := by rw [cell_at HBR.out]; rfl
          have cb8 : wr.cell? ⟨B, 8, none⟩ = some (.slice none 0 0) := by rw [cell_at HBR.out]; rfl
          have cb9 : wr.cell? ⟨B, 9, none⟩ = some (.int .i64 0) := by rw [cell_at HBR.out]; rfl
          have cb10 : wr.cell? ⟨B, 10, none⟩ = some (.int .i64 0) := by rw [cell_at HBR.out]; rfl
          go_wp2_with fail
          refine (StepModule_sum _ X Y).mono ?_
          rintro e w8 ⟨rfl, g8⟩
          have K8 := hid (g8.heap (heap_new wr (.cells #[.int .i64 (5), .complex .f32 0 0, .complex .f32 0 0, .float .f32 0, .slice none 0 0, .int .i64 (0), .int .i64 (0), .slice none 0 0, .slice none 0 0, .int .i64 (0), .int .i64 (0)] 38)) id)
          have N8 := hid (heap_new w8 (.cells #[.int .i64 (5), .complex .f32 0 0, .complex .f32 0 0, .float .f32 0, .slice none 0 0, .int .i64 (0), .int .i64 (0), .slice none 0 0, .slice none 0 0, .int .i64 (0), .int .i64 (0)] 38))
          have K8' := hid (heap_old (o' := .cells #[.int .i64 (5), .complex .f32 0 0, .complex .f32 0 0, .float .f32 0, .slice none 0 0, .int .i64 (0), .int .i64 (0), .slice none 0 0, .slice none 0 0, .int .i64 (0), .int .i64 (0)] 38) K8.out)
          have G8 := hid ((((Chg.refl (fun _ => False) wr).alloc (.cells #[.int .i64 (5), .complex .f32 0 0, .complex .f32 0 0, .float .f32 0, .slice none 0 0, .int .i64 (0), .int .i64 (0), .slice none 0 0, .slice none 0 0, .int .i64 (0), .int .i64 (0)] 38)).trans g8 fun _ _ h => h).alloc (.cells #[.int .i64 (5), .complex .f32 0 0, .complex .f32 0 0, .float .f32 0, .slice none 0 0, .int .i64 (0), .int .i64 (0), .slice none 0 0, .slice none 0 0, .int .i64 (0), .int .i64 (0)] 38))
          have L8 := hid ((LR.out.chg G8.out fun _ _ _ h => h).chg ((Chg.refl (fun _ => False) _).alloc (.cells #[.complex .f32 X Y] 33)) fun _ _ _ h => h)
          have U8 : OwnC ((w8.alloc (.cells #[.int .i64 (5), .complex .f32 0 0, .complex .f32 0 0, .float .f32 0, .slice none 0 0, .int .i64 (0), .int .i64 (0), .slice none 0 0, .slice none 0 0, .int .i64 (0), .int .i64 (0)] 38)).alloc (.cells #[.complex .f32 X Y] 33)) 0 (.slice (some ⟨w8.heap.size + 1, 0, none⟩) 1 1) [(X, Y)] := by
            have h := OwnC.lit (w8.alloc (.cells #[.int .i64 (5), .complex .f32 0 0, .complex .f32 0 0, .float .f32 0, .slice none 0 0, .int .i64 (0), .int .i64 (0), .slice none 0 0, .slice none 0 0, .int .i64 (0), .int .i64 (0)] 38)) [(X, Y)] 33 rfl (by simp) (Nat.zero_le _) #[.complex .f32 X Y] rfl
            simpa using h
          have U8' := hid U8
          clear U8 cb0 cb1 cb2 cb3 cb4 cb5 cb6 cb7 cb8 cb9 cb10
          go_wp2_with fail
          refine (MakeSame_refl _ _ _ [(X, Y)] (by simp) U8'.out L8.out).mono ?_
          rintro e w9 ⟨rfl, m9, rfl⟩
          have kk := cells_at (heap_old (o' := .cells #[.complex .f32 X Y] 33) K8'.out)
          have kn := cells_at (heap_old (o' := .cells #[.complex .f32 X Y] 33) N8.out)
          go_wp2_with fail
          go_roundw
          case rel => exact ⟨1, by omega, by go_num, hid ((G.out.trans G8.out fun _ _ h => h).trans ((((Chg.refl (fun _ => False) _).alloc (.cells #[.complex .f32 X Y] 33))).drewN m9) fun _ _ h => h)⟩
          case measure => simp [intOf]
        · have HBR := hid (G.out.heap HB.out id)
          have cb0 : wr.cell? ⟨B, 11, none⟩ = some (.int .i64 7) := by rw [cell_at HBR.out]; rfl
          have cb1 : wr.cell? ⟨B, 12, none⟩ = some (.complex .f32 0 0) := by rw [cell_at HBR.out]; rfl
          have cb2 : wr.cell? ⟨B, 13, none⟩ = some (.complex .f32 0 0) := by rw [cell_at HBR.out]; rfl
          have cb3 : wr.cell? ⟨B, 14, none⟩ = some (.float .f32 0) := by rw [cell_at HBR.out]; rfl
          have cb4 : wr.cell? ⟨B, 15, none⟩ = some (.slice none 0 0) := by rw [cell_at HBR.out]; rfl
          have cb5 : wr.cell? ⟨B, 16, none⟩ = some (.int .i64 0) := by rw [cell_at HBR.out]; rfl
          have cb6 : wr.cell? ⟨B, 17, none⟩ = some (.int .i64 0) := by rw [cell_at HBR.out]; rfl
          have cb7 : wr.cell? ⟨B, 18, none⟩ = some (.slice none 0 0) := by rw [cell_at HBR.out]; rfl
          have cb8 : wr.cell? ⟨B, 19, none⟩ = some (.slice none 0 0) := by rw [cell_at HBR.out]; rfl
          have cb9 : wr.cell? ⟨B, 20, none⟩ = some (.int .i64 0) := by rw [cell_at HBR.out]; rfl
          have cb10 : wr.cell? ⟨B, 21, none⟩ = some (.int .i64 0) := by rw [cell_at HBR.out]; rfl
          go_wp2_with fail
          refine (StepModule_meter _ 0 X Y lvl_zero).mono ?_
          rintro e w8 ⟨rfl, g8⟩
          have K8 := hid (g8.heap (heap_new wr (.cells #[.int .i64 (7), .complex .f32 0 0, .complex .f32 0 0, .float .f32 0, .slice none 0 0, .int .i64 (0), .int .i64 (0), .slice none 0 0, .slice none 0 0, .int .i64 (0), .int .i64 (0)] 38)) id)
          have N8 := hid (heap_new w8 (.cells #[.int .i64 (7), .complex .f32 0 0, .complex .f32 0 0, .float .f32 (upS 0 X Y), .slice none 0 0, .int .i64 (0), .int .i64 (0), .slice none 0 0, .slice none 0 0, .int .i64 (0), .int .i64 (0)] 38))
          have K8' := hid (heap_old (o' := .cells #[.int .i64 (7), .complex .f32 0 0, .complex .f32 0 0, .float .f32 (upS 0 X Y), .slice none 0 0, .int .i64 (0), .int .i64 (0), .slice none 0 0, .slice none 0 0, .int .i64 (0), .int .i64 (0)] 38) K8.out)
          have G8 := hid ((((Chg.refl (fun _ => False) wr).alloc (.cells #[.int .i64 (7), .complex .f32 0 0, .complex .f32 0 0, .float .f32 0, .slice none 0 0, .int .i64 (0), .int .i64 (0), .slice none 0 0, .slice none 0 0, .int .i64 (0), .int .i64 (0)] 38)).trans g8 fun _ _ h => h).alloc (.cells #[.int .i64 (7), .complex .f32 0 0, .complex .f32 0 0, .float .f32 (upS 0 X Y), .slice none 0 0, .int .i64 (0), .int .i64 (0), .slice none 0 0, .slice none 0 0, .int .i64 (0), .int .i64 (0)] 38))
          have L8 := hid ((LR.out.chg G8.out fun _ _ _ h => h).chg ((Chg.refl (fun _ => False) _).alloc (.cells #[.complex .f32 X Y] 33)) fun _ _ _ h => h)
          have U8 : OwnC ((w8.alloc (.cells #[.int .i64 (7), .complex .f32 0 0, .complex .f32 0 0, .float .f32 (upS 0 X Y), .slice none 0 0, .int .i64 (0), .int .i64 (0), .slice none 0 0, .slice none 0 0, .int .i64 (0), .int .i64 (0)] 38)).alloc (.cells #[.complex .f32 X Y] 33)) 0 (.slice (some ⟨w8.heap.size + 1, 0, none⟩) 1 1) [(X, Y)] := by
            have h := OwnC.lit (w8.alloc (.cells #[.int .i64 (7), .complex .f32 0 0, .complex .f32 0 0, .float .f32 (upS 0 X Y), .slice none 0 0, .int .i64 (0), .int .i64 (0), .slice none 0 0, .slice none 0 0, .int .i64 (0), .int .i64 (0)] 38)) [(X, Y)] 33 rfl (by simp) (Nat.zero_le _) #[.complex .f32 X Y] rfl
            simpa using h
          have U8' := hid U8
          clear U8 cb0 cb1 cb2 cb3 cb4 cb5 cb6 cb7 cb8 cb9 cb10
          go_wp2_with fail
          refine (MakeSame_refl _ _ _ [(X, Y)] (by simp) U8'.out L8.out).mono ?_
          rintro e w9 ⟨rfl, m9, rfl⟩
          have kk := cells_at (heap_old (o' := .cells #[.complex .f32 X Y] 33) K8'.out)
          have kn := cells_at (heap_old (o' := .cells #[.complex .f32 X Y] 33) N8.out)
          have hMX := HMX.out
          have hLV := HLV.out
          go_wp2_with fail
          go_roundw
          case rel => exact ⟨2, by omega, by go_num, hid ((G.out.trans G8.out fun _ _ h => h).trans ((((Chg.refl (fun _ => False) _).alloc (.cells #[.complex .f32 X Y] 33))).drewN m9) fun _ _ h => h)⟩
          case measure => simp [intOf]
        · have HBR := hid (G.out.heap HB.out id)
          have cb0 : wr.cell? ⟨B, 22, none⟩ = some (.int .i64 8) := by rw [cell_at HBR.out]; rfl
          have cb1 : wr.cell? ⟨B, 23, none⟩ = some (.complex .f32 0 0) := by rw [cell_at HBR.out]; rfl
          have cb2 : wr.cell? ⟨B, 24, none⟩ = some (.complex .f32 0 0) := by rw [cell_at HBR.out]; rfl
          have cb3 : wr.cell? ⟨B, 25, none⟩ = some (.float .f32 0) := by rw [cell_at HBR.out]; rfl
          have cb4 : wr.cell? ⟨B, 26, none⟩ = some (.slice none 0 0) := by rw [cell_at HBR.out]; rfl
          have cb5 : wr.cell? ⟨B, 27, none⟩ = some (.int .i64 0) := by rw [cell_at HBR.out]; rfl
          have cb6 : wr.cell? ⟨B, 28, none⟩ = some (.int .i64 0) := by rw [cell_at HBR.out]; rfl
          have cb7 : wr.cell? ⟨B, 29, none⟩ = some (.slice none 0 0) := by rw [cell_at HBR.out]; rfl
          have cb8 : wr.cell? ⟨B, 30, none⟩ = some (.slice none 0 0) := by rw [cell_at HBR.out]; rfl
          have cb9 : wr.cell? ⟨B, 31, none⟩ = some (.int .i64 3) := by rw [cell_at HBR.out]; rfl
          have cb10 : wr.cell? ⟨B, 32, none⟩ = some (.int .i64 0) := by rw [cell_at HBR.out]; rfl
          go_wp2_with fail
          refine (StepModule_hold _ X Y).mono ?_
          rintro e w8 ⟨rfl, g8⟩
          have K8 := hid (g8.heap (heap_new wr (.cells #[.int .i64 (8), .complex .f32 0 0, .complex .f32 0 0, .float .f32 0, .slice none 0 0, .int .i64 (0), .int .i64 (0), .slice none 0 0, .slice none 0 0, .int .i64 (3), .int .i64 (0)] 38)) id)
          have N8 := hid (heap_new w8 (.cells #[.int .i64 (8), .complex .f32 0 0, .complex .f32 X Y, .float .f32 0, .slice none 0 0, .int .i64 (0), .int .i64 (0), .slice none 0 0, .slice none 0 0, .int .i64 (3), .int .i64 (2)] 38))
          have K8' := hid (heap_old (o' := .cells #[.int .i64 (8), .complex .f32 0 0, .complex .f32 X Y, .float .f32 0, .slice none 0 0, .int .i64 (0), .int .i64 (0), .slice none 0 0, .slice none 0 0, .int .i64 (3), .int .i64 (2)] 38) K8.out)
          have G8 := hid ((((Chg.refl (fun _ => False) wr).alloc (.cells #[.int .i64 (8), .complex .f32 0 0, .complex .f32 0 0, .float .f32 0, .slice none 0 0, .int .i64 (0), .int .i64 (0), .slice none 0 0, .slice none 0 0, .int .i64 (3), .int .i64 (0)] 38)).trans g8 fun _ _ h => h).alloc (.cells #[.int .i64 (8), .complex .f32 0 0, .complex .f32 X Y, .float .f32 0, .slice none 0 0, .int .i64 (0), .int .i64 (0), .slice none 0 0, .slice none 0 0, .int .i64 (3), .int .i64 (2)] 38))
          have L8 := hid ((LR.out.chg G8.out fun _ _ _ h => h).chg ((Chg.refl (fun _ => False) _).alloc (.cells #[.complex .f32 X Y] 33)) fun _ _ _ h => h)
          have U8 : OwnC ((w8.alloc (.cells #[.int .i64 (8), .complex .f32 0 0, .complex .f32 X Y, .float .f32 0, .slice none 0 0, .int .i64 (0), .int .i64 (0), .slice none 0 0, .slice none 0 0, .int .i64 (3), .int .i64 (2)] 38)).alloc (.cells #[.complex .f32 X Y] 33)) 0 (.slice (some ⟨w8.heap.size + 1, 0, none⟩) 1 1) [(X, Y)] := by
            have h := OwnC.lit (w8.alloc (.cells #[.int .i64 (8), .complex .f32 0 0, .complex .f32 X Y, .float .f32 0, .slice none 0 0, .int .i64 (0), .int .i64 (0), .slice none 0 0, .slice none 0 0, .int .i64 (3), .int .i64 (2)] 38)) [(X, Y)] 33 rfl (by simp) (Nat.zero_le _) #[.complex .f32 X Y] rfl
            simpa using h
          have U8' := hid U8
          clear U8 cb0 cb1 cb2 cb3 cb4 cb5 cb6 cb7 cb8 cb9 cb10
          go_wp2_with fail
          refine (MakeSame_refl _ _ _ [(X, Y)] (by simp) U8'.out L8.out).mono ?_
          rintro e w9 ⟨rfl, m9, rfl⟩
          have kk := cells_at (heap_old (o' := .cells #[.complex .f32 X Y] 33) K8'.out)
          have kn := cells_at (heap_old (o' := .cells #[.complex .f32 X Y] 33) N8.out)
          go_wp2_with fail
          go_roundw
          case rel => exact ⟨3, by omega, by go_num, hid ((G.out.trans G8.out fun _ _ h => h).trans ((((Chg.refl (fun _ => False) _).alloc (.cells #[.complex .f32 X Y] 33))).drewN m9) fun _ _ h => h)⟩
          case measure => simp [intOf]
        · have GR := hid (HG.out.trans G.out fun _ _ h => h)
          have DR := hid (GR.out.heap D3.out id)
          have OR := hid (O3.out.chg GR.out fun _ _ _ h => h)
          have kD := cells_at DR.out
          go_wp2_with fail
          refine (StepModule_delay _ _ 0 0 X Y ⟨q, c, rfl, Nat.zero_le _, OR.out.mono (Nat.zero_le _)⟩).mono ?_
          rintro e w5 ⟨md, rfl, hd, g5⟩
          obtain ⟨q5, c5, rfl, hq5, ho5⟩ := hd
          have N5 := hid (heap_new w5 (.cells #[.int .i64 (4), .complex .f32 0 0, .complex .f32 0 0, .float .f32 0, .slice (some ⟨q5, 0, none⟩) 1 c5, .int .i64 (0), .int .i64 (1), .slice none 0 0, .slice none 0 0, .int .i64 (0), .int .i64 (0)] 38))
          have O5 := hid (ho5.chg ((Chg.refl (fun _ => False) w5).alloc (.cells #[.int .i64 (4), .complex .f32 0 0, .complex .f32 0 0, .float .f32 0, .slice (some ⟨q5, 0, none⟩) 1 c5, .int .i64 (0), .int .i64 (1), .slice none 0 0, .slice none 0 0, .int .i64 (0), .int .i64 (0)] 38)) fun _ _ _ h => h)
          have G5 := hid ((GR.out.trans g5 fun _ _ h => h).alloc (.cells #[.int .i64 (4), .complex .f32 0 0, .complex .f32 0 0, .float .f32 0, .slice (some ⟨q5, 0, none⟩) 1 c5, .int .i64 (0), .int .i64 (1), .slice none 0 0, .slice none 0 0, .int .i64 (0), .int .i64 (0)] 38))
          have k5 := cells_at N5.out
          clear kD DR OR g5 ho5 GR G
          go_wp2_with fail
          refine (StepModule_delay _ _ X Y 1065353216 0 ⟨q5, c5, rfl, Nat.zero_le _, O5.out.mono (Nat.zero_le _)⟩).mono ?_
          rintro e w6 ⟨md6, rfl, hd6, g6⟩
          obtain ⟨q6, c6, rfl, _, _⟩ := hd6
          have G6 := hid ((G5.out.trans g6 fun _ _ h => h).alloc (.cells #[.int .i64 (4), .complex .f32 0 0, .complex .f32 0 0, .float .f32 0, .slice (some ⟨q6, 0, none⟩) 1 c6, .int .i64 (0), .int .i64 (1), .slice none 0 0, .slice none 0 0, .int .i64 (0), .int .i64 (0)] 38))
          clear k5 N5 O5 G5 g6
          go_wp2_with fail
          refine (NewMixer_one _).mono ?_
          rintro e w7 ⟨rfl, g7⟩
          have G7 := hid (G6.out.trans g7 fun _ _ h => h)
          clear G6 g7
          go_wp2_with fail
          refine (StepModule_mixer _ 1065353216 0 1065353216 0 X Y X Y 1065353216 0 HMP.out mulP_ones).mono ?_
          rintro e w8 ⟨rfl, g8⟩
          have G8 := hid ((G7.out.trans g8 fun _ _ h => h).alloc (.cells #[.int .i64 (2), .complex .f32 1065353216 0, .complex .f32 1065353216 0, .float .f32 0, .slice none 0 0, .int .i64 (0), .int .i64 (0), .slice none 0 0, .slice none 0 0, .int .i64 (0), .int .i64 (0)] 38))
          clear G7 g8
          go_wp2_with fail
          refine (NewGain_calls _ 1065353216).mono ?_
          rintro e w9 ⟨rfl, g9⟩
          have G9 := hid (G8.out.trans g9 fun _ _ h => h)
          clear G8 g9
          go_wp2_with fail
          have hSG := StepModule_gain w9 1065353216 X Y X Y HG1.out HG2.out HW1.out HW2.out
          rw [HF1.out, HF2.out] at hSG
          refine hSG.mono ?_
          clear hSG
          rintro e w10 ⟨rfl, g10⟩
          have G10 := hid ((G9.out.trans g10 fun _ _ h => h).alloc (.cells #[.int .i64 (3), .complex .f32 0 0, .complex .f32 0 0, .float .f32 1065353216, .slice none 0 0, .int .i64 (0), .int .i64 (0), .slice none 0 0, .slice none 0 0, .int .i64 (0), .int .i64 (0)] 38))
          clear G9 g10
          go_wp2_with fail
          refine (NewGain_calls _ 1065353216).mono ?_
          rintro e w11 ⟨rfl, g11⟩
          have G11 := hid (G10.out.trans g11 fun _ _ h => h)
          clear G10 g11
          go_wp2_with fail
          have hSG := StepModule_gain w11 1065353216 1065353216 3225419776 1065353216 3225419776 mul_one_one mul_m3_one (by omega) (by omega)
          rw [flush_one, flush_m3] at hSG
          refine hSG.mono ?_
          clear hSG
          rintro e w12 ⟨rfl, g12⟩
          have G12 := hid ((G11.out.trans g12 fun _ _ h => h).alloc (.cells #[.int .i64 (3), .complex .f32 0 0, .complex .f32 0 0, .float .f32 1065353216, .slice none 0 0, .int .i64 (0), .int .i64 (0), .slice none 0 0, .slice none 0 0, .int .i64 (0), .int .i64 (0)] 38))
          clear G11 g12
          have L12 := hid ((L3.out.chg G12.out fun _ _ _ h => h).chg ((Chg.refl (fun _ => False) _).alloc (.cells #[.complex .f32 X Y] 33)) fun _ _ _ h => h)
          have hU : OwnC ((w12.alloc (.cells #[.int .i64 (3), .complex .f32 0 0, .complex .f32 0 0, .float .f32 1065353216, .slice none 0 0, .int .i64 (0), .int .i64 (0), .slice none 0 0, .slice none 0 0, .int .i64 (0), .int .i64 (0)] 38)).alloc (.cells #[.complex .f32 X Y] 33)) 0 (.slice (some ⟨w12.heap.size + 1, 0, none⟩) 1 1) [(X, Y)] := by
            have h := OwnC.lit (w12.alloc (.cells #[.int .i64 (3), .complex .f32 0 0, .complex .f32 0 0, .float .f32 1065353216, .slice none 0 0, .int .i64 (0), .int .i64 (0), .slice none 0 0, .slice none 0 0, .int .i64 (0), .int .i64 (0)] 38)) [(X, Y)] 33 rfl (by simp) (Nat.zero_le _) #[.complex .f32 X Y] rfl
            simpa using h
          have U12 := hid hU
          clear hU
          have o0 : FloatKind.f32.format.order 0 0 = some .eq := by decide +kernel
          have o1 : FloatKind.f32.format.order 2147483648 0 = some .eq := by decide +kernel
          have o2 : FloatKind.f32.format.order 1065353216 1065353216 = some .eq := by decide +kernel
          have o3 : FloatKind.f32.format.order 3225419776 3225419776 = some .eq := by decide +kernel
          have oX := HX.out
          have oY := HYY.out
          go_wp2_with fail
          refine (MakeSame_refl _ _ _ [(X, Y)] (by simp) U12.out L12.out).mono ?_
          rintro e w13 ⟨rfl, m13, rfl⟩
          go_wp2_with fail
          go_ret
          exact ⟨rfl, (G3.out.trans G12.out fun _ _ h => h).alloc _ |>.drewN m13⟩
  · have hb1 : (1048576 : Int) < (len : Int) := by omega
    clear h0
    go_enter Try.func14, Try.ntmps14
    go_wp2_with fail
    go_ret
    exact ⟨rfl, Chg.refl _ w⟩
end Go.Proofs.Ytopkehknaclhlaa
