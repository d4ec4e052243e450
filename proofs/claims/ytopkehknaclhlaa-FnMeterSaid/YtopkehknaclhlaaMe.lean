/- The law on meters, walked: for all bytes. No condition. -/
import Derived.Test.YtopkehknaclhlaaTm
namespace Go.Proofs.Ytopkehknaclhlaa
open Go Go.RowKit

theorem OwnC.chgN {S : Nat → Prop} {w w' : World} {base : Nat} {v : Value} {xs : List (Nat × Nat)} (h : OwnC w base v xs) (G : Chg S w w') (hS : ∀ g, some g = v.ownBlock → ¬ S g) : OwnC w' base v xs := by
  obtain ⟨h1, h2⟩ := h
  refine ⟨h1, ?_⟩
  rcases h2 with h2 | ⟨g, cap, cur, hv, hg, hh, r⟩
  · exact .inl h2
  · exact .inr ⟨g, cap, cur, hv, hg, G.heap hh (hS g (by rw [hv]; rfl)), r⟩

theorem chg_row11 (w : World) (b : Nat) (v0 v1 v2 v3 v4 v5 v6 v7 v8 v9 v10 : Value) :
    Chg (fun k => k = b) w (((((((((((w.setCell ⟨b, 0, none⟩ v0).setCell ⟨b, 1, none⟩ v1).setCell ⟨b, 2, none⟩ v2).setCell ⟨b, 3, none⟩ v3).setCell ⟨b, 4, none⟩ v4).setCell ⟨b, 5, none⟩ v5).setCell ⟨b, 6, none⟩ v6).setCell ⟨b, 7, none⟩ v7).setCell ⟨b, 8, none⟩ v8).setCell ⟨b, 9, none⟩ v9).setCell ⟨b, 10, none⟩ v10) := by
  repeat (first | (with_reducible exact Chg.refl _ _) | (with_reducible refine Chg.setCell ?_ ?_ _; rotate_left; exact .inl rfl))

theorem Bytes.up {w w' : World} {B : Nat} {a : Option Addr} {len cap : Nat} (h : Bytes w B a len cap) (hB : B ≤ w'.heap.size) {S : Nat → Prop} (g : Chg S w w') (hS : ∀ n, n < B → ¬ S n) : Bytes w' w'.heap.size a len cap := by
  obtain ⟨h1, h2, h3⟩ := h.chg g hS
  exact ⟨h1, h2, fun k hk => by
    obtain ⟨b, off, z, h4, h5, h6⟩ := h3 k hk
    exact ⟨b, off, z, h4, by omega, h6⟩⟩

set_option maxRecDepth 100000 in
set_option maxHeartbeats 8000000 in
theorem walkFnMeter (w : World) (a : Option Addr) (len cap : Nat) (h0 : Bytes0 w w.heap.size a len cap) :
    Calls Try.prog 16 #[.slice a len cap] w (LawPost w) := by
  by_cases hbig : len ≤ 1048576
  · have HY := hid (show Bytes w w.heap.size a len cap from ⟨h0.1, hbig, h0.2.2⟩)
    clear h0
    have hb1 : ¬ (1048576 : Int) < (len : Int) := by omega
    go_enter Try.func16, Try.ntmps16
    go_wp2_with fail
    refine (MakeSamples_calls _ _ _ _ HY.out 30 (by omega) (by omega)).mono ?_
    rintro e w1 ⟨al, cl, xs, lx, rfl, OX, g1⟩
    have z1 := g1.size
    have X1 := hid OX
    have G1 := hid g1
    have Y1 := hid (HY.out.up g1.size g1 fun _ _ h => h)
    clear OX g1
    go_wp2_with fail
    refine (fresh_calls _ _ _ _ Y1.out 3 (by omega)).mono ?_
    rintro e w2 ⟨af, lf, cf, lf1, rfl, BF, g2⟩
    have z2 := g2.size
    have X2 := hid (X1.out.chg g2 fun _ _ _ h => h)
    have G2 := hid (G1.out.trans g2 fun _ _ h => h)
    have Y2 := hid (Y1.out.up g2.size g2 fun _ _ h => h)
    have BF2 := hid BF
    clear X1 G1 Y1 BF g2
    go_wp2_with fail
    refine (MakeFloat_calls _ _ _ _ BF2.out).mono ?_
    rintro e w3 ⟨re, lre, rfl, g3⟩
    have z3 := g3.size
    have X3 := hid (X2.out.chg g3 fun _ _ _ h => h)
    have G3 := hid (G2.out.trans g3 fun _ _ h => h)
    have Y3 := hid (Y2.out.up g3.size g3 fun _ _ h => h)
    clear X2 G2 Y2 BF2 g3
    go_wp2_with fail
    refine (fresh_calls _ _ _ _ Y3.out 5 (by omega)).mono ?_
    rintro e w4 ⟨ah, lh, ch, lh1, rfl, BH, g4⟩
    have z4 := g4.size
    have X4 := hid (X3.out.chg g4 fun _ _ _ h => h)
    have G4 := hid (G3.out.trans g4 fun _ _ h => h)
    have BH4 := hid BH
    clear X3 G3 Y3 BH g4
    go_wp2_with fail
    refine (MakeFloat_calls _ _ _ _ BH4.out).mono ?_
    rintro e w5 ⟨im, lim, rfl, g5⟩
    have z5 := g5.size
    have X5 := hid (X4.out.chg g5 fun _ _ _ h => h)
    have G5 := hid (G4.out.trans g5 fun _ _ h => h)
    clear X4 G4 BH4 g5
    have HE : OwnC (w5.alloc (.cells #[.complex .f32 re im] 33)) 0 (.slice (some ⟨w5.heap.size, 0, none⟩) 1 1) [(re, im)] := OwnC.lit w5 [(re, im)] _ rfl (by simp) (Nat.zero_le _) #[.complex .f32 re im] rfl
    have HE' := hid HE
    clear HE
    have HA := hid (X5.out.chg ((Chg.refl (fun _ => False) w5).alloc (.cells #[.complex .f32 re im] 33)) (fun _ _ _ h => h))
    have HXB := hid (fun g (h : some g = (Value.slice al xs.length cl).ownBlock) => X5.out.own_lt h)
    have zb : w.heap.size ≤ w5.heap.size + 1 := by omega
    go_wp2_with (at_builtin; refine wpList_app _ rfl _ _ rfl w.heap.size _ _ xs [(re, im)] rfl HA.out rfl HE'.out (by simp; omega) (by simp; omega) ?_)
    intro a6 c6 w6 hO6 hG6
    have O6 := hid hO6
    have G6 := hid ((G5.out.alloc (.cells #[.complex .f32 re im] 33)).trans hG6 (fun n h1 e => by have := (HXB.out n e).1; omega))
    have z6 := G6.out.size
    have hl6 : (xs ++ [(re, im)]).length = xs.length + 1 := by simp
    clear hO6 hG6 HE' HA HXB X5 G5 zb
    generalize hys : xs ++ [(re, im)] = ys at *
    generalize hn : xs.length + 1 = n at *
    have hN : n ≤ 31 := by omega
    have HN := hid hl6
    clear hys hn hl6
    go_wp2_with fail
    refine (NewMeter_calls _).mono ?_
    rintro e w7 ⟨rfl, g7⟩
    have z7 := g7.size
    have O7 := hid ((O6.out.chg g7 fun _ _ _ h => h).chg ((Chg.refl (fun _ => False) w7).alloc (.cells #[.int .i64 (7), .complex .f32 0 0, .complex .f32 0 0, .float .f32 0, .slice none 0 0, .int .i64 (0), .int .i64 (0), .slice none 0 0, .slice none 0 0, .int .i64 (0), .int .i64 (0)] 38)) fun _ _ _ h => h)
    have G7 := hid (G6.out.trans g7 fun _ _ h => h)
    have F7 := hid (heap_new w7 (.cells #[.int .i64 (7), .complex .f32 0 0, .complex .f32 0 0, .float .f32 0, .slice none 0 0, .int .i64 (0), .int .i64 (0), .slice none 0 0, .slice none 0 0, .int .i64 (0), .int .i64 (0)] 38))
    have HB7 := hid (fun g (h : some g = (Value.slice a6 n c6).ownBlock) => (O6.out.own_lt h).2)
    clear O6 G6 g7
    go_wp2_with fail
    go_loopw [5, 33] (fun mo i wr => ∃ (k l m : Nat), k ≤ n ∧ i = .int .i64 (k : Int) ∧ mo = .float .f32 m ∧ Hid (Lvl l ∧ Lvl m ∧ key l = key m) ∧ Hid (wr.heap[w7.heap.size]? = some (.cells #[.int .i64 (7), .complex .f32 0 0, .complex .f32 0 0, .float .f32 l, .slice none 0 0, .int .i64 (0), .int .i64 (0), .slice none 0 0, .slice none 0 0, .int .i64 (0), .int .i64 (0)] 38 (0, 0))) ∧ Hid (OwnC wr w.heap.size (.slice a6 n c6) ys) ∧ Hid (Chg (fun k => k = w7.heap.size) w7 wr)) (fun _ i _ => n - (intOf i).toNat)
    case atStart => exact ⟨0, 0, 0, by omega, rfl, rfl, hid ⟨lvl_zero, lvl_zero, rfl⟩, F7, O7, hid ((Chg.refl (fun k => k = w7.heap.size) w7).alloc _)⟩
    case round =>
      obtain ⟨k, l, m, hk, rfl, rfl, HLM, HB, HO, G⟩ := hrel
      obtain ⟨wo, rfl⟩ : ∃ wo : World, wo = wr := ⟨_, rfl⟩
      clear O7 F7
      have zr := G.out.size
      have yR := heap_lt HB.out
      have kB := cells_at HB.out
      by_cases hlt : k < n
      · have hlt' : (k : Int) < (n : Int) := by omega
        obtain ⟨g, c', hv, hg0, hg1, hgc, hcells⟩ := HO.out.at HN.out (by omega)
        obtain ⟨x, y, hxk, hck⟩ := hcells k hlt
        simp at hv
        obtain ⟨rfl, rfl⟩ := hv
        have HCC := hid hcells
        clear hcells hxk
        go_wp2_with fail
        refine (StepModule_meter _ l x y HLM.out.1).mono ?_
        rintro e w8 ⟨rfl, g8⟩
        have z8 := g8.size
        have B8 := hid (g8.heap HB.out id)
        have O8 := hid (HO.out.chg g8 fun _ _ _ h => h)
        have G8 := hid (G.out.trans g8 fun _ _ h => h.elim)
        clear kB hck HB HO G g8
        have U1' : OwnC (((w8.alloc (.cells #[.int .i64 (7), .complex .f32 0 0, .complex .f32 0 0, .float .f32 (upS l x y), .slice none 0 0, .int .i64 (0), .int .i64 (0), .slice none 0 0, .slice none 0 0, .int .i64 (0), .int .i64 (0)] 38)).alloc (.cells #[.complex .f32 x y] 33)).alloc (.cells #[.complex .f32 x y] 33)) 0 (.slice (some ⟨w8.heap.size + 1, 0, none⟩) 1 1) [(x, y)] := by
          have h := (OwnC.lit (w8.alloc (.cells #[.int .i64 (7), .complex .f32 0 0, .complex .f32 0 0, .float .f32 (upS l x y), .slice none 0 0, .int .i64 (0), .int .i64 (0), .slice none 0 0, .slice none 0 0, .int .i64 (0), .int .i64 (0)] 38)) [(x, y)] 33 rfl (by simp) (Nat.zero_le _) #[.complex .f32 x y] rfl).chg ((Chg.refl (fun _ => False) _).alloc (.cells #[.complex .f32 x y] 33)) fun _ _ _ h => h
          simpa using h
        have U2' : OwnC (((w8.alloc (.cells #[.int .i64 (7), .complex .f32 0 0, .complex .f32 0 0, .float .f32 (upS l x y), .slice none 0 0, .int .i64 (0), .int .i64 (0), .slice none 0 0, .slice none 0 0, .int .i64 (0), .int .i64 (0)] 38)).alloc (.cells #[.complex .f32 x y] 33)).alloc (.cells #[.complex .f32 x y] 33)) 0 (.slice (some ⟨w8.heap.size + 1 + 1, 0, none⟩) 1 1) [(x, y)] := by
          have h := OwnC.lit ((w8.alloc (.cells #[.int .i64 (7), .complex .f32 0 0, .complex .f32 0 0, .float .f32 (upS l x y), .slice none 0 0, .int .i64 (0), .int .i64 (0), .slice none 0 0, .slice none 0 0, .int .i64 (0), .int .i64 (0)] 38)).alloc (.cells #[.complex .f32 x y] 33)) [(x, y)] 33 rfl (by simp) (Nat.zero_le _) #[.complex .f32 x y] rfl
          simpa using h
        have U1 := hid U1'
        have U2 := hid U2'
        clear U1' U2'
        go_wp2_with fail
        refine (MakeSame_refl _ _ _ [(x, y)] (by simp) U1.out U2.out).mono ?_
        rintro e w9 ⟨rfl, m9, rfl⟩
        have g9 := ((((Chg.refl (fun _ => False) w8).alloc (.cells #[.int .i64 (7), .complex .f32 0 0, .complex .f32 0 0, .float .f32 (upS l x y), .slice none 0 0, .int .i64 (0), .int .i64 (0), .slice none 0 0, .slice none 0 0, .int .i64 (0), .int .i64 (0)] 38)).alloc (.cells #[.complex .f32 x y] 33)).alloc (.cells #[.complex .f32 x y] 33)).drewN m9
        have N9 := hid ((((Chg.refl (fun _ => False) (w8.alloc (.cells #[.int .i64 (7), .complex .f32 0 0, .complex .f32 0 0, .float .f32 (upS l x y), .slice none 0 0, .int .i64 (0), .int .i64 (0), .slice none 0 0, .slice none 0 0, .int .i64 (0), .int .i64 (0)] 38))).alloc (.cells #[.complex .f32 x y] 33)).alloc (.cells #[.complex .f32 x y] 33)).drewN m9 |>.heap (heap_new w8 (.cells #[.int .i64 (7), .complex .f32 0 0, .complex .f32 0 0, .float .f32 (upS l x y), .slice none 0 0, .int .i64 (0), .int .i64 (0), .slice none 0 0, .slice none 0 0, .int .i64 (0), .int .i64 (0)] 38)) id)
        have B9 := hid (g9.heap B8.out id)
        have O9 := hid (O8.out.chg g9 fun _ _ _ h => h)
        have G9 := hid (G8.out.trans g9 fun _ _ h => h.elim)
        have z9 := g9.size
        clear g9 U1 U2 B8 O8 G8
        generalize ((((w8.alloc (.cells #[.int .i64 (7), .complex .f32 0 0, .complex .f32 0 0, .float .f32 (upS l x y), .slice none 0 0, .int .i64 (0), .int .i64 (0), .slice none 0 0, .slice none 0 0, .int .i64 (0), .int .i64 (0)] 38)).alloc (.cells #[.complex .f32 x y] 33)).alloc (.cells #[.complex .f32 x y] 33)).drewN m9) = w9 at *
        have K4 : ∀ j, (w9.alloc (.cells #[.float .f32 x, .float .f32 y, .float .f32 (Op.negFloat .f32 x), .float .f32 (Op.negFloat .f32 y)] 32)).cell? ⟨w9.heap.size, j, none⟩ = (#[.float .f32 x, .float .f32 y, .float .f32 (Op.negFloat .f32 x), .float .f32 (Op.negFloat .f32 y)] : Array Value)[j]? := cells_at (heap_new w9 _)
        have K4' := hid K4
        clear K4
        go_wp2_with fail
        go_loop [5, 66] (fun mo i => ∃ (j : Nat), j ≤ 4 ∧ i = .int .i64 (j : Int) ∧ mo = .float .f32 (mostJ m x y j)) (fun _ i => 4 - (intOf i).toNat)
        case atStart => exact ⟨0, by omega, rfl, rfl⟩
        case round =>
          obtain ⟨j, hj, rfl, rfl⟩ := hrel
          by_cases hj4 : j < 4
          · have hj4' : (j : Int) < 4 := by omega
            have hcj := (K4'.out j).trans (L4_cell x y hj4)
            have hst : mostJ m x y (j + 1) = up (mostJ m x y j) (L4 x y j) := rfl
            have HST := hid hst
            clear hst
            generalize L4 x y j = v at *
            generalize mostJ m x y j = c at *
            cases hg : (FloatKind.f32.format.order v c == some .gt)
            · have e : up c v = c := by unfold up gtF; rw [hg]; rfl
              have HE := hid (HST.out.trans e)
              clear e HST
              go_wp2_with fail
              go_round
              case rel => exact ⟨j + 1, by omega, by go_num, by rw [HE.out]⟩
              case measure => simp [intOf]; omega
            · have e : up c v = v := by unfold up gtF; rw [hg]; rfl
              have HE := hid (HST.out.trans e)
              clear e HST
              go_wp2_with fail
              go_round
              case rel => exact ⟨j + 1, by omega, by go_num, by rw [HE.out]⟩
              case measure => simp [intOf]; omega
          · obtain rfl : j = 4 := by omega
            have hj4' : ¬ ((4 : Nat) : Int) < 4 := by omega
            have B10 := hid (heap_old (o' := .cells #[.float .f32 x, .float .f32 y, .float .f32 (Op.negFloat .f32 x), .float .f32 (Op.negFloat .f32 y)] 32) B9.out)
            have N10 := hid (heap_old (o' := .cells #[.float .f32 x, .float .f32 y, .float .f32 (Op.negFloat .f32 x), .float .f32 (Op.negFloat .f32 y)] 32) N9.out)
            have kB := cells_at B10.out
            have fB := frees_at B10.out
            have kN := cells_at N10.out
            have nBN : w7.heap.size ≠ w8.heap.size := by omega
            have ML := meter_law HLM.out.1 HLM.out.2.1 HLM.out.2.2 x y
            have ML' := hid ML
            clear ML
            go_wp2_with fail
            go_roundw
            case rel =>
              have GS : Chg (fun k => k = w7.heap.size) (w9.alloc (.cells #[.float .f32 x, .float .f32 y, .float .f32 (Op.negFloat .f32 x), .float .f32 (Op.negFloat .f32 y)] 32)) _ := chg_row11 _ w7.heap.size (.int .i64 7) (.complex .f32 0 0) (.complex .f32 0 0) (.float .f32 (upS l x y)) (.slice none 0 0) (.int .i64 0) (.int .i64 0) (.slice none 0 0) (.slice none 0 0) (.int .i64 0) (.int .i64 0)
              refine ⟨k + 1, upS l x y, upL m x y, by omega, by go_num, rfl, ML', hid (heap_row11 B10.out _ _ _ _ _ _ _ _ _ _ _), hid (((O9.out.chg ((Chg.refl (fun _ => False) w9).alloc _) fun _ _ _ h => h)).chgN GS (fun g0 h1 e => by have := HB7.out g0 h1; omega)), hid ((G9.out.alloc _).trans GS fun _ _ h => h)⟩
            case measure => simp [intOf]; omega
      · obtain rfl : k = n := by omega
        have hlt' : ¬ (k : Int) < (k : Int) := by omega
        go_wp2_with fail
        refine (TellModule_meter _ l HLM.out.1).mono ?_
        rintro e w8 ⟨rfl, g8⟩
        have oe := lvl_eq HLM.out.1 HLM.out.2.1 HLM.out.2.2
        have oz : FloatKind.f32.format.order 0 0 = some .eq := by decide +kernel
        go_wp2_with fail
        go_ret
        exact ⟨rfl, (G7.out.trans G.out (fun k h1 h2 => by omega)).trans g8 fun _ _ h => h⟩
  · have hb1 : (1048576 : Int) < (len : Int) := by omega
    clear h0
    go_enter Try.func16, Try.ntmps16
    go_wp2_with fail
    go_ret
    exact ⟨rfl, Chg.refl _ w⟩
end Go.Proofs.Ytopkehknaclhlaa
