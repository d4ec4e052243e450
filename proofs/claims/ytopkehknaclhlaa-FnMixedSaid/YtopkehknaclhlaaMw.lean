/- The law on mixers that turn by quarters, walked: for all bytes. No condition. -/
import Derived.Test.YtopkehknaclhlaaMp
import Derived.Test.YtopkehknaclhlaaUt
namespace Go.Proofs.Ytopkehknaclhlaa
open Go Go.RowKit

theorem NewMixer_calls (w : World) (t1 t2 : Nat) : Calls Try.prog 67 #[.complex .f32 t1 t2] w (fun e w' => e = .returned (.agg #[.int .i64 (2), .complex .f32 t1 t2, .complex .f32 1065353216 0, .float .f32 0, .slice none 0 0, .int .i64 (0), .int .i64 (0), .slice none 0 0, .slice none 0 0, .int .i64 (0), .int .i64 (0)]) ∧ Chg (fun _ => False) w w') := by
  go_enter Try.func67, Try.ntmps67
  go_wp2
  exact bodyPost_ret (v := .agg #[.int .i64 (2), .complex .f32 t1 t2, .complex .f32 1065353216 0, .float .f32 0, .slice none 0 0, .int .i64 (0), .int .i64 (0), .slice none 0 0, .slice none 0 0, .int .i64 (0), .int .i64 (0)]) (by simp [results, Try.results67, go_sem]) rfl ⟨rfl, (Chg.refl _ w).alloc _⟩

theorem eqF_eq {x y : Nat} (h : eqF x y = true) : FloatKind.f32.format.order x y = some .eq := by
  unfold eqF at h
  simpa using h

set_option maxRecDepth 100000 in
set_option maxHeartbeats 8000000 in
theorem walkFnMixed (w : World) (a : Option Addr) (len cap : Nat) (h0 : Bytes0 w w.heap.size a len cap) :
    Calls Try.prog 15 #[.slice a len cap] w (LawPost w) := by
  by_cases hbig : len ≤ 1048576
  · have HY := hid (show Bytes w w.heap.size a len cap from ⟨h0.1, hbig, h0.2.2⟩)
    clear h0
    have hb1 : ¬ (1048576 : Int) < (len : Int) := by omega
    go_enter Try.func15, Try.ntmps15
    go_wp2_with fail
    refine (MakeWhole_calls _ _ _ _ HY.out 24 (by omega) (by omega)).mono ?_
    rintro e w1 ⟨al, cl, ys, lx, hwh, rfl, OX, g1⟩
    have z1 := g1.size
    have X1 := hid OX
    have G1 := hid g1
    have WH := hid hwh
    have Y1 := hid (HY.out.up g1.size g1 fun _ _ h => h)
    clear OX g1 hwh
    generalize hn : ys.length = n at *
    have HN := hid hn
    clear hn
    have X2 := hid (X1.out.chg ((Chg.refl (fun _ => False) w1).alloc (.cells #[.complex .f32 0 1065353216, .complex .f32 0 3212836864, .complex .f32 3212836864 0] 33)) fun _ _ _ h => h)
    have G2 := hid (G1.out.alloc (.cells #[.complex .f32 0 1065353216, .complex .f32 0 3212836864, .complex .f32 3212836864 0] 33))
    have K2 := hid (cells_at (heap_new w1 (.cells #[.complex .f32 0 1065353216, .complex .f32 0 3212836864, .complex .f32 3212836864 0] 33)))
    have Y2 := hid (Y1.out.up (by simp) ((Chg.refl (fun _ => False) w1).alloc (.cells #[.complex .f32 0 1065353216, .complex .f32 0 3212836864, .complex .f32 3212836864 0] 33)) fun _ _ h => h)
    go_wp2_with fail
    refine (at_calls _ _ _ _ Y2.out 1 (by omega)).mono ?_
    rintro e w2 ⟨x, hx, rfl, rfl⟩
    obtain ⟨j, hj3, hjx⟩ : ∃ j : Nat, j < 3 ∧ ((x : Nat) : Int) % 3 = (j : Int) := ⟨x % 3, by omega, by omega⟩
    obtain ⟨t1, t2, d1, d2, bk1, bk2, ht, hm1, hm2, hc⟩ := turn_at j hj3
    have hcell := (K2.out j).trans ht
    have HM1 := hid hm1
    have HM2 := hid hm2
    have HC := hid hc
    have x0 : (0 : Int) ≤ ((x : Nat) : Int) := by omega
    clear ht hm1 hm2 hc Y1 Y2 X1 G1 K2
    go_wp2_with fail
    refine (MultiplyPoints_calls _ _ _ _ _ _ _ HM1.out).mono ?_
    rintro e w' ⟨rfl, rfl⟩
    go_wp2_with fail
    refine (MultiplyPoints_calls _ _ _ _ _ _ _ HM2.out).mono ?_
    rintro e w' ⟨rfl, rfl⟩
    go_wp2_with fail
    generalize hw2 : (w1.alloc (.cells #[.complex .f32 0 1065353216, .complex .f32 0 3212836864, .complex .f32 3212836864 0] 33)) = w2 at *
    have lz2 : w1.heap.size + 1 = w2.heap.size := by rw [← hw2]; simp
    clear hw2 hcell hjx hj3 x0 hx
    have HYB := hid (fun g (h : some g = (Value.slice al n cl).ownBlock) => (X2.out.own_lt h).2)
    refine (NewMixer_calls _ t1 t2).mono ?_
    rintro e w3 ⟨rfl, g3⟩
    have lz3 := g3.size
    have X3 := hid ((X2.out.chg g3 fun _ _ _ h => h).chg ((Chg.refl (fun _ => False) w3).alloc (.cells #[.int .i64 (2), .complex .f32 t1 t2, .complex .f32 1065353216 0, .float .f32 0, .slice none 0 0, .int .i64 (0), .int .i64 (0), .slice none 0 0, .slice none 0 0, .int .i64 (0), .int .i64 (0)] 38)) fun _ _ _ h => h)
    have G3 := hid ((G2.out.trans g3 fun _ _ h => h).alloc (.cells #[.int .i64 (2), .complex .f32 t1 t2, .complex .f32 1065353216 0, .float .f32 0, .slice none 0 0, .int .i64 (0), .int .i64 (0), .slice none 0 0, .slice none 0 0, .int .i64 (0), .int .i64 (0)] 38))
    have A3 := hid (heap_new w3 (.cells #[.int .i64 (2), .complex .f32 t1 t2, .complex .f32 1065353216 0, .float .f32 0, .slice none 0 0, .int .i64 (0), .int .i64 (0), .slice none 0 0, .slice none 0 0, .int .i64 (0), .int .i64 (0)] 38))
    clear X2 G2 g3
    go_wp2_with fail
    refine (NewMixer_calls _ bk1 bk2).mono ?_
    rintro e w4 ⟨rfl, g4⟩
    have lz4 := g4.size
    simp at lz4
    have X4 := hid ((X3.out.chg g4 fun _ _ _ h => h).chg ((Chg.refl (fun _ => False) w4).alloc (.cells #[.int .i64 (2), .complex .f32 bk1 bk2, .complex .f32 1065353216 0, .float .f32 0, .slice none 0 0, .int .i64 (0), .int .i64 (0), .slice none 0 0, .slice none 0 0, .int .i64 (0), .int .i64 (0)] 38)) fun _ _ _ h => h)
    have G4 := hid (G3.out.trans g4 fun _ _ h => h)
    have A4 := hid (heap_old (o' := .cells #[.int .i64 (2), .complex .f32 bk1 bk2, .complex .f32 1065353216 0, .float .f32 0, .slice none 0 0, .int .i64 (0), .int .i64 (0), .slice none 0 0, .slice none 0 0, .int .i64 (0), .int .i64 (0)] 38) (g4.heap A3.out id))
    have B4 := hid (heap_new w4 (.cells #[.int .i64 (2), .complex .f32 bk1 bk2, .complex .f32 1065353216 0, .float .f32 0, .slice none 0 0, .int .i64 (0), .int .i64 (0), .slice none 0 0, .slice none 0 0, .int .i64 (0), .int .i64 (0)] 38))
    clear X3 G3 A3 g4
    go_wp2_with fail
    go_loopw [42] (fun i wr => ∃ (k a1 a2 b1 b2 : Nat), k ≤ n ∧ i = .int .i64 (k : Int) ∧ Hid (((t1, t2), (bk1, bk2), k % 4, (a1, a2), (b1, b2)) ∈ combos) ∧ Hid (wr.heap[w3.heap.size]? = some (.cells #[.int .i64 (2), .complex .f32 t1 t2, .complex .f32 a1 a2, .float .f32 0, .slice none 0 0, .int .i64 (0), .int .i64 (0), .slice none 0 0, .slice none 0 0, .int .i64 (0), .int .i64 (0)] 38 (0, 0))) ∧ Hid (wr.heap[w4.heap.size]? = some (.cells #[.int .i64 (2), .complex .f32 bk1 bk2, .complex .f32 b1 b2, .float .f32 0, .slice none 0 0, .int .i64 (0), .int .i64 (0), .slice none 0 0, .slice none 0 0, .int .i64 (0), .int .i64 (0)] 38 (0, 0))) ∧ Hid (OwnC wr w.heap.size (.slice al n cl) ys) ∧ Hid (Chg (fun k => k = w3.heap.size ∨ k = w4.heap.size) w4 wr)) (fun i _ => n - (intOf i).toNat)
    case atStart => exact ⟨0, 1065353216, 0, 1065353216, 0, by omega, rfl, HC, A4, B4, X4, hid ((Chg.refl (fun k => k = w3.heap.size ∨ k = w4.heap.size) w4).alloc _)⟩
    case round =>
      obtain ⟨k, a1, a2, b1, b2, hk, rfl, HCC, HA, HB, HO, G⟩ := hrel
      clear HC A4 B4 X4
      have lzr := G.out.size
      have yA := heap_lt HA.out
      have yB := heap_lt HB.out
      have kA := cells_at HA.out
      have kB := cells_at HB.out
      have nAB : w3.heap.size ≠ w4.heap.size := by omega
      by_cases hlt : k < n
      · have hlt' : (k : Int) < (n : Int) := by omega
        obtain ⟨g, c', hv, hg0, hg1, hgc, hcells⟩ := HO.out.at HN.out (by omega)
        obtain ⟨x, y, hxk, hck⟩ := hcells k hlt
        simp at hv
        obtain ⟨rfl, rfl⟩ := hv
        have hzw := WH.out (x, y) (List.mem_of_getElem? hxk)
        obtain ⟨⟨p1, p2⟩, ⟨q1, q2⟩, hp, hq, e1, e2, e3⟩ := combo_pass HCC.out hzw
        obtain ⟨⟨r1, r2⟩, ⟨s1, s2⟩, hr, hs, hnext⟩ := combo_step HCC.out
        have HP := hid hp
        have HQ := hid hq
        have HE1 := hid (eqF_eq e1)
        have HE2 := hid (eqF_eq e2)
        have HE3 := hid e3
        have HR := hid hr
        have HS := hid hs
        have HNX := hid (show ((t1, t2), (bk1, bk2), (k + 1) % 4, (r1, r2), (s1, s2)) ∈ combos by rw [← Nat.mod_add_mod]; exact hnext)
        clear hcells hxk hzw hp hq e1 e2 e3 hr hs hnext HCC
        go_wp2_with fail
        refine (StepModule_mixer _ t1 t2 a1 a2 x y p1 p2 r1 r2 HP.out HR.out).mono ?_
        rintro e w8 ⟨rfl, g8⟩
        have lz8 := g8.size
        have A8 := hid (heap_old (o' := .cells #[.int .i64 (2), .complex .f32 t1 t2, .complex .f32 r1 r2, .float .f32 0, .slice none 0 0, .int .i64 (0), .int .i64 (0), .slice none 0 0, .slice none 0 0, .int .i64 (0), .int .i64 (0)] 38) (g8.heap HA.out id))
        have B8 := hid (heap_old (o' := .cells #[.int .i64 (2), .complex .f32 t1 t2, .complex .f32 r1 r2, .float .f32 0, .slice none 0 0, .int .i64 (0), .int .i64 (0), .slice none 0 0, .slice none 0 0, .int .i64 (0), .int .i64 (0)] 38) (g8.heap HB.out id))
        have O8 := hid ((HO.out.chg g8 fun _ _ _ h => h).chg ((Chg.refl (fun _ => False) w8).alloc (.cells #[.int .i64 (2), .complex .f32 t1 t2, .complex .f32 r1 r2, .float .f32 0, .slice none 0 0, .int .i64 (0), .int .i64 (0), .slice none 0 0, .slice none 0 0, .int .i64 (0), .int .i64 (0)] 38)) fun _ _ _ h => h)
        have G8 := hid ((G.out.trans g8 fun _ _ h => h.elim).alloc (.cells #[.int .i64 (2), .complex .f32 t1 t2, .complex .f32 r1 r2, .float .f32 0, .slice none 0 0, .int .i64 (0), .int .i64 (0), .slice none 0 0, .slice none 0 0, .int .i64 (0), .int .i64 (0)] 38))
        have N8 := hid (heap_new w8 (.cells #[.int .i64 (2), .complex .f32 t1 t2, .complex .f32 r1 r2, .float .f32 0, .slice none 0 0, .int .i64 (0), .int .i64 (0), .slice none 0 0, .slice none 0 0, .int .i64 (0), .int .i64 (0)] 38))
        clear kA kB hck HA HB HO G g8
        have kB := cells_at B8.out
        go_wp2_with fail
        refine (StepModule_mixer _ bk1 bk2 b1 b2 p1 p2 q1 q2 s1 s2 HQ.out HS.out).mono ?_
        rintro e w9 ⟨rfl, g9⟩
        have lz9 := g9.size
        simp at lz9
        have A9 := hid (heap_old (o' := .cells #[.int .i64 (2), .complex .f32 bk1 bk2, .complex .f32 s1 s2, .float .f32 0, .slice none 0 0, .int .i64 (0), .int .i64 (0), .slice none 0 0, .slice none 0 0, .int .i64 (0), .int .i64 (0)] 38) (g9.heap A8.out id))
        have B9 := hid (heap_old (o' := .cells #[.int .i64 (2), .complex .f32 bk1 bk2, .complex .f32 s1 s2, .float .f32 0, .slice none 0 0, .int .i64 (0), .int .i64 (0), .slice none 0 0, .slice none 0 0, .int .i64 (0), .int .i64 (0)] 38) (g9.heap B8.out id))
        have N9 := hid (heap_old (o' := .cells #[.int .i64 (2), .complex .f32 bk1 bk2, .complex .f32 s1 s2, .float .f32 0, .slice none 0 0, .int .i64 (0), .int .i64 (0), .slice none 0 0, .slice none 0 0, .int .i64 (0), .int .i64 (0)] 38) (g9.heap N8.out id))
        have P9 := hid (heap_new w9 (.cells #[.int .i64 (2), .complex .f32 bk1 bk2, .complex .f32 s1 s2, .float .f32 0, .slice none 0 0, .int .i64 (0), .int .i64 (0), .slice none 0 0, .slice none 0 0, .int .i64 (0), .int .i64 (0)] 38))
        have O9 := hid ((O8.out.chg g9 fun _ _ _ h => h).chg ((Chg.refl (fun _ => False) w9).alloc (.cells #[.int .i64 (2), .complex .f32 bk1 bk2, .complex .f32 s1 s2, .float .f32 0, .slice none 0 0, .int .i64 (0), .int .i64 (0), .slice none 0 0, .slice none 0 0, .int .i64 (0), .int .i64 (0)] 38)) fun _ _ _ h => h)
        have G9 := hid ((G8.out.trans g9 fun _ _ h => h.elim).alloc (.cells #[.int .i64 (2), .complex .f32 bk1 bk2, .complex .f32 s1 s2, .float .f32 0, .slice none 0 0, .int .i64 (0), .int .i64 (0), .slice none 0 0, .slice none 0 0, .int .i64 (0), .int .i64 (0)] 38))
        clear kB A8 B8 N8 O8 G8 g9
        have kA := cells_at A9.out
        have fA := frees_at A9.out
        have kB := cells_at B9.out
        have fB := frees_at B9.out
        have kN := cells_at N9.out
        have kP := cells_at P9.out
        have n1 : w3.heap.size ≠ w8.heap.size := by omega
        have n2 : w3.heap.size ≠ w9.heap.size := by omega
        have n3 : w4.heap.size ≠ w8.heap.size := by omega
        have n4 : w4.heap.size ≠ w9.heap.size := by omega
        have n5 : w8.heap.size ≠ w9.heap.size := by omega
        have hE1 := HE1.out
        have hE2 := HE2.out
        have k0 : (0 : Int) ≤ (k : Int) := by omega
        by_cases h4 : k % 4 = 0
        · have h4' : ((k : Int) % 4) = 0 := by omega
          have hE3 := eqF_eq (HE3.out h4).1
          have hE4 := eqF_eq (HE3.out h4).2
          clear h4
          go_wp2_with fail
          go_roundw
          case rel =>
            have GS1 := chg_row11 (w9.alloc (.cells #[.int .i64 (2), .complex .f32 bk1 bk2, .complex .f32 s1 s2, .float .f32 0, .slice none 0 0, .int .i64 (0), .int .i64 (0), .slice none 0 0, .slice none 0 0, .int .i64 (0), .int .i64 (0)] 38)) w3.heap.size (.int .i64 2) (.complex .f32 t1 t2) (.complex .f32 r1 r2) (.float .f32 0) (.slice none 0 0) (.int .i64 0) (.int .i64 0) (.slice none 0 0) (.slice none 0 0) (.int .i64 0) (.int .i64 0)
            have AS1 := heap_row11 A9.out (.int .i64 2) (.complex .f32 t1 t2) (.complex .f32 r1 r2) (.float .f32 0) (.slice none 0 0) (.int .i64 0) (.int .i64 0) (.slice none 0 0) (.slice none 0 0) (.int .i64 0) (.int .i64 0)
            have BS1 := GS1.heap B9.out (fun e => nAB e.symm)
            have OS1 := O9.out.chgN GS1 (fun g0 h1 e => by have := HYB.out g0 h1; omega)
            have GG1 := G9.out.trans GS1 (fun _ _ h => .inl h)
            clear GS1
            generalize ((((((((((((w9.alloc (.cells #[.int .i64 (2), .complex .f32 bk1 bk2, .complex .f32 s1 s2, .float .f32 0, .slice none 0 0, .int .i64 (0), .int .i64 (0), .slice none 0 0, .slice none 0 0, .int .i64 (0), .int .i64 (0)] 38)).setCell ⟨w3.heap.size, 0, none⟩ (.int .i64 2)).setCell ⟨w3.heap.size, 1, none⟩ (.complex .f32 t1 t2)).setCell ⟨w3.heap.size, 2, none⟩ (.complex .f32 r1 r2)).setCell ⟨w3.heap.size, 3, none⟩ (.float .f32 0)).setCell ⟨w3.heap.size, 4, none⟩ (.slice none 0 0)).setCell ⟨w3.heap.size, 5, none⟩ (.int .i64 0)).setCell ⟨w3.heap.size, 6, none⟩ (.int .i64 0)).setCell ⟨w3.heap.size, 7, none⟩ (.slice none 0 0)).setCell ⟨w3.heap.size, 8, none⟩ (.slice none 0 0)).setCell ⟨w3.heap.size, 9, none⟩ (.int .i64 0)).setCell ⟨w3.heap.size, 10, none⟩ (.int .i64 0)) = w10 at *
            have GS2 := chg_row11 w10 w4.heap.size (.int .i64 2) (.complex .f32 bk1 bk2) (.complex .f32 s1 s2) (.float .f32 0) (.slice none 0 0) (.int .i64 0) (.int .i64 0) (.slice none 0 0) (.slice none 0 0) (.int .i64 0) (.int .i64 0)
            exact ⟨k + 1, r1, r2, s1, s2, by omega, by go_num, HNX, hid (GS2.heap AS1 nAB), hid (heap_row11 BS1 _ _ _ _ _ _ _ _ _ _ _), hid (OS1.chgN GS2 (fun g0 h1 e => by have := HYB.out g0 h1; omega)), hid (GG1.trans GS2 fun _ _ h => .inr h)⟩
          case measure => simp [intOf]; omega
        · have h4' : (((k : Int) % 4) == 0) = false := by simp; omega
          clear h4
          go_wp2_with fail
          go_roundw
          case rel =>
            have GS1 := chg_row11 (w9.alloc (.cells #[.int .i64 (2), .complex .f32 bk1 bk2, .complex .f32 s1 s2, .float .f32 0, .slice none 0 0, .int .i64 (0), .int .i64 (0), .slice none 0 0, .slice none 0 0, .int .i64 (0), .int .i64 (0)] 38)) w3.heap.size (.int .i64 2) (.complex .f32 t1 t2) (.complex .f32 r1 r2) (.float .f32 0) (.slice none 0 0) (.int .i64 0) (.int .i64 0) (.slice none 0 0) (.slice none 0 0) (.int .i64 0) (.int .i64 0)
            have AS1 := heap_row11 A9.out (.int .i64 2) (.complex .f32 t1 t2) (.complex .f32 r1 r2) (.float .f32 0) (.slice none 0 0) (.int .i64 0) (.int .i64 0) (.slice none 0 0) (.slice none 0 0) (.int .i64 0) (.int .i64 0)
            have BS1 := GS1.heap B9.out (fun e => nAB e.symm)
            have OS1 := O9.out.chgN GS1 (fun g0 h1 e => by have := HYB.out g0 h1; omega)
            have GG1 := G9.out.trans GS1 (fun _ _ h => .inl h)
            clear GS1
            generalize ((((((((((((w9.alloc (.cells #[.int .i64 (2), .complex .f32 bk1 bk2, .complex .f32 s1 s2, .float .f32 0, .slice none 0 0, .int .i64 (0), .int .i64 (0), .slice none 0 0, .slice none 0 0, .int .i64 (0), .int .i64 (0)] 38)).setCell ⟨w3.heap.size, 0, none⟩ (.int .i64 2)).setCell ⟨w3.heap.size, 1, none⟩ (.complex .f32 t1 t2)).setCell ⟨w3.heap.size, 2, none⟩ (.complex .f32 r1 r2)).setCell ⟨w3.heap.size, 3, none⟩ (.float .f32 0)).setCell ⟨w3.heap.size, 4, none⟩ (.slice none 0 0)).setCell ⟨w3.heap.size, 5, none⟩ (.int .i64 0)).setCell ⟨w3.heap.size, 6, none⟩ (.int .i64 0)).setCell ⟨w3.heap.size, 7, none⟩ (.slice none 0 0)).setCell ⟨w3.heap.size, 8, none⟩ (.slice none 0 0)).setCell ⟨w3.heap.size, 9, none⟩ (.int .i64 0)).setCell ⟨w3.heap.size, 10, none⟩ (.int .i64 0)) = w10 at *
            have GS2 := chg_row11 w10 w4.heap.size (.int .i64 2) (.complex .f32 bk1 bk2) (.complex .f32 s1 s2) (.float .f32 0) (.slice none 0 0) (.int .i64 0) (.int .i64 0) (.slice none 0 0) (.slice none 0 0) (.int .i64 0) (.int .i64 0)
            exact ⟨k + 1, r1, r2, s1, s2, by omega, by go_num, HNX, hid (GS2.heap AS1 nAB), hid (heap_row11 BS1 _ _ _ _ _ _ _ _ _ _ _), hid (OS1.chgN GS2 (fun g0 h1 e => by have := HYB.out g0 h1; omega)), hid (GG1.trans GS2 fun _ _ h => .inr h)⟩
          case measure => simp [intOf]; omega
      · obtain rfl : k = n := by omega
        have hlt' : ¬ (k : Int) < (k : Int) := by omega
        go_wp2_with fail
        refine (ResetModule_mixer _ t1 t2 a1 a2).mono ?_
        rintro e w8 ⟨rfl, g8⟩
        have N8 := heap_new w8 (.cells #[.int .i64 (2), .complex .f32 t1 t2, .complex .f32 1065353216 0, .float .f32 0, .slice none 0 0, .int .i64 (0), .int .i64 (0), .slice none 0 0, .slice none 0 0, .int .i64 (0), .int .i64 (0)] 38)
        have kN := cells_at N8
        clear N8
        go_wp2_with fail
        refine (TellModule_mixer _ t1 t2 1065353216 0).mono ?_
        rintro e w9 ⟨rfl, g9⟩
        have oz : FloatKind.f32.format.order 0 0 = some .eq := by decide +kernel
        have oo : FloatKind.f32.format.order 1065353216 1065353216 = some .eq := by decide +kernel
        go_wp2_with fail
        go_ret
        exact ⟨rfl, ((G4.out.trans G.out (fun k h1 h2 => by omega)).trans g8 fun _ _ h => h).alloc _ |>.trans g9 fun _ _ h => h⟩
  · have hb1 : (1048576 : Int) < (len : Int) := by omega
    clear h0
    go_enter Try.func15, Try.ntmps15
    go_wp2_with fail
    go_ret
    exact ⟨rfl, Chg.refl _ w⟩
end Go.Proofs.Ytopkehknaclhlaa
