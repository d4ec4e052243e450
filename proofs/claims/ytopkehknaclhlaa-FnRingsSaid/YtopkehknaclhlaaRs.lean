/- The law on rings, walked. No condition. -/
import Derived.Test.YtopkehknaclhlaaRq
namespace Go.Proofs.Ytopkehknaclhlaa
open Go Go.RowKit

/-- A slice outlives what turns other blocks than its own. -/
theorem OwnC.chgB {S : Nat → Prop} {w w' : World} {base : Nat} {v : Value} {xs : List (Nat × Nat)} (h : OwnC w base v xs) (G : Chg S w w') (hS : ∀ g, some g = v.ownBlock → ¬ S g) : OwnC w' base v xs := by
  obtain ⟨h1, h2⟩ := h
  refine ⟨h1, ?_⟩
  rcases h2 with h2 | ⟨b, cap, cur, rfl, hb, hh, r⟩
  · exact .inl h2
  · exact .inr ⟨b, cap, cur, rfl, hb, G.heap hh (hS b rfl), r⟩

/-- A ring comes back. -/
def RMr (w : World) (e : Ending) (w' : World) : Prop :=
  ∃ v n is, e = .returned v ∧ RgOk w' w.heap.size v n is ∧ Chg (fun _ => False) w w'

set_option maxRecDepth 100000 in
set_option maxHeartbeats 1000000 in
theorem MakeRing_calls (w : World) (a : Option Addr) (len cap : Nat) (hy : Bytes w w.heap.size a len cap) :
    Calls Try.prog 61 #[.slice a len cap] w (RMr w) := by
  have HY := hid hy
  clear hy
  go_enter Try.func61, Try.ntmps61
  have HY' := hid (HY.out.chg ((Chg.refl (fun _ => False) w).alloc (.cells #[.slice none 0 0, .int .i64 0, .int .i64 0] 27)) fun _ _ h => h)
  go_wp2_with fail
  refine (l01New_calls _ _ _ _ ?_).mono ?_
  · obtain ⟨h1, h2, h3⟩ := HY'.out
    exact ⟨h1, h2, fun k hk => by
      obtain ⟨b, off, z, h4, h5, h6⟩ := h3 k hk
      exact ⟨b, off, z, h4, by simp; omega, h6⟩⟩
  rintro e w1 ⟨c, lc, rfl, hc1, g1⟩
  have HC1 := hid hc1
  have F1 := hid (g1.heap (heap_new w _) id)
  have z1 := g1.size
  simp at z1 lc
  have G1 := hid (((Chg.refl (fun _ => False) w).alloc (.cells #[.slice none 0 0, .int .i64 0, .int .i64 0] 27)).trans g1 fun _ _ h => h)
  clear hc1 g1
  go_wp2_with fail
  refine (l4Ring_calls _ c HC1.out).mono ?_
  rintro e w2 ⟨v, n, is, rfl, R2, hc2, g2⟩
  obtain ⟨g, cp, p, rfl, A2⟩ := R2.at
  have l2 := A2.lt
  have A2' := hid A2
  have F2 := hid (g2.heap F1.out (fun e => by omega))
  have k2 := cells_at F2.out
  have f2 := frees_at F2.out
  have z2 := g2.size
  have G2 := hid (G1.out.trans g2 fun _ h e => by omega)
  clear R2 A2 hc2 g2
  go_wp2_with fail
  have GS := hid (chg_row3 w2 w.heap.size (.slice (some ⟨g, 0, none⟩) n cp) (.int .i64 (p : Int)) (.int .i64 ((is.length : Nat) : Int)))
  refine bodyPost_ret (v := .agg #[.slice (some ⟨g, 0, none⟩) n cp, .int .i64 ((p : Nat) : Int), .int .i64 ((is.length : Nat) : Int)]) (by simp [results, Try.results61, go_sem, k2]) rfl ?_
  exact ⟨_, n, is, rfl, ((A2'.out.chg GS.out (fun e => by omega)).mono (by omega)).ok, G2.out.trans GS.out (fun _ h e => by omega)⟩

set_option maxRecDepth 100000 in
set_option maxHeartbeats 4000000 in
theorem walkFnRings (w : World) (a : Option Addr) (len cap : Nat) (h0 : Bytes0 w w.heap.size a len cap) :
    Calls Try.prog 13 #[.slice a len cap] w (LawPost w) := by
  by_cases hbig : len ≤ 1048576
  · have HY := hid (show Bytes w w.heap.size a len cap from ⟨h0.1, hbig, h0.2.2⟩)
    clear h0
    have hb1 : ¬ (1048576 : Int) < (len : Int) := by omega
    go_enter Try.func13, Try.ntmps13
    go_wp2_with fail
    refine (MakeRing_calls _ _ _ _ HY.out).mono ?_
    rintro e w1 ⟨v, n, is0, rfl, R1, g1⟩
    obtain ⟨g, cp, p, rfl, A1⟩ := R1.at
    have z1 := g1.size
    have l1 := A1.lt
    have A1' := hid (A1.chg ((Chg.refl (fun _ => False) w1).alloc (.cells #[.slice (some ⟨g, 0, none⟩) n cp, .int .i64 ((p : Nat) : Int), .int .i64 ((is0.length : Nat) : Int)] 27)) id)
    have F1 := hid (heap_new w1 (.cells #[.slice (some ⟨g, 0, none⟩) n cp, .int .i64 ((p : Nat) : Int), .int .i64 ((is0.length : Nat) : Int)] 27))
    have G1 := hid (g1.alloc (.cells #[.slice (some ⟨g, 0, none⟩) n cp, .int .i64 ((p : Nat) : Int), .int .i64 ((is0.length : Nat) : Int)] 27))
    clear R1 A1 g1
    go_wp2_with fail
    refine (ItemsOf_calls _ _ n is0 (A1'.out.mono (Nat.zero_le _)).ok).mono ?_
    rintro e w2 ⟨ah, ch, rfl, OH, g2⟩
    have z2 := g2.size
    simp at z2
    have A2 := hid (A1'.out.chg g2 id)
    have F2 := hid (g2.heap F1.out id)
    have G2 := hid (G1.out.trans g2 fun _ _ h => h)
    have OH2 := hid OH
    have HY2 := hid (HY.out.chg G2.out fun _ _ h => h)
    clear A1' F1 G1 OH g2
    go_wp2_with fail
    refine (fresh_calls _ _ _ _ ?_ 3 (by omega)).mono ?_
    · obtain ⟨h1, h2, h3⟩ := HY2.out
      exact ⟨h1, h2, fun k hk => by
        obtain ⟨b, off, z, h4, h5, h6⟩ := h3 k hk
        exact ⟨b, off, z, h4, by omega, h6⟩⟩
    rintro e w3 ⟨af, lf, cf, lf1, rfl, BF, g3⟩
    have z3 := g3.size
    have A3 := hid (A2.out.chg g3 id)
    have F3 := hid (g3.heap F2.out id)
    have G3 := hid (G2.out.trans g3 fun _ _ h => h)
    have OH3 := hid (OH2.out.chg g3 fun _ _ _ h => h)
    have BF3 := hid BF
    clear A2 F2 G2 OH2 HY2 BF g3
    go_wp2_with fail
    refine (MakeSamples_calls _ _ _ _ BF3.out 30 (by omega) (by omega)).mono ?_
    rintro e w4 ⟨al, cl, xs, lx, rfl, OX, g4⟩
    have z4 := g4.size
    have A4 := hid (A3.out.chg g4 id)
    have F4 := hid (g4.heap F3.out id)
    have G4 := hid (G3.out.trans g4 fun _ _ h => h)
    have OH4 := hid (OH3.out.chg g4 fun _ _ _ h => h)
    have OX4 := hid OX
    clear A3 F3 G3 OH3 BF3 OX g4
    have lis := A4.out.len
    have HE : OwnC (w4.alloc (.cells #[] 33)) w4.heap.size (.slice (some ⟨w4.heap.size, 0, none⟩) 0 0) [] := OwnC.lit w4 [] _ rfl (by simp) (Nat.le_refl _) #[] rfl
    have HE' := hid HE
    clear HE
    have HA := hid (OH4.out.chg ((Chg.refl (fun _ => False) w4).alloc (.cells #[] 33)) (fun _ _ _ h => h))
    go_wp2_with (at_builtin; refine wpList_app _ rfl _ _ rfl w4.heap.size _ _ [] is0 rfl HE'.out rfl (HA.out.mono (Nat.zero_le _)) (by simp; omega) (by simp) ?_)
    intro a5 c5 w5 hO5 hG5
    have O5 := hid hO5
    have G45 := hid (((Chg.refl (fun n => n = w4.heap.size) w4).alloc (.cells #[] 33)).trans hG5 (fun n _ h => by simpa [Value.ownBlock] using h))
    have z5 := hG5.size
    simp at z5
    have HXB := hid (fun g (h : some g = (Value.slice al xs.length cl).ownBlock) => OX4.out.own_lt h)
    have X5 := hid (OX4.out.chgB G45.out (fun n h1 e => by have := HXB.out n h1; omega))
    have A5 := hid (A4.out.chg G45.out (fun e => by omega))
    have F5 := hid (G45.out.heap F4.out (fun e => by omega))
    have lg4 := A4.out.lt
    clear hO5 hG5 HE' HA
    go_wp2_with (at_builtin; refine wpList_app _ rfl _ _ rfl w4.heap.size _ _ is0 xs rfl O5.out rfl (X5.out.mono (Nat.zero_le _)) (by omega) (by omega) ?_)
    intro a6 c6 w6 hO6 hG6
    have O6 := hid hO6
    have z6 := hG6.size
    have G46 := hid ((G45.out.mono (S := fun n => w4.heap.size ≤ n) fun n _ e => by omega).trans hG6 (fun n _ h => (O5.out.own_lt h).1))
    have X6 := hid (X5.out.chgB hG6 (fun n h1 e => by have := HXB.out n h1; have := (O5.out.own_lt e).1; omega))
    have A6 := hid (A5.out.chg hG6 (fun e => by have := (O5.out.own_lt e).1; have := l1; omega))
    have F6 := hid (hG6.heap F5.out (fun e => by have := (O5.out.own_lt e).1; omega))
    have G6 := hid (G4.out.trans G46.out (fun n h1 h2 => by omega))
    clear hO6 hG6 O5 G45 X5 A5 F5 G4 G46 A4 F4 OX4 OH4
    have GI := hid (OwnC.lit w6 [] 33 rfl (by simp) (Nat.le_refl w6.heap.size) #[] rfl)
    have hAll : (is0 ++ xs).length = is0.length + xs.length := by simp
    generalize hN : is0.length + xs.length = N at *
    have HN := hid hN
    have HAll := hid hAll
    clear hN hAll
    go_wp2_with fail
    go_loopw [7, 39] (fun s i wr => ∃ (ag : Option Addr) (cg k g cp p : Nat) (is gs : List (Nat × Nat)), k ≤ xs.length ∧ i = .int .i64 (k : Int) ∧ s = .slice ag gs.length cg ∧ Hid (gs ++ is = is0 ++ xs.take k) ∧ Hid (OwnC wr w6.heap.size (.slice ag gs.length cg) gs) ∧ Hid (wr.heap[w1.heap.size]? = some (.cells #[.slice (some ⟨g, 0, none⟩) n cp, .int .i64 ((p : Nat) : Int), .int .i64 ((is.length : Nat) : Int)] 27 (0, 0))) ∧ g ≠ w1.heap.size ∧ Hid (RgAt wr w.heap.size g n cp p is) ∧ Hid (Chg (fun k => k = w1.heap.size) w6 wr)) (fun _ i _ => xs.length - (intOf i).toNat)
    case atStart => exact ⟨_, _, 0, g, cp, p, is0, [], by omega, rfl, rfl, hid (by simp), GI, hid (heap_old F6.out), by omega, hid (A6.out.chg ((Chg.refl (fun _ => False) w6).alloc _) id), hid ((Chg.refl (fun k => k = w1.heap.size) w6).alloc _)⟩
    case round =>
      obtain ⟨ag, cg, k, g, cp, p, is, gs, hk, rfl, rfl, HLAW, HO, HR, ngR, HA, G⟩ := hrel
      have zr := G.out.size
      have yR := heap_lt HR.out
      have kR := cells_at HR.out
      have fR := frees_at HR.out
      by_cases hlt : k < xs.length
      · have hlt' : (k : Int) < (xs.length : Int) := by omega
        have i0 : (0 : Int) ≤ ((k : Nat) : Int) := by omega
        have XR := X6.out.chgB G.out (fun m h1 e => by have := HXB.out m h1; omega)
        obtain ⟨gx, cx', hv, _, _, hcx, hcell⟩ := XR.at rfl (by omega)
        simp at hv
        obtain ⟨rfl, rfl⟩ := hv
        obtain ⟨x, z, hxk, jx⟩ := hcell k hlt
        have HXK := hid hxk
        clear hcell XR hxk
        by_cases hfull : is.length = n
        · skip
          obtain ⟨y, is', hcons⟩ : ∃ y is', is = y :: is' := by
            cases is with
            | nil => simp at hfull; have := HA.out.len; omega
            | cons y is' => exact ⟨y, is', rfl⟩
          have hf2 : is'.length + 1 = n := by rw [hcons] at hfull; simpa using hfull
          have HIS := hid hcons
          clear hcons
          have hA := HA.out
          have hlaw := HLAW.out
          generalize hq : is.length = q at *
          have HQ := hid hq
          clear hq
          have hqn : n = q := by omega
          subst hqn
          have hA' := hid (show RgOk wr 0 (.agg #[.slice (some ⟨g, 0, none⟩) n cp, .int .i64 ((p : Nat) : Int), .int .i64 ((n : Nat) : Int)]) n is by have h := (hA.mono (Nat.zero_le _)).ok; rw [HQ.out] at h; exact h)
          clear hA
          skip
          go_wp2_with fail
          go_region_held3 (fun w' => w'.cell? ⟨w1.heap.size, 0, none⟩ = some (.slice (some ⟨g, 0, none⟩) n cp) ∧ w'.cell? ⟨w1.heap.size, 1, none⟩ = some (.int .i64 (p : Int)) ∧ w'.cell? ⟨w1.heap.size, 2, none⟩ = some (.int .i64 (n : Int))) (first | assumption | (exact ⟨cell_at F7.out, cell_at F7.out, cell_at F7.out⟩) | go_keep)
            ((go_at_call 62; refine (ItemsOf_calls _ _ n is (hA'.out.chg (Chg.refl (fun _ => False) wr).drew fun _ _ _ h => h)).mono ?_; rintro e w7 ⟨ai, ci, rfl, oi, g7⟩; rw [HQ.out]; have F7 := hid (g7.heap (show wr.drew.heap[w1.heap.size]? = _ from HR.out) id); have G7 := hid ((Chg.refl (fun _ => False) wr).drew.trans g7 fun _ _ h => h)))
          rename_i hHeld
          clear hHeld kR fR oi g7
          have kR := cells_at F7.out
          have R7 := hid (hA'.out.chg G7.out fun _ _ _ h => h)
          have O7 := hid (HO.out.chg G7.out fun _ _ _ h => h)
          have z7 := G7.out.size
          have hgb := hid (fun m (h : some m = (Value.slice ag gs.length cg).ownBlock) => O7.out.own_lt h)
          go_wp2_with fail
          refine (PushRing_full _ _ n (x, z) y is' (HIS.out ▸ R7.out) hf2).mono ?_
          rintro e w8 ⟨v8, rfl, R8, g8⟩
          obtain ⟨g', c8, p8, rfl, A8⟩ := R8.at
          have z8 := g8.size
          have l8 := A8.lt
          have F8 := hid (g8.heap F7.out id)
          have O8 := hid (O7.out.chg g8 fun _ _ _ h => h)
          have A8' := hid A8
          have G8 := hid (G7.out.trans g8 fun _ _ h => h)
          have hl8 : (is' ++ [(x, z)]).length ≤ n := A8.len.1
          generalize hq8 : (is' ++ [(x, z)]).length = q8 at *
          have HQ8 := hid hq8
          clear hq8 R8 A8 g8 kR R7 O7 F7 G7
          have kR := cells_at F8.out
          have fR := frees_at F8.out
          have F8' := fun o => heap_old (o' := o) F8.out
          have kR' := fun o => cells_at (F8' o)
          have fR' := fun o => frees_at (F8' o)
          clear F8'
          have nR : w8.heap.size ≠ w1.heap.size := by omega
          have nR' : w1.heap.size ≠ w8.heap.size := by omega
          have F9 := hid (heap_old (o' := .cells #[.slice (some ⟨g', 0, none⟩) n c8, .int .i64 (p8 : Int), .int .i64 (q8 : Int)] 27) F8.out)
          have T9 := hid (heap_new w8 (.cells #[.slice (some ⟨g', 0, none⟩) n c8, .int .i64 (p8 : Int), .int .i64 (q8 : Int)] 27))
          have G9 := hid (G8.out.alloc (.cells #[.slice (some ⟨g', 0, none⟩) n c8, .int .i64 (p8 : Int), .int .i64 (q8 : Int)] 27))
          have A9 := hid (A8'.out.chg ((Chg.refl (fun _ => False) w8).alloc (.cells #[.slice (some ⟨g', 0, none⟩) n c8, .int .i64 (p8 : Int), .int .i64 (q8 : Int)] 27)) id)
          have O9 := hid (O8.out.chg ((Chg.refl (fun _ => False) w8).alloc (.cells #[.slice (some ⟨g', 0, none⟩) n c8, .int .i64 (p8 : Int), .int .i64 (q8 : Int)] 27)) fun _ _ _ h => h)
          have U9' : OwnC ((w8.alloc (.cells #[.slice (some ⟨g', 0, none⟩) n c8, .int .i64 (p8 : Int), .int .i64 (q8 : Int)] 27)).alloc (.cells #[.complex .f32 y.1 y.2] 33)) 0 (.slice (some ⟨w8.heap.size + 1, 0, none⟩) 1 1) [y] := by
            have h := OwnC.lit (w8.alloc (.cells #[.slice (some ⟨g', 0, none⟩) n c8, .int .i64 (p8 : Int), .int .i64 (q8 : Int)] 27)) [y] 33 rfl (by simp) (Nat.zero_le _) #[.complex .f32 y.1 y.2] rfl
            simpa using h
          have U9 := hid U9'
          clear U9'
          have W9 := hid ((Chg.refl (fun _ => False) (w8.alloc (.cells #[.slice (some ⟨g', 0, none⟩) n c8, .int .i64 (p8 : Int), .int .i64 (q8 : Int)] 27))).alloc (.cells #[.complex .f32 y.1 y.2] 33))
          have lgs : gs.length ≤ 1000 := by
            have h := congrArg List.length hlaw
            simp [List.length_take] at h
            omega
          go_wp2_with (at_builtin; go_loud (refine wpList_app _ rfl _ _ rfl w6.heap.size _ _ gs [y] rfl (O9.out.chg W9.out fun _ _ _ h => h) rfl U9.out (by simp; omega) (by simp; omega) ?_))
          intro a10 c10 w10 hO10 hG10
          have O10 := hid hO10
          have z10 := hG10.size
          simp at z10
          have F10 := hid (hG10.heap (W9.out.heap F9.out id) (fun e => by have := hgb.out _ e; omega))
          have T10 := hid (hG10.heap (W9.out.heap T9.out id) (fun e => by have := hgb.out _ e; omega))
          have A10 := hid ((A9.out.chg W9.out id).chg hG10 (fun e => by have := hgb.out _ e; omega))
          have G10 := hid (((G9.out.trans W9.out fun _ _ h => h).mono (S := fun n => w6.heap.size ≤ n) fun _ _ h => h.elim).trans hG10 (fun n _ h => (hgb.out n h).1))
          have hl10 : (gs ++ [y]).length = gs.length + 1 := by simp
          clear hO10 hG10 kR fR kR' fR' F9 T9 W9 U9 A9 G9 O9
          have kR := cells_at F10.out
          have fR := frees_at F10.out
          have kT := cells_at T10.out
          go_wp2_with fail
          go_roundw
          case rel =>
            have GS := chg_row3 w10 w1.heap.size (.slice (some ⟨g', 0, none⟩) n c8) (.int .i64 (p8 : Int)) (.int .i64 (q8 : Int))
            have S10 := heap_row3 F10.out (.slice (some ⟨g', 0, none⟩) n c8) (.int .i64 (p8 : Int)) (.int .i64 (q8 : Int))
            refine ⟨a10, c10, k + 1, g', c8, p8, is' ++ [(x, z)], gs ++ [y], by omega, by go_num, by rw [hl10], hid ?_, hid ?_, hid ?_, by omega, hid ((A10.out.chg GS (fun e => by omega)).mono (by omega)), hid ((G.out.trans G10.out (fun n h1 h2 => absurd h2 (by omega))).trans GS fun _ _ h => h)⟩
            · have h := hlaw
              rw [HIS.out] at h
              rw [List.take_add_one, HXK.out, ← List.append_assoc, ← List.append_assoc, ← h]
              simp
            · have h := O10.out.chg GS (fun n h1 _ e => by omega)
              rw [hl10]
              exact h
            · rw [HQ8.out]
              exact S10
          case measure => simp [intOf]; omega
        · have hroom : is.length < n := by have := HA.out.len.1; omega
          have hA := HA.out
          have hlaw := HLAW.out
          generalize hq : is.length = q at *
          have HQ := hid hq
          clear hq
          skip
          skip
          have hA' := hid (show RgOk wr 0 (.agg #[.slice (some ⟨g, 0, none⟩) n cp, .int .i64 ((p : Nat) : Int), .int .i64 ((q : Nat) : Int)]) n is by have h := (hA.mono (Nat.zero_le _)).ok; rw [HQ.out] at h; exact h)
          clear hA
          have hqn : ¬ ((q : Nat) : Int) = (n : Int) := by omega
          go_wp2_with fail
          go_region_held3 (fun w' => w'.cell? ⟨w1.heap.size, 0, none⟩ = some (.slice (some ⟨g, 0, none⟩) n cp) ∧ w'.cell? ⟨w1.heap.size, 1, none⟩ = some (.int .i64 (p : Int)) ∧ w'.cell? ⟨w1.heap.size, 2, none⟩ = some (.int .i64 (q : Int))) (first | assumption | (exact ⟨cell_at F7.out, cell_at F7.out, cell_at F7.out⟩) | go_keep)
            ((go_at_call 62; refine (ItemsOf_calls _ _ n is (hA'.out.chg (Chg.refl (fun _ => False) wr).drew fun _ _ _ h => h)).mono ?_; rintro e w7 ⟨ai, ci, rfl, oi, g7⟩; rw [HQ.out]; have F7 := hid (g7.heap (show wr.drew.heap[w1.heap.size]? = _ from HR.out) id); have G7 := hid ((Chg.refl (fun _ => False) wr).drew.trans g7 fun _ _ h => h)))
          rename_i hHeld
          clear hHeld kR fR oi g7
          have kR := cells_at F7.out
          have R7 := hid (hA'.out.chg G7.out fun _ _ _ h => h)
          have O7 := hid (HO.out.chg G7.out fun _ _ _ h => h)
          have z7 := G7.out.size
          have hgb := hid (fun m (h : some m = (Value.slice ag gs.length cg).ownBlock) => O7.out.own_lt h)
          go_wp2_with fail
          refine (PushRing_room _ _ n (x, z) is R7.out (by rw [HQ.out]; exact hroom)).mono ?_
          rintro e w8 ⟨v8, rfl, R8, g8⟩
          obtain ⟨g', c8, p8, rfl, A8⟩ := R8.at
          have z8 := g8.size
          have l8 := A8.lt
          have F8 := hid (g8.heap F7.out id)
          have O8 := hid (O7.out.chg g8 fun _ _ _ h => h)
          have A8' := hid A8
          have G8 := hid (G7.out.trans g8 fun _ _ h => h)
          have hl8 : (is ++ [(x, z)]).length ≤ n := A8.len.1
          generalize hq8 : (is ++ [(x, z)]).length = q8 at *
          have HQ8 := hid hq8
          clear hq8 R8 A8 g8 kR R7 O7 F7 G7
          have kR := cells_at F8.out
          have fR := frees_at F8.out
          have F8' := fun o => heap_old (o' := o) F8.out
          have kR' := fun o => cells_at (F8' o)
          have fR' := fun o => frees_at (F8' o)
          clear F8'
          have nR : w8.heap.size ≠ w1.heap.size := by omega
          have nR' : w1.heap.size ≠ w8.heap.size := by omega
          have F9 := hid (heap_old (o' := .cells #[.slice (some ⟨g', 0, none⟩) n c8, .int .i64 (p8 : Int), .int .i64 (q8 : Int)] 27) F8.out)
          have T9 := hid (heap_new w8 (.cells #[.slice (some ⟨g', 0, none⟩) n c8, .int .i64 (p8 : Int), .int .i64 (q8 : Int)] 27))
          have G9 := hid (G8.out.alloc (.cells #[.slice (some ⟨g', 0, none⟩) n c8, .int .i64 (p8 : Int), .int .i64 (q8 : Int)] 27))
          have A9 := hid (A8'.out.chg ((Chg.refl (fun _ => False) w8).alloc (.cells #[.slice (some ⟨g', 0, none⟩) n c8, .int .i64 (p8 : Int), .int .i64 (q8 : Int)] 27)) id)
          have O9 := hid (O8.out.chg ((Chg.refl (fun _ => False) w8).alloc (.cells #[.slice (some ⟨g', 0, none⟩) n c8, .int .i64 (p8 : Int), .int .i64 (q8 : Int)] 27)) fun _ _ _ h => h)
          go_wp2_with fail
          go_roundw
          case rel =>
            have GS := chg_row3 (w8.alloc (.cells #[.slice (some ⟨g', 0, none⟩) n c8, .int .i64 (p8 : Int), .int .i64 (q8 : Int)] 27)) w1.heap.size (.slice (some ⟨g', 0, none⟩) n c8) (.int .i64 (p8 : Int)) (.int .i64 (q8 : Int))
            have S10 := heap_row3 F9.out (.slice (some ⟨g', 0, none⟩) n c8) (.int .i64 (p8 : Int)) (.int .i64 (q8 : Int))
            refine ⟨ag, cg, k + 1, g', c8, p8, is ++ [(x, z)], gs, by omega, by go_num, rfl, hid ?_, hid (O9.out.chg GS (fun n h1 _ e => by omega)), hid ?_, by omega, hid ((A9.out.chg GS (fun e => by omega)).mono (by omega)), hid ((G.out.trans G9.out fun _ _ h => h.elim).trans GS fun _ _ h => h)⟩
            · rw [List.take_add_one, HXK.out, ← List.append_assoc, hlaw]
              simp
            · rw [HQ8.out]
              exact S10
          case measure => simp [intOf]; omega
      · obtain rfl : k = xs.length := by omega
        have hlt' : ¬ (xs.length : Int) < (xs.length : Int) := by omega
        have HL2 := hid (show gs ++ is = is0 ++ xs by have h := HLAW.out; rwa [List.take_length] at h)
        clear HLAW
        have HA' := hid (HA.out.mono (Nat.zero_le _)).ok
        go_wp2_with fail
        refine (ItemsOf_calls _ _ n is HA'.out).mono ?_
        rintro e w7 ⟨ai, ci, rfl, oi, g7⟩
        have HO7 := hid (HO.out.chg g7 fun _ _ _ h => h)
        have HR7 := hid (g7.heap HR.out id)
        have HA7 := hid (HA.out.chg g7 id)
        have G7 := hid (G.out.trans g7 fun _ _ h => h.elim)
        clear oi g7 HO HR HA HA' G kR fR
        go_wp2_with fail
        go_loopw [7, 14] (fun s i wr => ∃ (ag : Option Addr) (cg g cp p : Nat) (is gs : List (Nat × Nat)), i = .int .i64 ((is.length : Nat) : Int) ∧ s = .slice ag gs.length cg ∧ Hid (gs ++ is = is0 ++ xs) ∧ Hid (OwnC wr w6.heap.size (.slice ag gs.length cg) gs) ∧ Hid (wr.heap[w1.heap.size]? = some (.cells #[.slice (some ⟨g, 0, none⟩) n cp, .int .i64 ((p : Nat) : Int), .int .i64 ((is.length : Nat) : Int)] 27 (0, 0))) ∧ g ≠ w1.heap.size ∧ Hid (RgAt wr w.heap.size g n cp p is) ∧ Hid (Chg (fun k => k = w1.heap.size) w6 wr)) (fun _ i _ => (intOf i).toNat)
        case atStart => exact ⟨ag, cg, g, cp, p, is, gs, rfl, rfl, HL2, HO7, HR7, ngR, HA7, G7⟩
        case round =>
          clear HL2 HO7 HR7 ngR HA7 G7 yR
          obtain ⟨ag, cg, g, cp, p, is, gs, rfl, rfl, HLAW, HO, HR, ngR, HA, G⟩ := hrel
          have zr := G.out.size
          have yR := heap_lt HR.out
          have lA := HA.out.len
          cases is with
          | nil =>
            have kR := cells_at HR.out
            have HA' := hid (HA.out.mono (Nat.zero_le _)).ok
            go_wp2_with fail
            refine (TakeRing_no _ _ n HA'.out).mono ?_
            rintro e w8 ⟨rfl, g8⟩
            have HO8 := hid (HO.out.chg g8 fun _ _ _ h => h)
            have G8 := hid (G.out.trans g8 fun _ _ h => h.elim)
            have z8 := g8.size
            have HGS := hid (show gs = is0 ++ xs by have h := HLAW.out; rwa [List.append_nil] at h)
            have hgl : gs.length ≤ 1000 := by rw [HGS.out]; simp; omega
            have OA := hid (O6.out.chg G8.out (fun m h1 _ e => by omega))
            go_wp2_with fail
            refine (MakeSame_refl _ _ _ gs (by omega) ((HO8.out.chg ((Chg.refl (fun _ => False) w8).alloc _) fun _ _ _ h => h).mono (Nat.zero_le _)) (HGS.out ▸ (OA.out.chg ((Chg.refl (fun _ => False) w8).alloc _) fun _ _ _ h => h).mono (Nat.zero_le _))).mono ?_
            rintro e w9 ⟨rfl, m9, rfl⟩
            go_wp2_with fail
            go_ret
            exact ⟨rfl, G6.out.trans ((G8.out.alloc _).drewN m9) (fun k h1 h2 => by omega)⟩
          | cons y is' =>
            have HA' := hid (HA.out.mono (Nat.zero_le _)).ok
            have hlaw := HLAW.out
            have hpos : (0 : Int) < (((y :: is').length : Nat) : Int) := by have : 0 < (y :: is').length := Nat.succ_pos _; omega
            generalize hq : (y :: is').length = q at *
            have HQ := hid hq
            clear hq HA HLAW
            have kR := cells_at HR.out
            go_wp2_with fail
            refine (TakeRing_yes _ _ n y is' HA'.out).mono ?_
            rintro e w8 ⟨v8, rfl, R8, g8⟩
            obtain ⟨g', c8, p8, rfl, A8⟩ := R8.at
            have z8 := g8.size
            have l8 := A8.lt
            have hgb := hid (fun m (h : some m = (Value.slice ag gs.length cg).ownBlock) => HO.out.own_lt h)
            have F8 := hid (g8.heap HR.out id)
            have O8 := hid (HO.out.chg g8 fun _ _ _ h => h)
            have A8' := hid A8
            have hq8 : q = is'.length + 1 := by have := HQ.out; simp at this; omega
            generalize hl : is'.length = q8 at *
            have HQ8 := hid hl
            clear hl R8 A8 kR HR HO HA'
            have lgs : gs.length ≤ 1000 := by
              have h := congrArg List.length hlaw
              simp at h
              omega
            have F9 := hid (heap_old (o' := .cells #[.slice (some ⟨g', 0, none⟩) n c8, .int .i64 (p8 : Int), .int .i64 (q8 : Int)] 27) F8.out)
            have T9 := hid (heap_new w8 (.cells #[.slice (some ⟨g', 0, none⟩) n c8, .int .i64 (p8 : Int), .int .i64 (q8 : Int)] 27))
            have G9 := hid (g8.alloc (.cells #[.slice (some ⟨g', 0, none⟩) n c8, .int .i64 (p8 : Int), .int .i64 (q8 : Int)] 27))
            have A9 := hid (A8'.out.chg ((Chg.refl (fun _ => False) w8).alloc (.cells #[.slice (some ⟨g', 0, none⟩) n c8, .int .i64 (p8 : Int), .int .i64 (q8 : Int)] 27)) id)
            have O9 := hid (O8.out.chg ((Chg.refl (fun _ => False) w8).alloc (.cells #[.slice (some ⟨g', 0, none⟩) n c8, .int .i64 (p8 : Int), .int .i64 (q8 : Int)] 27)) fun _ _ _ h => h)
            have U9' : OwnC ((w8.alloc (.cells #[.slice (some ⟨g', 0, none⟩) n c8, .int .i64 (p8 : Int), .int .i64 (q8 : Int)] 27)).alloc (.cells #[.complex .f32 y.1 y.2] 33)) 0 (.slice (some ⟨w8.heap.size + 1, 0, none⟩) 1 1) [y] := by
              have h := OwnC.lit (w8.alloc (.cells #[.slice (some ⟨g', 0, none⟩) n c8, .int .i64 (p8 : Int), .int .i64 (q8 : Int)] 27)) [y] 33 rfl (by simp) (Nat.zero_le _) #[.complex .f32 y.1 y.2] rfl
              simpa using h
            have U9 := hid U9'
            clear U9' g8
            have W9 := hid ((Chg.refl (fun _ => False) (w8.alloc (.cells #[.slice (some ⟨g', 0, none⟩) n c8, .int .i64 (p8 : Int), .int .i64 (q8 : Int)] 27))).alloc (.cells #[.complex .f32 y.1 y.2] 33))
            go_wp2_with (at_builtin; refine wpList_app _ rfl _ _ rfl w6.heap.size _ _ gs [y] rfl (O9.out.chg W9.out fun _ _ _ h => h) rfl U9.out (by simp; omega) (by simp; omega) ?_)
            intro a10 c10 w10 hO10 hG10
            have O10 := hid hO10
            have z10 := hG10.size
            simp at z10
            have F10 := hid (hG10.heap (W9.out.heap F9.out id) (fun e => by have := hgb.out _ e; omega))
            have T10 := hid (hG10.heap (W9.out.heap T9.out id) (fun e => by have := hgb.out _ e; omega))
            have A10 := hid ((A9.out.chg W9.out id).chg hG10 (fun e => by have := hgb.out _ e; omega))
            have G10 := hid (((G9.out.trans W9.out fun _ _ h => h).mono (S := fun n => w6.heap.size ≤ n) fun _ _ h => h.elim).trans hG10 (fun n _ h => (hgb.out n h).1))
            have hl10 : (gs ++ [y]).length = gs.length + 1 := by simp
            clear hO10 hG10 F9 T9 W9 U9 A9 G9 O9
            have kR := cells_at F10.out
            have fR := frees_at F10.out
            have kT := cells_at T10.out
            go_wp2_with fail
            go_roundw
            case rel =>
              have GS := chg_row3 w10 w1.heap.size (.slice (some ⟨g', 0, none⟩) n c8) (.int .i64 (p8 : Int)) (.int .i64 (q8 : Int))
              have S10 := heap_row3 F10.out (.slice (some ⟨g', 0, none⟩) n c8) (.int .i64 (p8 : Int)) (.int .i64 (q8 : Int))
              refine ⟨a10, c10, g', c8, p8, is', gs ++ [y], ?_, by rw [hl10], hid ?_, hid ?_, hid ?_, by omega, hid ((A10.out.chg GS (fun e => by omega)).mono (by omega)), hid ((G.out.trans G10.out (fun n h1 h2 => absurd h2 (by omega))).trans GS fun _ _ h => h)⟩
              · rw [HQ8.out]
              · rw [List.append_assoc]; exact hlaw
              · have h := O10.out.chg GS (fun n h1 _ e => by omega)
                rw [hl10]
                exact h
              · rw [HQ8.out]
                exact S10
            case measure => simp [intOf]; omega
  · have hb1 : (1048576 : Int) < (len : Int) := by omega
    clear h0
    go_enter Try.func13, Try.ntmps13
    go_wp2_with fail
    go_ret
    exact ⟨rfl, Chg.refl _ w⟩
end Go.Proofs.Ytopkehknaclhlaa
