/- The program's rings: what pushes. Conditions: the ring is valid. -/
import Derived.Test.YtopkehknaclhlaaRx
namespace Go.Proofs.Ytopkehknaclhlaa
open Go Go.RowKit

set_option maxRecDepth 100000 in
set_option maxHeartbeats 4000000 in
theorem PushRing_full (w : World) (v : Value) (n : Nat) (z y : Nat × Nat) (is : List (Nat × Nat)) (hr : RgOk w 0 v n (y :: is)) (hfull : is.length + 1 = n) :
    Calls Try.prog 63 #[v, .complex .f32 z.1 z.2] w (RTkT w n y (is ++ [z])) := by
  obtain ⟨g, c, p, xs, rfl, hn, ho, hk, hi⟩ := hr
  have HO := hid ho
  have HK := hid hk
  have HI := hid hi
  have hp : p < n := by have := hk.2.2.1; omega
  have n16 : n ≤ 16 := by have := hk.2.1; omega
  clear ho hk hi
  have hq : (y :: is).length = n := by simpa using hfull
  rw [hq] at HK HI
  have HN := hid hn
  have HQ := hid hq
  have HF := hid hfull
  rw [hq]
  clear hn hq hfull
  have hn' := HN.out
  go_enter Try.func63, Try.ntmps63
  go_wp2_with fail
  refine (IsRing_yes _ _ xs p n ((HO.out.chg (((Chg.refl (fun _ => False) w).alloc _).alloc _) fun _ _ _ h => h)) HK.out).mono ?_
  rintro e w1 ⟨rfl, g1⟩
  have F1 := hid (g1.heap (heap_old (heap_new w _)) id)
  have E1 := hid (g1.heap (heap_new' (w := w.alloc _) (b := w.heap.size + 1) (by simp)) id)
  have O1 := hid (HO.out.chg ((((Chg.refl (fun _ => False) w).alloc _).alloc _).trans g1 fun _ _ h => h) fun _ _ _ h => h)
  have k1 := cells_at F1.out
  have z1 := g1.size
  simp at z1
  have G1 := hid ((((Chg.refl (fun _ => False) w).alloc _).alloc _).trans g1 fun _ _ h => h)
  clear g1
  have n1 : w1.heap.size ≠ w.heap.size := by omega
  have n1' : w.heap.size ≠ w1.heap.size := by omega
  go_wp2_with fail
  go_region_held3 (fun w' => w'.cell? ⟨w.heap.size, 0, none⟩ = some (.slice (some ⟨g, 0, none⟩) n c) ∧ w'.cell? ⟨w.heap.size, 1, none⟩ = some (.int .i64 (p : Int)) ∧ w'.cell? ⟨w.heap.size, 2, none⟩ = some (.int .i64 (n : Int))) (first | assumption | (exact ⟨cell_at H2.out, cell_at H2.out, cell_at H2.out⟩) | (exact ⟨cell_at (heap_old H2.out), cell_at (heap_old H2.out), cell_at (heap_old H2.out)⟩) | (exact ⟨cell_at (heap_old (w := w1) F1.out), cell_at (heap_old (w := w1) F1.out), cell_at (heap_old (w := w1) F1.out)⟩) | (exact ⟨cell_at ((chg_row3 _ w1.heap.size _ _ _).heap H2.out n1'), cell_at ((chg_row3 _ w1.heap.size _ _ _).heap H2.out n1'), cell_at ((chg_row3 _ w1.heap.size _ _ _).heap H2.out n1')⟩) | go_keep)
    (first
      | (go_at_call 120; refine (copyRing_calls w1.drew _ _ _ xs (by omega) (O1.out.chg (Chg.refl (fun _ => False) w1).drew fun _ _ _ h => h)).mono ?_; rintro e w2 ⟨a2, c2, rfl, o2, m2, g2⟩; have H2 := hid ((((Chg.refl (fun _ => False) w1).drew).trans g2 fun _ _ h => h).heap F1.out id); have h2 := World.new_ne w2 _ (cell_at (k := 0) H2.out))
      | (go_at_call 120; refine (copyRing_calls (w1.alloc (.cells #[.slice none 0 0, .int .i64 0, .int .i64 0] 27)).drew _ _ _ xs (by omega) (O1.out.chg ((Chg.refl (fun _ => False) w1).alloc (.cells #[.slice none 0 0, .int .i64 0, .int .i64 0] 27)).drew fun _ _ _ h => h)).mono ?_; rintro e w2 ⟨a2, c2, rfl, o2, m2, g2⟩; have H2 := hid ((((Chg.refl (fun _ => False) w1).alloc (.cells #[.slice none 0 0, .int .i64 0, .int .i64 0] 27)).drew.trans g2 fun _ _ h => h).heap F1.out id); have L2 := hid (g2.heap (show (w1.alloc (.cells #[.slice none 0 0, .int .i64 0, .int .i64 0] 27)).drew.heap[w1.heap.size]? = _ from heap_new w1 _) id); have l2 := cells_at L2.out; have l3 := frees_at L2.out; have h2 := World.new_ne w2 _ (cell_at (k := 0) H2.out)))
  · have P2 := hid (((Chg.refl (fun _ => False) w1).drew).trans g2 fun _ _ h => h)
    have F2 := hid (P2.out.heap E1.out id)
    have z2 := P2.out.size
    have z2' := g2.size
    simp at z2'
    obtain ⟨b2, c2', cur, hv, lb, lb2, hc2, hb2, hcell⟩ := o2.at2 HN.out (by omega)
    simp at hv
    obtain ⟨rfl, _, rfl⟩ := hv
    simp at lb
    have O2 := hid (HN.out ▸ o2 : OwnC w2 _ (.slice (some ⟨b2, 0, none⟩) n c2) xs)
    clear o2 k1
    have F4 := hid (heap_new w2 (.cells #[.slice (some ⟨b2, 0, none⟩) n c2, .int .i64 ((p : Nat) : Int), .int .i64 ((n : Nat) : Int)] 27))
    have G4 := hid (((Chg.refl (fun _ => False) w2).alloc (.cells #[.slice (some ⟨b2, 0, none⟩) n c2, .int .i64 ((p : Nat) : Int), .int .i64 ((n : Nat) : Int)] 27)).mono (S := fun k => k = w2.heap.size) fun _ _ h => h.elim)
    have lL : w2.heap.size + 1 ≤ (w2.alloc (.cells #[.slice (some ⟨b2, 0, none⟩) n c2, .int .i64 ((p : Nat) : Int), .int .i64 ((n : Nat) : Int)] 27)).heap.size := by simp
    generalize hW : w2.alloc (.cells #[.slice (some ⟨b2, 0, none⟩) n c2, .int .i64 ((p : Nat) : Int), .int .i64 ((n : Nat) : Int)] 27) = w4 at *
    clear hW
    have z4 := G4.out.size
    have E4 := hid (G4.out.heap F2.out (fun e => by omega))
    have O4 := hid (O2.out.chg1 G4.out (fun e => by omega))
    have R4 : RgOk w4 0 (.agg #[.slice (some ⟨b2, 0, none⟩) n c2, .int .i64 ((p : Nat) : Int), .int .i64 ((n : Nat) : Int)]) n (y :: is) :=
      ⟨b2, c2, p, xs, by rw [HQ.out], HN.out, O4.out.mono (Nat.zero_le _), by rw [HQ.out]; exact HK.out, by rw [HQ.out]; exact HI.out⟩
    have R4' := hid R4
    clear R4 hcell hb2 hn'
    have m4 := cells_at F4.out
    go_wp2_with fail
    refine (TakeRing_yes _ _ n y is R4'.out).mono ?_
    rintro e w5 ⟨v3, rfl, ⟨g3, c3, p3, ys, rfl, hn3, o3, k3, i3⟩, h3⟩
    have z5 := h3.size
    have F5 := hid (h3.heap F4.out id)
    have E5 := hid (h3.heap E4.out id)
    generalize hq3 : is.length = q at *
    have hqn : q < n := by have := HF.out; omega
    have hp3 : p3 < n := by have := k3.2.2.1; omega
    have HN3 := hid hn3
    have HK3 := hid k3
    have HI3 := hid i3
    have HQ3 := hid hq3
    obtain ⟨b3, c3', cur3, hv, lb', lb3, hc3, hb3, hcell3⟩ := o3.at2 hn3 (by omega)
    simp at hv
    obtain ⟨rfl, rfl⟩ := hv
    have O3 := hid o3
    obtain ⟨e1, e2, e3⟩ := rem_cast p3 q n (by omega) (by omega)
    have hlt : (p3 + q) % n < n := Nat.mod_lt _ (by omega)
    generalize hidx : (p3 + q) % n = idx at *
    have HX := hid hidx
    have i0 : (0 : Int) ≤ ((idx : Nat) : Int) := by omega
    have i1 : ((idx : Nat) : Int) < (n : Int) := by omega
    clear hidx o3 hn3 k3 i3 hq3 m4
    have m5 := cells_at F5.out
    have n5 := frees_at F5.out
    have nb : w.heap.size + 1 ≠ g3 := by omega
    have nb' : g3 ≠ w.heap.size + 1 := by omega
    have nc : w.heap.size + 1 ≠ w2.heap.size := by omega
    have nc' : w2.heap.size ≠ w.heap.size + 1 := by omega
    have nz : ¬ n = 0 := by omega
    have nz' : ¬ (n : Int) = 0 := by omega
    have nd : w2.heap.size ≠ g3 := by omega
    have nd' : g3 ≠ w2.heap.size := by omega
    go_wp2_with fail
    have F6 := hid (heap_row3 F5.out (.slice (some ⟨g3, 0, none⟩) n c3) (.int .i64 (p3 : Int)) (.int .i64 (q : Int)))
    have G6 := hid (chg_row3 w5 w2.heap.size (.slice (some ⟨g3, 0, none⟩) n c3) (.int .i64 (p3 : Int)) (.int .i64 (q : Int)))
    generalize hW : ((w5.setCell ⟨w2.heap.size, 0, none⟩ (.slice (some ⟨g3, 0, none⟩) n c3)).setCell ⟨w2.heap.size, 1, none⟩ (.int .i64 (p3 : Int))).setCell ⟨w2.heap.size, 2, none⟩ (.int .i64 (q : Int)) = w6 at *
    clear hW m5 n5
    have hb6 := G6.out.heap hb3 (fun e => by omega)
    have E6 := hid (G6.out.heap E5.out (fun e => by omega))
    have O6 := hid (O3.out.chg1 G6.out (fun e => by omega))
    have j6 : w6.cell? ⟨g3, idx, none⟩ = some (cx (ys.getD idx (0, 0))) := by rw [cell_at hb6, hcell3 _ hlt]
    have f6 : w6.frozen? ⟨g3, idx, none⟩ = false := free_at hb6
    have m6 := cells_at F6.out
    have n6 := frees_at F6.out
    have k2' := cells_at E6.out
    have l2' := frees_at E6.out
    clear hb3 hb6 hcell3
    go_region_held3 (fun w' => w'.cell? ⟨w2.heap.size, 0, none⟩ = some (.slice (some ⟨g3, 0, none⟩) n c3) ∧ w'.cell? ⟨w2.heap.size, 1, none⟩ = some (.int .i64 (p3 : Int)) ∧ w'.cell? ⟨w2.heap.size, 2, none⟩ = some (.int .i64 (q : Int))) (first | assumption | go_keep) (fail)
    go_wp2_with fail
    refine bodyPost_ret (v := .tuple #[.agg #[.slice (some ⟨g3, 0, none⟩) n c3, .int .i64 ((p3 : Nat) : Int), .int .i64 ((q : Int) + 1)], .complex .f32 y.1 y.2, .bool true]) (by simp [results, Try.results63, go_sem, k2']) rfl ?_
    have law := push_law z HN3.out HK3.out hqn
    rw [HX.out, HI3.out] at law
    have OP := O6.out.put idx (by have := HN3.out; omega) z
    have GW : Chg (fun k => k = w2.heap.size ∨ k = w.heap.size + 1) (w6.setCell ⟨g3, idx, none⟩ (cx z)) _ := (((((Chg.refl (fun k => k = w2.heap.size ∨ k = w.heap.size + 1) (w6.setCell ⟨g3, idx, none⟩ (cx z))).setCell (p := ⟨w2.heap.size, 2, none⟩) (.inl (.inl rfl)) (.int .i64 ((q : Int) + 1))).setCell (p := ⟨w.heap.size + 1, 0, none⟩) (.inl (.inr rfl)) (.slice (some ⟨g3, 0, none⟩) n c3)).setCell (p := ⟨w.heap.size + 1, 1, none⟩) (.inl (.inr rfl)) (.int .i64 ((p3 : Nat) : Int))).setCell (p := ⟨w.heap.size + 1, 2, none⟩) (.inl (.inr rfl)) (.int .i64 ((q : Int) + 1))).drew
    have hl : (is ++ [z]).length = q + 1 := by simp [HQ3.out]
    refine ⟨_, rfl, ⟨g3, c3, p3, ys.set idx z, ?_, by simpa using HN3.out, (OP.chg1 GW fun e => by omega).mono (by omega), by rw [hl]; exact law.1, by rw [hl]; exact law.2⟩, ?_⟩
    · rw [hl]; simp
    · have GA := (G1.out.trans P2.out fun _ _ h => h).trans (((G4.out.trans (h3.mono fun _ _ h => h.elim) fun _ _ h => h).trans G6.out fun _ _ h => h)) (fun k hk e => by omega)
      exact GA.trans ((((Chg.refl (fun k => k = g3 ∨ k = w2.heap.size ∨ k = w.heap.size + 1) w6).setCell (p := ⟨g3, idx, none⟩) (.inl (.inl rfl)) (cx z)).trans GW fun _ _ h => .inr h)) (fun k hk e => by omega)
  · have P2 := hid ((((Chg.refl (fun _ => False) w1).alloc (.cells #[.slice none 0 0, .int .i64 0, .int .i64 0] 27)).drew).trans g2 fun _ _ h => h)
    have F2 := hid (P2.out.heap E1.out id)
    have z2 := P2.out.size
    have z2' := g2.size
    simp at z2'
    obtain ⟨b2, c2', cur, hv, lb, lb2, hc2, hb2, hcell⟩ := o2.at2 HN.out (by omega)
    simp at hv
    obtain ⟨rfl, _, rfl⟩ := hv
    simp at lb
    have O2 := hid (HN.out ▸ o2 : OwnC w2 _ (.slice (some ⟨b2, 0, none⟩) n c2) xs)
    clear o2 k1
    have F4 := hid (heap_row3 L2.out (.slice (some ⟨b2, 0, none⟩) n c2) (.int .i64 ((p : Nat) : Int)) (.int .i64 ((n : Nat) : Int)))
    have G4 := hid (chg_row3 w2 w1.heap.size (.slice (some ⟨b2, 0, none⟩) n c2) (.int .i64 ((p : Nat) : Int)) (.int .i64 ((n : Nat) : Int)))
    have lL := G4.out.size
    generalize hW : ((w2.setCell ⟨w1.heap.size, 0, none⟩ (.slice (some ⟨b2, 0, none⟩) n c2)).setCell ⟨w1.heap.size, 1, none⟩ (.int .i64 ((p : Nat) : Int))).setCell ⟨w1.heap.size, 2, none⟩ (.int .i64 ((n : Nat) : Int)) = w4 at *
    clear hW
    have z4 := G4.out.size
    have E4 := hid (G4.out.heap F2.out (fun e => by omega))
    have O4 := hid (O2.out.chg1 G4.out (fun e => by omega))
    have R4 : RgOk w4 0 (.agg #[.slice (some ⟨b2, 0, none⟩) n c2, .int .i64 ((p : Nat) : Int), .int .i64 ((n : Nat) : Int)]) n (y :: is) :=
      ⟨b2, c2, p, xs, by rw [HQ.out], HN.out, O4.out.mono (Nat.zero_le _), by rw [HQ.out]; exact HK.out, by rw [HQ.out]; exact HI.out⟩
    have R4' := hid R4
    clear R4 hcell hb2 hn'
    have m4 := cells_at F4.out
    go_wp2_with fail
    refine (TakeRing_yes _ _ n y is R4'.out).mono ?_
    rintro e w5 ⟨v3, rfl, ⟨g3, c3, p3, ys, rfl, hn3, o3, k3, i3⟩, h3⟩
    have z5 := h3.size
    have F5 := hid (h3.heap F4.out id)
    have E5 := hid (h3.heap E4.out id)
    generalize hq3 : is.length = q at *
    have hqn : q < n := by have := HF.out; omega
    have hp3 : p3 < n := by have := k3.2.2.1; omega
    have HN3 := hid hn3
    have HK3 := hid k3
    have HI3 := hid i3
    have HQ3 := hid hq3
    obtain ⟨b3, c3', cur3, hv, lb', lb3, hc3, hb3, hcell3⟩ := o3.at2 hn3 (by omega)
    simp at hv
    obtain ⟨rfl, rfl⟩ := hv
    have O3 := hid o3
    obtain ⟨e1, e2, e3⟩ := rem_cast p3 q n (by omega) (by omega)
    have hlt : (p3 + q) % n < n := Nat.mod_lt _ (by omega)
    generalize hidx : (p3 + q) % n = idx at *
    have HX := hid hidx
    have i0 : (0 : Int) ≤ ((idx : Nat) : Int) := by omega
    have i1 : ((idx : Nat) : Int) < (n : Int) := by omega
    clear hidx o3 hn3 k3 i3 hq3 m4
    have m5 := cells_at F5.out
    have n5 := frees_at F5.out
    have nb : w.heap.size + 1 ≠ g3 := by omega
    have nb' : g3 ≠ w.heap.size + 1 := by omega
    have nc : w.heap.size + 1 ≠ w1.heap.size := by omega
    have nc' : w1.heap.size ≠ w.heap.size + 1 := by omega
    have nz : ¬ n = 0 := by omega
    have nz' : ¬ (n : Int) = 0 := by omega
    have nd : w1.heap.size ≠ g3 := by omega
    have nd' : g3 ≠ w1.heap.size := by omega
    go_wp2_with fail
    have F6 := hid (heap_row3 F5.out (.slice (some ⟨g3, 0, none⟩) n c3) (.int .i64 (p3 : Int)) (.int .i64 (q : Int)))
    have G6 := hid (chg_row3 w5 w1.heap.size (.slice (some ⟨g3, 0, none⟩) n c3) (.int .i64 (p3 : Int)) (.int .i64 (q : Int)))
    generalize hW : ((w5.setCell ⟨w1.heap.size, 0, none⟩ (.slice (some ⟨g3, 0, none⟩) n c3)).setCell ⟨w1.heap.size, 1, none⟩ (.int .i64 (p3 : Int))).setCell ⟨w1.heap.size, 2, none⟩ (.int .i64 (q : Int)) = w6 at *
    clear hW m5 n5
    have hb6 := G6.out.heap hb3 (fun e => by omega)
    have E6 := hid (G6.out.heap E5.out (fun e => by omega))
    have O6 := hid (O3.out.chg1 G6.out (fun e => by omega))
    have j6 : w6.cell? ⟨g3, idx, none⟩ = some (cx (ys.getD idx (0, 0))) := by rw [cell_at hb6, hcell3 _ hlt]
    have f6 : w6.frozen? ⟨g3, idx, none⟩ = false := free_at hb6
    have m6 := cells_at F6.out
    have n6 := frees_at F6.out
    have k2' := cells_at E6.out
    have l2' := frees_at E6.out
    clear hb3 hb6 hcell3
    go_region_held3 (fun w' => w'.cell? ⟨w1.heap.size, 0, none⟩ = some (.slice (some ⟨g3, 0, none⟩) n c3) ∧ w'.cell? ⟨w1.heap.size, 1, none⟩ = some (.int .i64 (p3 : Int)) ∧ w'.cell? ⟨w1.heap.size, 2, none⟩ = some (.int .i64 (q : Int))) (first | assumption | go_keep) (fail)
    go_wp2_with fail
    refine bodyPost_ret (v := .tuple #[.agg #[.slice (some ⟨g3, 0, none⟩) n c3, .int .i64 ((p3 : Nat) : Int), .int .i64 ((q : Int) + 1)], .complex .f32 y.1 y.2, .bool true]) (by simp [results, Try.results63, go_sem, k2']) rfl ?_
    have law := push_law z HN3.out HK3.out hqn
    rw [HX.out, HI3.out] at law
    have OP := O6.out.put idx (by have := HN3.out; omega) z
    have GW : Chg (fun k => k = w1.heap.size ∨ k = w.heap.size + 1) (w6.setCell ⟨g3, idx, none⟩ (cx z)) _ := (((((Chg.refl (fun k => k = w1.heap.size ∨ k = w.heap.size + 1) (w6.setCell ⟨g3, idx, none⟩ (cx z))).setCell (p := ⟨w1.heap.size, 2, none⟩) (.inl (.inl rfl)) (.int .i64 ((q : Int) + 1))).setCell (p := ⟨w.heap.size + 1, 0, none⟩) (.inl (.inr rfl)) (.slice (some ⟨g3, 0, none⟩) n c3)).setCell (p := ⟨w.heap.size + 1, 1, none⟩) (.inl (.inr rfl)) (.int .i64 ((p3 : Nat) : Int))).setCell (p := ⟨w.heap.size + 1, 2, none⟩) (.inl (.inr rfl)) (.int .i64 ((q : Int) + 1))).drew
    have hl : (is ++ [z]).length = q + 1 := by simp [HQ3.out]
    refine ⟨_, rfl, ⟨g3, c3, p3, ys.set idx z, ?_, by simpa using HN3.out, (OP.chg1 GW fun e => by omega).mono (by omega), by rw [hl]; exact law.1, by rw [hl]; exact law.2⟩, ?_⟩
    · rw [hl]; simp
    · have GA := (G1.out.trans P2.out fun _ _ h => h).trans (((G4.out.trans (h3.mono fun _ _ h => h.elim) fun _ _ h => h).trans G6.out fun _ _ h => h)) (fun k hk e => by omega)
      exact GA.trans ((((Chg.refl (fun k => k = g3 ∨ k = w1.heap.size ∨ k = w.heap.size + 1) w6).setCell (p := ⟨g3, idx, none⟩) (.inl (.inl rfl)) (cx z)).trans GW fun _ _ h => .inr h)) (fun k hk e => by omega)
end Go.Proofs.Ytopkehknaclhlaa
