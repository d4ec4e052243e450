/- The program's rings: what pushes. Conditions: the ring is valid. -/
import Derived.Test.YtopkehknaclhlaaRw
namespace Go.Proofs.Ytopkehknaclhlaa
open Go Go.RowKit

theorem OwnC.chg1 {S : Nat → Prop} {w w' : World} {base g n c : Nat} {xs : List (Nat × Nat)} (h : OwnC w base (.slice (some ⟨g, 0, none⟩) n c) xs) (G : Chg S w w') (hS : ¬ S g) : OwnC w' base (.slice (some ⟨g, 0, none⟩) n c) xs := by
  obtain ⟨h1, h2⟩ := h
  refine ⟨h1, ?_⟩
  rcases h2 with h2 | ⟨b, cap, cur, hv, hb, hh, r⟩
  · exact .inl h2
  · simp at hv
    obtain ⟨rfl, hv⟩ := hv
    exact .inr ⟨g, cap, cur, by simp [hv], hb, G.heap hh hS, r⟩

set_option maxRecDepth 100000 in
set_option maxHeartbeats 4000000 in
theorem PushRing_room (w : World) (v : Value) (n : Nat) (z : Nat × Nat) (is : List (Nat × Nat)) (hr : RgOk w 0 v n is) (hroom : is.length < n) :
    Calls Try.prog 63 #[v, .complex .f32 z.1 z.2] w (RTkT w n (0, 0) (is ++ [z])) := by
  obtain ⟨g, c, p, xs, rfl, hn, ho, hk, hi⟩ := hr
  have HO := hid ho
  have HK := hid hk
  have HI := hid hi
  have hp : p < n := by have := hk.2.2.1; omega
  have n16 : n ≤ 16 := by have := hk.2.1; omega
  clear ho hk hi
  generalize hq : is.length = q at *
  have HN := hid hn
  have HQ := hid hq
  clear hn hq
  have hne : ¬ ((q : Int) = (n : Int)) := by omega
  have hn' := HN.out
  go_enter Try.func63, Try.ntmps63
  go_wp2_with fail
  refine (IsRing_yes _ _ xs p q ((HO.out.chg (((Chg.refl (fun _ => False) w).alloc _).alloc _) fun _ _ _ h => h)) HK.out).mono ?_
  rintro e w1 ⟨rfl, g1⟩
  have F1 := hid (g1.heap (heap_old (heap_new w _)) id)
  have E1 := hid (g1.heap (heap_new' (w := w.alloc _) (b := w.heap.size + 1) (by simp)) id)
  have O1 := hid (HO.out.chg ((((Chg.refl (fun _ => False) w).alloc _).alloc _).trans g1 fun _ _ h => h) fun _ _ _ h => h)
  have k1 := cells_at F1.out
  have z1 := g1.size
  simp at z1
  have G1 := hid ((((Chg.refl (fun _ => False) w).alloc _).alloc _).trans g1 fun _ _ h => h)
  clear g1
  have n1 : w1.heap.size ≠ w.heap.size := by omega
  have n1' : w.heap.size ≠ w1.heap.size := by omega
  go_wp2_with fail
  go_region_held3 (fun w' => w'.cell? ⟨w.heap.size, 0, none⟩ = some (.slice (some ⟨g, 0, none⟩) n c) ∧ w'.cell? ⟨w.heap.size, 1, none⟩ = some (.int .i64 (p : Int)) ∧ w'.cell? ⟨w.heap.size, 2, none⟩ = some (.int .i64 (q : Int))) (first | assumption | (exact ⟨cell_at H2.out, cell_at H2.out, cell_at H2.out⟩) | (exact ⟨cell_at (heap_old H2.out), cell_at (heap_old H2.out), cell_at (heap_old H2.out)⟩) | (exact ⟨cell_at (heap_old (w := w1) F1.out), cell_at (heap_old (w := w1) F1.out), cell_at (heap_old (w := w1) F1.out)⟩) | (exact ⟨cell_at ((chg_row3 _ w1.heap.size _ _ _).heap H2.out n1'), cell_at ((chg_row3 _ w1.heap.size _ _ _).heap H2.out n1'), cell_at ((chg_row3 _ w1.heap.size _ _ _).heap H2.out n1')⟩) | go_keep)
    (first
      | (go_at_call 120; refine (copyRing_calls w1.drew _ _ _ xs (by omega) (O1.out.chg (Chg.refl (fun _ => False) w1).drew fun _ _ _ h => h)).mono ?_; rintro e w2 ⟨a2, c2, rfl, o2, m2, g2⟩; have H2 := hid ((((Chg.refl (fun _ => False) w1).drew).trans g2 fun _ _ h => h).heap F1.out id); have h2 := World.new_ne w2 _ (cell_at (k := 0) H2.out))
      | (go_at_call 120; refine (copyRing_calls (w1.alloc (.cells #[.slice none 0 0, .int .i64 0, .int .i64 0] 27)).drew _ _ _ xs (by omega) (O1.out.chg ((Chg.refl (fun _ => False) w1).alloc (.cells #[.slice none 0 0, .int .i64 0, .int .i64 0] 27)).drew fun _ _ _ h => h)).mono ?_; rintro e w2 ⟨a2, c2, rfl, o2, m2, g2⟩; have H2 := hid ((((Chg.refl (fun _ => False) w1).alloc (.cells #[.slice none 0 0, .int .i64 0, .int .i64 0] 27)).drew.trans g2 fun _ _ h => h).heap F1.out id); have L2 := hid (g2.heap (show (w1.alloc (.cells #[.slice none 0 0, .int .i64 0, .int .i64 0] 27)).drew.heap[w1.heap.size]? = _ from heap_new w1 _) id); have l2 := cells_at L2.out; have l3 := frees_at L2.out; have h2 := World.new_ne w2 _ (cell_at (k := 0) H2.out)))
  · have P2 := hid (((Chg.refl (fun _ => False) w1).drew).trans g2 fun _ _ h => h)
    have F2 := hid (P2.out.heap E1.out id)
    have z2 := P2.out.size
    have z2' := g2.size
    simp at z2'
    obtain ⟨b2, c2', cur, hv, lb, lb2, hc2, hb2, hcell⟩ := o2.at2 HN.out (by omega)
    simp at hv
    obtain ⟨rfl, _, rfl⟩ := hv
    simp at lb
    have O2 := hid o2
    obtain ⟨e1, e2, e3⟩ := rem_cast p q n (by omega) (by omega)
    have hlt : (p + q) % n < n := Nat.mod_lt _ (by omega)
    generalize hidx : (p + q) % n = idx at *
    have HX := hid hidx
    have i0 : (0 : Int) ≤ ((idx : Nat) : Int) := by omega
    have i1 : ((idx : Nat) : Int) < (n : Int) := by omega
    clear hidx o2 k1
    have F4 := hid (heap_new w2 (.cells #[.slice (some ⟨b2, 0, none⟩) n c2, .int .i64 ((p : Nat) : Int), .int .i64 ((q : Nat) : Int)] 27))
    have G4 := hid (((Chg.refl (fun _ => False) w2).alloc (.cells #[.slice (some ⟨b2, 0, none⟩) n c2, .int .i64 ((p : Nat) : Int), .int .i64 ((q : Nat) : Int)] 27)).mono (S := fun k => k = w2.heap.size) fun _ _ h => h.elim)
    have lL : w2.heap.size + 1 ≤ (w2.alloc (.cells #[.slice (some ⟨b2, 0, none⟩) n c2, .int .i64 ((p : Nat) : Int), .int .i64 ((q : Nat) : Int)] 27)).heap.size := by simp
    generalize hW : w2.alloc (.cells #[.slice (some ⟨b2, 0, none⟩) n c2, .int .i64 ((p : Nat) : Int), .int .i64 ((q : Nat) : Int)] 27) = w4 at *
    clear hW
    have hb4 := G4.out.heap hb2 (fun e => by omega)
    have E4 := hid (G4.out.heap F2.out (fun e => by omega))
    have O4 := hid (O2.out.chg G4.out (fun k hk _ e => by simp at hk; omega))
    have j4 : w4.cell? ⟨b2, idx, none⟩ = some (cx (xs.getD idx (0, 0))) := by rw [cell_at hb4, hcell _ hlt]
    have f4 : w4.frozen? ⟨b2, idx, none⟩ = false := free_at hb4
    have m4 := cells_at F4.out
    have n4 := frees_at F4.out
    have k2' := cells_at E4.out
    have l2' := frees_at E4.out
    clear hb2 hb4 hcell
    have nb : w.heap.size + 1 ≠ b2 := by omega
    have nb' : b2 ≠ w.heap.size + 1 := by omega
    have nc : w.heap.size + 1 ≠ w2.heap.size := by omega
    have nc' : w2.heap.size ≠ w.heap.size + 1 := by omega
    have nz : ¬ n = 0 := by omega
    have nz' : ¬ (n : Int) = 0 := by omega
    have nd : w2.heap.size ≠ b2 := by omega
    have nd' : b2 ≠ w2.heap.size := by omega
    clear hn'
    go_wp2_with fail
    go_region_held3 (fun w' => w'.cell? ⟨w2.heap.size, 0, none⟩ = some (.slice (some ⟨b2, 0, none⟩) n c2) ∧ w'.cell? ⟨w2.heap.size, 1, none⟩ = some (.int .i64 (p : Int)) ∧ w'.cell? ⟨w2.heap.size, 2, none⟩ = some (.int .i64 (q : Int))) (first | assumption | go_keep) (fail)
    go_wp2_with fail
    refine bodyPost_ret (v := .tuple #[.agg #[.slice (some ⟨b2, 0, none⟩) n c2, .int .i64 ((p : Nat) : Int), .int .i64 ((q : Int) + 1)], .complex .f32 0 0, .bool true]) (by simp [results, Try.results63, go_sem, k2']) rfl ?_
    have law := push_law z HN.out HK.out hroom
    rw [HX.out, HI.out] at law
    have OP := (HN.out ▸ O4.out : OwnC w4 _ (.slice (some ⟨b2, 0, none⟩) n c2) xs).put idx (by have := HN.out; omega) z
    have GW : Chg (fun k => k = w2.heap.size ∨ k = w.heap.size + 1) (w4.setCell ⟨b2, idx, none⟩ (cx z)) _ := (((((Chg.refl (fun k => k = w2.heap.size ∨ k = w.heap.size + 1) (w4.setCell ⟨b2, idx, none⟩ (cx z))).setCell (p := ⟨w2.heap.size, 2, none⟩) (.inl (.inl rfl)) (.int .i64 ((q : Int) + 1))).setCell (p := ⟨w.heap.size + 1, 0, none⟩) (.inl (.inr rfl)) (.slice (some ⟨b2, 0, none⟩) n c2)).setCell (p := ⟨w.heap.size + 1, 1, none⟩) (.inl (.inr rfl)) (.int .i64 ((p : Nat) : Int))).setCell (p := ⟨w.heap.size + 1, 2, none⟩) (.inl (.inr rfl)) (.int .i64 ((q : Int) + 1))).drew
    have hl : (is ++ [z]).length = q + 1 := by simp [HQ.out]
    refine ⟨_, rfl, ⟨b2, c2, p, xs.set idx z, ?_, by simpa using HN.out, (OP.chg1 GW fun e => by omega).mono (by simp; omega), by rw [hl]; exact law.1, by rw [hl]; exact law.2⟩, ?_⟩
    · rw [hl]; simp
    · exact (G1.out.trans P2.out fun _ _ h => h).trans ((G4.out.mono (S := fun k => k = b2 ∨ k = w2.heap.size ∨ k = w.heap.size + 1) fun k _ e => .inr (.inl e)).trans (((Chg.refl (fun k => k = b2 ∨ k = w2.heap.size ∨ k = w.heap.size + 1) w4).setCell (p := ⟨b2, idx, none⟩) (.inl (.inl rfl)) (cx z)).trans GW fun _ _ h => .inr h) fun _ _ h => h) (fun k hk e => by omega)
  · have P2 := hid ((((Chg.refl (fun _ => False) w1).alloc (.cells #[.slice none 0 0, .int .i64 0, .int .i64 0] 27)).drew).trans g2 fun _ _ h => h)
    have F2 := hid (P2.out.heap E1.out id)
    have z2 := P2.out.size
    have z2' := g2.size
    simp at z2'
    obtain ⟨b2, c2', cur, hv, lb, lb2, hc2, hb2, hcell⟩ := o2.at2 HN.out (by omega)
    simp at hv
    obtain ⟨rfl, _, rfl⟩ := hv
    simp at lb
    have O2 := hid o2
    obtain ⟨e1, e2, e3⟩ := rem_cast p q n (by omega) (by omega)
    have hlt : (p + q) % n < n := Nat.mod_lt _ (by omega)
    generalize hidx : (p + q) % n = idx at *
    have HX := hid hidx
    have i0 : (0 : Int) ≤ ((idx : Nat) : Int) := by omega
    have i1 : ((idx : Nat) : Int) < (n : Int) := by omega
    clear hidx o2 k1
    have F4 := hid (heap_row3 L2.out (.slice (some ⟨b2, 0, none⟩) n c2) (.int .i64 ((p : Nat) : Int)) (.int .i64 ((q : Nat) : Int)))
    have G4 := hid (chg_row3 w2 w1.heap.size (.slice (some ⟨b2, 0, none⟩) n c2) (.int .i64 ((p : Nat) : Int)) (.int .i64 ((q : Nat) : Int)))
    have lL : True := trivial
    generalize hW : ((w2.setCell ⟨w1.heap.size, 0, none⟩ (.slice (some ⟨b2, 0, none⟩) n c2)).setCell ⟨w1.heap.size, 1, none⟩ (.int .i64 ((p : Nat) : Int))).setCell ⟨w1.heap.size, 2, none⟩ (.int .i64 ((q : Nat) : Int)) = w4 at *
    clear hW
    have hb4 := G4.out.heap hb2 (fun e => by omega)
    have E4 := hid (G4.out.heap F2.out (fun e => by omega))
    have O4 := hid (O2.out.chg G4.out (fun k hk _ e => by simp at hk; omega))
    have j4 : w4.cell? ⟨b2, idx, none⟩ = some (cx (xs.getD idx (0, 0))) := by rw [cell_at hb4, hcell _ hlt]
    have f4 : w4.frozen? ⟨b2, idx, none⟩ = false := free_at hb4
    have m4 := cells_at F4.out
    have n4 := frees_at F4.out
    have k2' := cells_at E4.out
    have l2' := frees_at E4.out
    clear hb2 hb4 hcell
    have nb : w.heap.size + 1 ≠ b2 := by omega
    have nb' : b2 ≠ w.heap.size + 1 := by omega
    have nc : w.heap.size + 1 ≠ w1.heap.size := by omega
    have nc' : w1.heap.size ≠ w.heap.size + 1 := by omega
    have nz : ¬ n = 0 := by omega
    have nz' : ¬ (n : Int) = 0 := by omega
    have nd : w1.heap.size ≠ b2 := by omega
    have nd' : b2 ≠ w1.heap.size := by omega
    clear hn'
    go_wp2_with fail
    go_region_held3 (fun w' => w'.cell? ⟨w1.heap.size, 0, none⟩ = some (.slice (some ⟨b2, 0, none⟩) n c2) ∧ w'.cell? ⟨w1.heap.size, 1, none⟩ = some (.int .i64 (p : Int)) ∧ w'.cell? ⟨w1.heap.size, 2, none⟩ = some (.int .i64 (q : Int))) (first | assumption | go_keep) (fail)
    go_wp2_with fail
    refine bodyPost_ret (v := .tuple #[.agg #[.slice (some ⟨b2, 0, none⟩) n c2, .int .i64 ((p : Nat) : Int), .int .i64 ((q : Int) + 1)], .complex .f32 0 0, .bool true]) (by simp [results, Try.results63, go_sem, k2']) rfl ?_
    have law := push_law z HN.out HK.out hroom
    rw [HX.out, HI.out] at law
    have OP := (HN.out ▸ O4.out : OwnC w4 _ (.slice (some ⟨b2, 0, none⟩) n c2) xs).put idx (by have := HN.out; omega) z
    have GW : Chg (fun k => k = w1.heap.size ∨ k = w.heap.size + 1) (w4.setCell ⟨b2, idx, none⟩ (cx z)) _ := (((((Chg.refl (fun k => k = w1.heap.size ∨ k = w.heap.size + 1) (w4.setCell ⟨b2, idx, none⟩ (cx z))).setCell (p := ⟨w1.heap.size, 2, none⟩) (.inl (.inl rfl)) (.int .i64 ((q : Int) + 1))).setCell (p := ⟨w.heap.size + 1, 0, none⟩) (.inl (.inr rfl)) (.slice (some ⟨b2, 0, none⟩) n c2)).setCell (p := ⟨w.heap.size + 1, 1, none⟩) (.inl (.inr rfl)) (.int .i64 ((p : Nat) : Int))).setCell (p := ⟨w.heap.size + 1, 2, none⟩) (.inl (.inr rfl)) (.int .i64 ((q : Int) + 1))).drew
    have hl : (is ++ [z]).length = q + 1 := by simp [HQ.out]
    refine ⟨_, rfl, ⟨b2, c2, p, xs.set idx z, ?_, by simpa using HN.out, (OP.chg1 GW fun e => by omega).mono (by simp; omega), by rw [hl]; exact law.1, by rw [hl]; exact law.2⟩, ?_⟩
    · rw [hl]; simp
    · exact (G1.out.trans P2.out fun _ _ h => h).trans ((G4.out.mono (S := fun k => k = b2 ∨ k = w1.heap.size ∨ k = w.heap.size + 1) fun k _ e => .inr (.inl e)).trans (((Chg.refl (fun k => k = b2 ∨ k = w1.heap.size ∨ k = w.heap.size + 1) w4).setCell (p := ⟨b2, idx, none⟩) (.inl (.inl rfl)) (cx z)).trans GW fun _ _ h => .inr h) fun _ _ h => h) (fun k hk e => by omega)
end Go.Proofs.Ytopkehknaclhlaa
