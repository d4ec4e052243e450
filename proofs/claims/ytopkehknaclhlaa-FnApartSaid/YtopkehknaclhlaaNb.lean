/- The reference's rings: what pushes. Conditions: the ring is valid. -/
import Derived.Test.YtopkehknaclhlaaRu
namespace Go.Proofs.Ytopkehknaclhlaa
open Go Go.RowKit

theorem size_set (w : World) (a : Addr) (x : Value) : (w.setCell a x).heap.size = w.heap.size := by
  unfold World.setCell
  split <;> simp
theorem cell_dn {w : World} {arr : Array Value} {T : TypeId} {b k : Nat} (h : b = w.heap.size) : ((w.alloc (.cells arr T)).drew).cell? ⟨b, k, none⟩ = arr[k]? :=
  cell_at (w := (w.alloc (.cells arr T)).drew) (show (w.alloc (.cells arr T)).heap[b]? = _ from heap_new' h)

set_option maxRecDepth 100000 in
set_option maxHeartbeats 4000000 in
theorem l4Push_room (w : World) (v : Value) (n : Nat) (z : Nat × Nat) (is : List (Nat × Nat)) (hr : RgOk w 0 v n is) (hroom : is.length < n) :
    Calls Try.prog 150 #[v, .complex .f32 z.1 z.2] w (RTk w n (0, 0) (is ++ [z])) := by
  obtain ⟨g, c, p, xs, rfl, hn, ho, hk, hi⟩ := hr
  have HO := hid ho
  have HK := hid hk
  have HI := hid hi
  have hp : p < n := by have := hk.2.2.1; omega
  have n16 : n ≤ 16 := by have := hk.2.1; omega
  clear ho hk hi
  generalize hq : is.length = q at *
  have HN := hid hn
  have HQ := hid hq
  clear hn hq
  have hne : ¬ ((q : Int) = (n : Int)) := by omega
  go_enter Try.func150, Try.ntmps150
  go_wp2_with fail
  refine (l4Copy_calls _ _ _ _ _ _ xs HN.out (by omega) ((HO.out.chg (((Chg.refl (fun _ => False) w).alloc _).alloc _) fun _ _ _ h => h))).mono ?_
  rintro e w2 ⟨a2, c2, rfl, o2, g2⟩
  have F2 := hid (g2.heap (heap_new' (w := w.alloc _) (b := w.heap.size + 1) (by simp)) id)
  have z2 := g2.size
  simp at z2
  obtain ⟨b2, c2', cur, hv, lb, lb2, hc2, hb2, hcell⟩ := o2.at2 HN.out (by omega)
  simp at hv
  obtain ⟨rfl, _, rfl⟩ := hv
  simp at lb
  have O2 := hid o2
  obtain ⟨e1, e2, e3⟩ := rem_cast p q n (by omega) (by omega)
  have hlt : (p + q) % n < n := Nat.mod_lt _ (by omega)
  have j2 : w2.cell? ⟨b2, (p + q) % n, none⟩ = some (cx (xs.getD ((p + q) % n) (0, 0))) := by rw [cell_at hb2, hcell _ hlt]
  have f2 : w2.frozen? ⟨b2, (p + q) % n, none⟩ = false := free_at hb2
  generalize hidx : (p + q) % n = idx at *
  have HX := hid hidx
  have i0 : (0 : Int) ≤ ((idx : Nat) : Int) := by omega
  have i1 : ((idx : Nat) : Int) < (n : Int) := by omega
  clear hidx hcell hb2 o2
  have k2 := cells_at F2.out
  have l2 := frees_at F2.out
  have nb : w.heap.size + 1 ≠ b2 := by omega
  have nb' : b2 ≠ w.heap.size + 1 := by omega
  have nc : w.heap.size + 1 ≠ w2.heap.size := by omega
  have nc' : w2.heap.size ≠ w.heap.size + 1 := by omega
  have nz : ¬ n = 0 := by omega
  have nz' : ¬ (n : Int) = 0 := by omega
  have nd : w2.heap.size ≠ b2 := by omega
  have nd' : b2 ≠ w2.heap.size := by omega
  rw [HN.out]
  go_wp2_with fail
  go_region_held3 (fun w' => w'.cell? ⟨w2.heap.size, 0, none⟩ = some (.slice (some ⟨b2, 0, none⟩) n c2) ∧ w'.cell? ⟨w2.heap.size, 1, none⟩ = some (.int .i64 (p : Int)) ∧ w'.cell? ⟨w2.heap.size, 2, none⟩ = some (.int .i64 (q : Int))) (first | assumption | (exact ⟨(cell_dn (size_set _ _ _).symm).trans rfl, (cell_dn (size_set _ _ _).symm).trans rfl, (cell_dn (size_set _ _ _).symm).trans rfl⟩) | go_keep) (fail)
  have G2' := fun x o => (((Chg.refl (fun k => k = b2) w2).setCell (p := ⟨b2, idx, none⟩) (.inl rfl) x).alloc o).heap F2.out (show w.heap.size + 1 ≠ b2 by omega)
  have k2' := fun x o => cells_at (G2' x o)
  have l2' := fun x o => frees_at (G2' x o)
  clear G2' k2 l2
  go_wp2_with fail
  refine bodyPost_ret (v := .tuple #[.agg #[.slice (some ⟨b2, 0, none⟩) n c2, .int .i64 ((p : Nat) : Int), .int .i64 ((q : Int) + 1)], .complex .f32 0 0]) (by simp [results, Try.results150, go_sem, k2']) rfl ?_
  have law := push_law z HN.out HK.out hroom
  rw [HX.out, HI.out] at law
  have OP := (HN.out ▸ O2.out : OwnC w2 _ (.slice (some ⟨b2, 0, none⟩) n c2) xs).put idx (by have := HN.out; omega) z
  have GW : Chg (fun k => k = w.heap.size + 1) (w2.setCell ⟨b2, idx, none⟩ (cx z)) _ := (((((Chg.refl (fun k => k = w.heap.size + 1) (w2.setCell ⟨b2, idx, none⟩ (cx z))).alloc (.cells #[.slice (some ⟨b2, 0, none⟩) n c2, .int .i64 ((p : Nat) : Int), .int .i64 ((q : Int) + 1)] 27)).drew.setCell (p := ⟨w.heap.size + 1, 0, none⟩) (.inl rfl) (.slice (some ⟨b2, 0, none⟩) n c2)).setCell (p := ⟨w.heap.size + 1, 1, none⟩) (.inl rfl) (.int .i64 ((p : Nat) : Int))).setCell (p := ⟨w.heap.size + 1, 2, none⟩) (.inl rfl) (.int .i64 ((q : Int) + 1)))
  have hl : (is ++ [z]).length = q + 1 := by simp [HQ.out]
  refine ⟨_, rfl, ⟨b2, c2, p, xs.set idx z, ?_, by simpa using HN.out, (OP.chg GW fun k hk _ e => by simp at hk; omega).mono (by simp; omega), by rw [hl]; exact law.1, by rw [hl]; exact law.2⟩, ?_⟩
  · rw [hl]; simp
  · exact (((((Chg.refl (fun _ => False) w).alloc _).alloc _).trans g2 fun _ _ h => h).trans (((Chg.refl (fun k => k = b2 ∨ k = w.heap.size + 1) w2).setCell (p := ⟨b2, idx, none⟩) (.inl (.inl rfl)) (cx z)).trans GW fun _ _ h => .inr h) (fun k hk e => by omega))
end Go.Proofs.Ytopkehknaclhlaa

/- The reference's rings: what pushes into a full one. Conditions: the ring is valid. -/
namespace Go.Proofs.Ytopkehknaclhlaa
open Go Go.RowKit

theorem heap_row3 {w : World} {b : Nat} {T : TypeId} {f : Nat × Nat} {a0 a1 a2 : Value} (h : w.heap[b]? = some (.cells #[a0, a1, a2] T f)) (v0 v1 v2 : Value) :
    (((w.setCell ⟨b, 0, none⟩ v0).setCell ⟨b, 1, none⟩ v1).setCell ⟨b, 2, none⟩ v2).heap[b]? = some (.cells #[v0, v1, v2] T f) := by
  have h := heap_set (k := 2) (v := v2) (heap_set (k := 1) (v := v1) (heap_set (k := 0) (v := v0) h))
  simpa using h
theorem chg_row3 (w : World) (b : Nat) (v0 v1 v2 : Value) : Chg (fun k => k = b) w (((w.setCell ⟨b, 0, none⟩ v0).setCell ⟨b, 1, none⟩ v1).setCell ⟨b, 2, none⟩ v2) :=
  (((Chg.refl (fun k => k = b) w).setCell (p := ⟨b, 0, none⟩) (.inl rfl) v0).setCell (p := ⟨b, 1, none⟩) (.inl rfl) v1).setCell (p := ⟨b, 2, none⟩) (.inl rfl) v2

set_option maxRecDepth 100000 in
set_option maxHeartbeats 4000000 in
theorem l4Push_full (w : World) (v : Value) (n : Nat) (z y : Nat × Nat) (is : List (Nat × Nat)) (hr : RgOk w 0 v n (y :: is)) (hfull : is.length + 1 = n) :
    Calls Try.prog 150 #[v, .complex .f32 z.1 z.2] w (RTk w n y (is ++ [z])) := by
  obtain ⟨g, c, p, xs, rfl, hn, ho, hk, hi⟩ := hr
  have HO := hid ho
  have HK := hid hk
  have HI := hid hi
  have hp : p < n := by have := hk.2.2.1; omega
  have n16 : n ≤ 16 := by have := hk.2.1; omega
  clear ho hk hi
  have hq : (y :: is).length = n := by simpa using hfull
  rw [hq] at HK HI
  have HN := hid hn
  have HQ := hid hq
  have HF := hid hfull
  rw [hq]
  clear hn hq hfull
  go_enter Try.func150, Try.ntmps150
  go_wp2_with fail
  refine (l4Copy_calls _ _ _ _ _ _ xs HN.out (by omega) ((HO.out.chg (((Chg.refl (fun _ => False) w).alloc _).alloc _) fun _ _ _ h => h))).mono ?_
  rintro e w2 ⟨a2, c2, rfl, o2, g2⟩
  have F2 := hid (g2.heap (heap_new' (w := w.alloc _) (b := w.heap.size + 1) (by simp)) id)
  have z2 := g2.size
  simp at z2
  obtain ⟨b2, c2', cur, hv, lb, lb2, hc2, hb2, hcell⟩ := o2.at2 HN.out (by omega)
  simp at hv
  obtain ⟨rfl, _, rfl⟩ := hv
  rw [HN.out] at o2
  have R2 : RgOk (w2.alloc (.cells #[.slice (some ⟨b2, 0, none⟩) n c2, .int .i64 ((p : Nat) : Int), .int .i64 ((n : Nat) : Int)] 27)) 0 (.agg #[.slice (some ⟨b2, 0, none⟩) n c2, .int .i64 ((p : Nat) : Int), .int .i64 ((n : Nat) : Int)]) n (y :: is) :=
    ⟨b2, c2, p, xs, by rw [HQ.out], HN.out, ((o2.chg ((Chg.refl (fun _ => False) w2).alloc _) (fun _ _ _ h => h)).mono (Nat.zero_le _)), by rw [HQ.out]; exact HK.out, by rw [HQ.out]; exact HI.out⟩
  have R2' := hid R2
  clear R2 hcell hb2 o2
  rw [HN.out]
  go_wp2_with fail
  refine (l4Take_calls _ _ n y is R2'.out).mono ?_
  rintro e w3 ⟨v3, rfl, ⟨g3, c3, p3, ys, rfl, hn3, o3, k3, i3⟩, h3⟩
  have z3 := h3.size
  simp at z3
  have F3 := hid (h3.heap (heap_new w2 _) id)
  have E3 := hid (h3.heap (heap_old F2.out) id)
  generalize hq3 : is.length = q at *
  have hqn : q < n := by have := HF.out; omega
  have hp3 : p3 < n := by have := k3.2.2.1; omega
  have HN3 := hid hn3
  have HK3 := hid k3
  have HI3 := hid i3
  have HQ3 := hid hq3
  obtain ⟨b3, c3', cur, hv, lb, lb3, hc3, hb3, hcell⟩ := o3.at2 hn3 (by omega)
  simp at hv
  obtain ⟨rfl, rfl⟩ := hv
  simp at lb
  have O3 := hid o3
  obtain ⟨e1, e2, e3⟩ := rem_cast p3 q n (by omega) (by omega)
  have hlt : (p3 + q) % n < n := Nat.mod_lt _ (by omega)
  generalize hidx : (p3 + q) % n = idx at *
  have HX := hid hidx
  have i0 : (0 : Int) ≤ ((idx : Nat) : Int) := by omega
  have i1 : ((idx : Nat) : Int) < (n : Int) := by omega
  clear hidx o3 hn3 k3 i3 hq3
  have m3 := cells_at F3.out
  have n3 := frees_at F3.out
  have nb : w.heap.size + 1 ≠ g3 := by omega
  have nb' : g3 ≠ w.heap.size + 1 := by omega
  have nc : w.heap.size + 1 ≠ w2.heap.size := by omega
  have nc' : w2.heap.size ≠ w.heap.size + 1 := by omega
  have nz : ¬ n = 0 := by omega
  have nz' : ¬ (n : Int) = 0 := by omega
  have nd : w2.heap.size ≠ g3 := by omega
  have nd' : g3 ≠ w2.heap.size := by omega
  go_wp2_with fail
  have F4 := hid (heap_row3 F3.out (.slice (some ⟨g3, 0, none⟩) n c3) (.int .i64 (p3 : Int)) (.int .i64 (q : Int)))
  have G4 := hid (chg_row3 w3 w2.heap.size (.slice (some ⟨g3, 0, none⟩) n c3) (.int .i64 (p3 : Int)) (.int .i64 (q : Int)))
  generalize hW : ((w3.setCell ⟨w2.heap.size, 0, none⟩ (.slice (some ⟨g3, 0, none⟩) n c3)).setCell ⟨w2.heap.size, 1, none⟩ (.int .i64 (p3 : Int))).setCell ⟨w2.heap.size, 2, none⟩ (.int .i64 (q : Int)) = w4 at *
  clear hW m3 n3
  have hb4 := G4.out.heap hb3 (fun e => by omega)
  have E4 := hid (G4.out.heap E3.out (fun e => by omega))
  have O4 := hid (O3.out.chg G4.out (fun k hk _ e => by simp at hk; omega))
  have j4 : w4.cell? ⟨g3, idx, none⟩ = some (cx (ys.getD idx (0, 0))) := by rw [cell_at hb4, hcell _ hlt]
  have f4 : w4.frozen? ⟨g3, idx, none⟩ = false := free_at hb4
  have m4 := cells_at F4.out
  have n4 := frees_at F4.out
  have k2' := cells_at E4.out
  have l2' := frees_at E4.out
  clear hb3 hb4 hcell
  go_region_held3 (fun w' => w'.cell? ⟨w2.heap.size, 0, none⟩ = some (.slice (some ⟨g3, 0, none⟩) n c3) ∧ w'.cell? ⟨w2.heap.size, 1, none⟩ = some (.int .i64 (p3 : Int)) ∧ w'.cell? ⟨w2.heap.size, 2, none⟩ = some (.int .i64 (q : Int))) (first | assumption | go_keep) (fail)
  go_wp2_with fail
  refine bodyPost_ret (v := .tuple #[.agg #[.slice (some ⟨g3, 0, none⟩) n c3, .int .i64 ((p3 : Nat) : Int), .int .i64 ((q : Int) + 1)], .complex .f32 y.1 y.2]) (by simp [results, Try.results150, go_sem, k2']) rfl ?_
  have law := push_law z HN3.out HK3.out hqn
  rw [HX.out, HI3.out] at law
  have OP := O4.out.put idx (by have := HN3.out; omega) z
  have GW : Chg (fun k => k = w2.heap.size ∨ k = w.heap.size + 1) (w4.setCell ⟨g3, idx, none⟩ (cx z)) _ := (((((Chg.refl (fun k => k = w2.heap.size ∨ k = w.heap.size + 1) (w4.setCell ⟨g3, idx, none⟩ (cx z))).setCell (p := ⟨w2.heap.size, 2, none⟩) (.inl (.inl rfl)) (.int .i64 ((q : Int) + 1))).setCell (p := ⟨w.heap.size + 1, 0, none⟩) (.inl (.inr rfl)) (.slice (some ⟨g3, 0, none⟩) n c3)).setCell (p := ⟨w.heap.size + 1, 1, none⟩) (.inl (.inr rfl)) (.int .i64 ((p3 : Nat) : Int))).setCell (p := ⟨w.heap.size + 1, 2, none⟩) (.inl (.inr rfl)) (.int .i64 ((q : Int) + 1))).drew
  have hl : (is ++ [z]).length = q + 1 := by simp [HQ3.out]
  refine ⟨_, rfl, ⟨g3, c3, p3, ys.set idx z, ?_, by simpa using HN3.out, (OP.chg GW fun k hk _ e => by simp at hk; omega).mono (by simp; omega), by rw [hl]; exact law.1, by rw [hl]; exact law.2⟩, ?_⟩
  · rw [hl]; simp
  · have G := (((((Chg.refl (fun _ => False) w).alloc _).alloc _).trans g2 fun _ _ h => h).alloc _).trans h3 fun _ _ h => h
    exact G.trans ((G4.out.mono (S := fun k => k = g3 ∨ k = w2.heap.size ∨ k = w.heap.size + 1) fun k _ e => .inr (.inl e)).trans (((Chg.refl (fun k => k = g3 ∨ k = w2.heap.size ∨ k = w.heap.size + 1) w4).setCell (p := ⟨g3, idx, none⟩) (.inl (.inl rfl)) (cx z)).trans GW fun _ _ h => .inr h) fun _ _ h => h) (fun k hk e => by omega)
end Go.Proofs.Ytopkehknaclhlaa

/- The program's rings: what pushes. Conditions: the ring is valid. -/
namespace Go.Proofs.Ytopkehknaclhlaa
open Go Go.RowKit

theorem OwnC.chg1 {S : Nat → Prop} {w w' : World} {base g n c : Nat} {xs : List (Nat × Nat)} (h : OwnC w base (.slice (some ⟨g, 0, none⟩) n c) xs) (G : Chg S w w') (hS : ¬ S g) : OwnC w' base (.slice (some ⟨g, 0, none⟩) n c) xs := by
  obtain ⟨h1, h2⟩ := h
  refine ⟨h1, ?_⟩
  rcases h2 with h2 | ⟨b, cap, cur, hv, hb, hh, r⟩
  · exact .inl h2
  · simp at hv
    obtain ⟨rfl, hv⟩ := hv
    exact .inr ⟨g, cap, cur, by simp [hv], hb, G.heap hh hS, r⟩

set_option maxRecDepth 100000 in
set_option maxHeartbeats 4000000 in
theorem PushRing_room (w : World) (v : Value) (n : Nat) (z : Nat × Nat) (is : List (Nat × Nat)) (hr : RgOk w 0 v n is) (hroom : is.length < n) :
    Calls Try.prog 63 #[v, .complex .f32 z.1 z.2] w (RTkT w n (0, 0) (is ++ [z])) := by
  obtain ⟨g, c, p, xs, rfl, hn, ho, hk, hi⟩ := hr
  have HO := hid ho
  have HK := hid hk
  have HI := hid hi
  have hp : p < n := by have := hk.2.2.1; omega
  have n16 : n ≤ 16 := by have := hk.2.1; omega
  clear ho hk hi
  generalize hq : is.length = q at *
  have HN := hid hn
  have HQ := hid hq
  clear hn hq
  have hne : ¬ ((q : Int) = (n : Int)) := by omega
  have hn' := HN.out
  go_enter Try.func63, Try.ntmps63
  go_wp2_with fail
  refine (IsRing_yes _ _ xs p q ((HO.out.chg (((Chg.refl (fun _ => False) w).alloc _).alloc _) fun _ _ _ h => h)) HK.out).mono ?_
  rintro e w1 ⟨rfl, g1⟩
  have F1 := hid (g1.heap (heap_old (heap_new w _)) id)
  have E1 := hid (g1.heap (heap_new' (w := w.alloc _) (b := w.heap.size + 1) (by simp)) id)
  have O1 := hid (HO.out.chg ((((Chg.refl (fun _ => False) w).alloc _).alloc _).trans g1 fun _ _ h => h) fun _ _ _ h => h)
  have k1 := cells_at F1.out
  have z1 := g1.size
  simp at z1
  have G1 := hid ((((Chg.refl (fun _ => False) w).alloc _).alloc _).trans g1 fun _ _ h => h)
  clear g1
  have n1 : w1.heap.size ≠ w.heap.size := by omega
  have n1' : w.heap.size ≠ w1.heap.size := by omega
  go_wp2_with fail
  go_region_held3 (fun w' => w'.cell? ⟨w.heap.size, 0, none⟩ = some (.slice (some ⟨g, 0, none⟩) n c) ∧ w'.cell? ⟨w.heap.size, 1, none⟩ = some (.int .i64 (p : Int)) ∧ w'.cell? ⟨w.heap.size, 2, none⟩ = some (.int .i64 (q : Int))) (first | assumption | (exact ⟨cell_at H2.out, cell_at H2.out, cell_at H2.out⟩) | (exact ⟨cell_at (heap_old H2.out), cell_at (heap_old H2.out), cell_at (heap_old H2.out)⟩) | (exact ⟨cell_at (heap_old (w := w1) F1.out), cell_at (heap_old (w := w1) F1.out), cell_at (heap_old (w := w1) F1.out)⟩) | (exact ⟨cell_at ((chg_row3 _ w1.heap.size _ _ _).heap H2.out n1'), cell_at ((chg_row3 _ w1.heap.size _ _ _).heap H2.out n1'), cell_at ((chg_row3 _ w1.heap.size _ _ _).heap H2.out n1')⟩) | go_keep)
    (first
      | (go_at_call 120; refine (copyRing_calls w1.drew _ _ _ xs (by omega) (O1.out.chg (Chg.refl (fun _ => False) w1).drew fun _ _ _ h => h)).mono ?_; rintro e w2 ⟨a2, c2, rfl, o2, m2, g2⟩; have H2 := hid ((((Chg.refl (fun _ => False) w1).drew).trans g2 fun _ _ h => h).heap F1.out id); have h2 := World.new_ne w2 _ (cell_at (k := 0) H2.out))
      | (go_at_call 120; refine (copyRing_calls (w1.alloc (.cells #[.slice none 0 0, .int .i64 0, .int .i64 0] 27)).drew _ _ _ xs (by omega) (O1.out.chg ((Chg.refl (fun _ => False) w1).alloc (.cells #[.slice none 0 0, .int .i64 0, .int .i64 0] 27)).drew fun _ _ _ h => h)).mono ?_; rintro e w2 ⟨a2, c2, rfl, o2, m2, g2⟩; have H2 := hid ((((Chg.refl (fun _ => False) w1).alloc (.cells #[.slice none 0 0, .int .i64 0, .int .i64 0] 27)).drew.trans g2 fun _ _ h => h).heap F1.out id); have L2 := hid (g2.heap (show (w1.alloc (.cells #[.slice none 0 0, .int .i64 0, .int .i64 0] 27)).drew.heap[w1.heap.size]? = _ from heap_new w1 _) id); have l2 := cells_at L2.out; have l3 := frees_at L2.out; have h2 := World.new_ne w2 _ (cell_at (k := 0) H2.out)))
  · have P2 := hid (((Chg.refl (fun _ => False) w1).drew).trans g2 fun _ _ h => h)
    have F2 := hid (P2.out.heap E1.out id)
    have z2 := P2.out.size
    have z2' := g2.size
    simp at z2'
    obtain ⟨b2, c2', cur, hv, lb, lb2, hc2, hb2, hcell⟩ := o2.at2 HN.out (by omega)
    simp at hv
    obtain ⟨rfl, _, rfl⟩ := hv
    simp at lb
    have O2 := hid o2
    obtain ⟨e1, e2, e3⟩ := rem_cast p q n (by omega) (by omega)
    have hlt : (p + q) % n < n := Nat.mod_lt _ (by omega)
    generalize hidx : (p + q) % n = idx at *
    have HX := hid hidx
    have i0 : (0 : Int) ≤ ((idx : Nat) : Int) := by omega
    have i1 : ((idx : Nat) : Int) < (n : Int) := by omega
    clear hidx o2 k1
    have F4 := hid (heap_new w2 (.cells #[.slice (some ⟨b2, 0, none⟩) n c2, .int .i64 ((p : Nat) : Int), .int .i64 ((q : Nat) : Int)] 27))
    have G4 := hid (((Chg.refl (fun _ => False) w2).alloc (.cells #[.slice (some ⟨b2, 0, none⟩) n c2, .int .i64 ((p : Nat) : Int), .int .i64 ((q : Nat) : Int)] 27)).mono (S := fun k => k = w2.heap.size) fun _ _ h => h.elim)
    have lL : w2.heap.size + 1 ≤ (w2.alloc (.cells #[.slice (some ⟨b2, 0, none⟩) n c2, .int .i64 ((p : Nat) : Int), .int .i64 ((q : Nat) : Int)] 27)).heap.size := by simp
    generalize hW : w2.alloc (.cells #[.slice (some ⟨b2, 0, none⟩) n c2, .int .i64 ((p : Nat) : Int), .int .i64 ((q : Nat) : Int)] 27) = w4 at *
    clear hW
    have hb4 := G4.out.heap hb2 (fun e => by omega)
    have E4 := hid (G4.out.heap F2.out (fun e => by omega))
    have O4 := hid (O2.out.chg G4.out (fun k hk _ e => by simp at hk; omega))
    have j4 : w4.cell? ⟨b2, idx, none⟩ = some (cx (xs.getD idx (0, 0))) := by rw [cell_at hb4, hcell _ hlt]
    have f4 : w4.frozen? ⟨b2, idx, none⟩ = false := free_at hb4
    have m4 := cells_at F4.out
    have n4 := frees_at F4.out
    have k2' := cells_at E4.out
    have l2' := frees_at E4.out
    clear hb2 hb4 hcell
    have nb : w.heap.size + 1 ≠ b2 := by omega
    have nb' : b2 ≠ w.heap.size + 1 := by omega
    have nc : w.heap.size + 1 ≠ w2.heap.size := by omega
    have nc' : w2.heap.size ≠ w.heap.size + 1 := by omega
    have nz : ¬ n = 0 := by omega
    have nz' : ¬ (n : Int) = 0 := by omega
    have nd : w2.heap.size ≠ b2 := by omega
    have nd' : b2 ≠ w2.heap.size := by omega
    clear hn'
    go_wp2_with fail
    go_region_held3 (fun w' => w'.cell? ⟨w2.heap.size, 0, none⟩ = some (.slice (some ⟨b2, 0, none⟩) n c2) ∧ w'.cell? ⟨w2.heap.size, 1, none⟩ = some (.int .i64 (p : Int)) ∧ w'.cell? ⟨w2.heap.size, 2, none⟩ = some (.int .i64 (q : Int))) (first | assumption | go_keep) (fail)
    go_wp2_with fail
    refine bodyPost_ret (v := .tuple #[.agg #[.slice (some ⟨b2, 0, none⟩) n c2, .int .i64 ((p : Nat) : Int), .int .i64 ((q : Int) + 1)], .complex .f32 0 0, .bool true]) (by simp [results, Try.results63, go_sem, k2']) rfl ?_
    have law := push_law z HN.out HK.out hroom
    rw [HX.out, HI.out] at law
    have OP := (HN.out ▸ O4.out : OwnC w4 _ (.slice (some ⟨b2, 0, none⟩) n c2) xs).put idx (by have := HN.out; omega) z
    have GW : Chg (fun k => k = w2.heap.size ∨ k = w.heap.size + 1) (w4.setCell ⟨b2, idx, none⟩ (cx z)) _ := (((((Chg.refl (fun k => k = w2.heap.size ∨ k = w.heap.size + 1) (w4.setCell ⟨b2, idx, none⟩ (cx z))).setCell (p := ⟨w2.heap.size, 2, none⟩) (.inl (.inl rfl)) (.int .i64 ((q : Int) + 1))).setCell (p := ⟨w.heap.size + 1, 0, none⟩) (.inl (.inr rfl)) (.slice (some ⟨b2, 0, none⟩) n c2)).setCell (p := ⟨w.heap.size + 1, 1, none⟩) (.inl (.inr rfl)) (.int .i64 ((p : Nat) : Int))).setCell (p := ⟨w.heap.size + 1, 2, none⟩) (.inl (.inr rfl)) (.int .i64 ((q : Int) + 1))).drew
    have hl : (is ++ [z]).length = q + 1 := by simp [HQ.out]
    refine ⟨_, rfl, ⟨b2, c2, p, xs.set idx z, ?_, by simpa using HN.out, (OP.chg1 GW fun e => by omega).mono (by simp; omega), by rw [hl]; exact law.1, by rw [hl]; exact law.2⟩, ?_⟩
    · rw [hl]; simp
    · exact (G1.out.trans P2.out fun _ _ h => h).trans ((G4.out.mono (S := fun k => k = b2 ∨ k = w2.heap.size ∨ k = w.heap.size + 1) fun k _ e => .inr (.inl e)).trans (((Chg.refl (fun k => k = b2 ∨ k = w2.heap.size ∨ k = w.heap.size + 1) w4).setCell (p := ⟨b2, idx, none⟩) (.inl (.inl rfl)) (cx z)).trans GW fun _ _ h => .inr h) fun _ _ h => h) (fun k hk e => by omega)
  · have P2 := hid ((((Chg.refl (fun _ => False) w1).alloc (.cells #[.slice none 0 0, .int .i64 0, .int .i64 0] 27)).drew).trans g2 fun _ _ h => h)
    have F2 := hid (P2.out.heap E1.out id)
    have z2 := P2.out.size
    have z2' := g2.size
    simp at z2'
    obtain ⟨b2, c2', cur, hv, lb, lb2, hc2, hb2, hcell⟩ := o2.at2 HN.out (by omega)
    simp at hv
    obtain ⟨rfl, _, rfl⟩ := hv
    simp at lb
    have O2 := hid o2
    obtain ⟨e1, e2, e3⟩ := rem_cast p q n (by omega) (by omega)
    have hlt : (p + q) % n < n := Nat.mod_lt _ (by omega)
    generalize hidx : (p + q) % n = idx at *
    have HX := hid hidx
    have i0 : (0 : Int) ≤ ((idx : Nat) : Int) := by omega
    have i1 : ((idx : Nat) : Int) < (n : Int) := by omega
    clear hidx o2 k1
    have F4 := hid (heap_row3 L2.out (.slice (some ⟨b2, 0, none⟩) n c2) (.int .i64 ((p : Nat) : Int)) (.int .i64 ((q : Nat) : Int)))
    have G4 := hid (chg_row3 w2 w1.heap.size (.slice (some ⟨b2, 0, none⟩) n c2) (.int .i64 ((p : Nat) : Int)) (.int .i64 ((q : Nat) : Int)))
    have lL : True := trivial
    generalize hW : ((w2.setCell ⟨w1.heap.size, 0, none⟩ (.slice (some ⟨b2, 0, none⟩) n c2)).setCell ⟨w1.heap.size, 1, none⟩ (.int .i64 ((p : Nat) : Int))).setCell ⟨w1.heap.size, 2, none⟩ (.int .i64 ((q : Nat) : Int)) = w4 at *
    clear hW
    have hb4 := G4.out.heap hb2 (fun e => by omega)
    have E4 := hid (G4.out.heap F2.out (fun e => by omega))
    have O4 := hid (O2.out.chg G4.out (fun k hk _ e => by simp at hk; omega))
    have j4 : w4.cell? ⟨b2, idx, none⟩ = some (cx (xs.getD idx (0, 0))) := by rw [cell_at hb4, hcell _ hlt]
    have f4 : w4.frozen? ⟨b2, idx, none⟩ = false := free_at hb4
    have m4 := cells_at F4.out
    have n4 := frees_at F4.out
    have k2' := cells_at E4.out
    have l2' := frees_at E4.out
    clear hb2 hb4 hcell
    have nb : w.heap.size + 1 ≠ b2 := by omega
    have nb' : b2 ≠ w.heap.size + 1 := by omega
    have nc : w.heap.size + 1 ≠ w1.heap.size := by omega
    have nc' : w1.heap.size ≠ w.heap.size + 1 := by omega
    have nz : ¬ n = 0 := by omega
    have nz' : ¬ (n : Int) = 0 := by omega
    have nd : w1.heap.size ≠ b2 := by omega
    have nd' : b2 ≠ w1.heap.size := by omega
    clear hn'
    go_wp2_with fail
    go_region_held3 (fun w' => w'.cell? ⟨w1.heap.size, 0, none⟩ = some (.slice (some ⟨b2, 0, none⟩) n c2) ∧ w'.cell? ⟨w1.heap.size, 1, none⟩ = some (.int .i64 (p : Int)) ∧ w'.cell? ⟨w1.heap.size, 2, none⟩ = some (.int .i64 (q : Int))) (first | assumption | go_keep) (fail)
    go_wp2_with fail
    refine bodyPost_ret (v := .tuple #[.agg #[.slice (some ⟨b2, 0, none⟩) n c2, .int .i64 ((p : Nat) : Int), .int .i64 ((q : Int) + 1)], .complex .f32 0 0, .bool true]) (by simp [results, Try.results63, go_sem, k2']) rfl ?_
    have law := push_law z HN.out HK.out hroom
    rw [HX.out, HI.out] at law
    have OP := (HN.out ▸ O4.out : OwnC w4 _ (.slice (some ⟨b2, 0, none⟩) n c2) xs).put idx (by have := HN.out; omega) z
    have GW : Chg (fun k => k = w1.heap.size ∨ k = w.heap.size + 1) (w4.setCell ⟨b2, idx, none⟩ (cx z)) _ := (((((Chg.refl (fun k => k = w1.heap.size ∨ k = w.heap.size + 1) (w4.setCell ⟨b2, idx, none⟩ (cx z))).setCell (p := ⟨w1.heap.size, 2, none⟩) (.inl (.inl rfl)) (.int .i64 ((q : Int) + 1))).setCell (p := ⟨w.heap.size + 1, 0, none⟩) (.inl (.inr rfl)) (.slice (some ⟨b2, 0, none⟩) n c2)).setCell (p := ⟨w.heap.size + 1, 1, none⟩) (.inl (.inr rfl)) (.int .i64 ((p : Nat) : Int))).setCell (p := ⟨w.heap.size + 1, 2, none⟩) (.inl (.inr rfl)) (.int .i64 ((q : Int) + 1))).drew
    have hl : (is ++ [z]).length = q + 1 := by simp [HQ.out]
    refine ⟨_, rfl, ⟨b2, c2, p, xs.set idx z, ?_, by simpa using HN.out, (OP.chg1 GW fun e => by omega).mono (by simp; omega), by rw [hl]; exact law.1, by rw [hl]; exact law.2⟩, ?_⟩
    · rw [hl]; simp
    · exact (G1.out.trans P2.out fun _ _ h => h).trans ((G4.out.mono (S := fun k => k = b2 ∨ k = w1.heap.size ∨ k = w.heap.size + 1) fun k _ e => .inr (.inl e)).trans (((Chg.refl (fun k => k = b2 ∨ k = w1.heap.size ∨ k = w.heap.size + 1) w4).setCell (p := ⟨b2, idx, none⟩) (.inl (.inl rfl)) (cx z)).trans GW fun _ _ h => .inr h) fun _ _ h => h) (fun k hk e => by omega)
end Go.Proofs.Ytopkehknaclhlaa
