/- The law on NewDelay, walked: for every n the program's delay is the reference's, bears marks of its own, and is new each time. No condition. -/
import Derived.Test.YtopkehknaclhlaaZs
namespace Go.Proofs.Ytopkehknaclhlaa
open Go Go.RowKit

theorem own_zeros {w : World} {b n : Nat} (h : w.heap[b]? = some (.cells (Array.replicate n (.complex .f32 0 0)) 33 (0, 0))) (hn : n ≤ 16) : OwnC w 0 (.slice (some ⟨b, 0, none⟩) n n) (List.replicate n (0, 0)) := by
  refine ⟨by simp, .inr ⟨b, n, _, by simp, Nat.zero_le _, h, by simp, by unfold maxLen; omega, by simp, ?_⟩⟩
  simp [cx]

theorem ok_zeros (n : Nat) (h1 : 1 ≤ n) (h2 : n ≤ 16) : OkRing (List.replicate n (0, 0)) 0 n := by
  refine ⟨by simp; omega, by simp; omega, by simp; omega, by simp, fun i hi hl => ?_⟩
  simp at hl
  omega

/-- A new delay comes back, and true. -/
def RDel (w : World) (n : Nat) (e : Ending) (w' : World) : Prop :=
  ∃ b c, w.heap.size ≤ b ∧ e = .returned (.tuple #[.agg #[.int .i64 (4), .complex .f32 0 0, .complex .f32 0 0, .float .f32 0, .slice (some ⟨b, 0, none⟩) n c, .int .i64 (0), .int .i64 (n), .slice none 0 0, .slice none 0 0, .int .i64 (0), .int .i64 (0)], .bool true]) ∧ Zs w' b n ∧ Chg (fun _ => False) w w'

theorem RDel.mk {w W : World} {n b c : Nat} (hb : w.heap.size ≤ b) (hz : Zs W b n) (g : Chg (fun _ => False) w W) : RDel w n (.returned (.tuple #[.agg #[.int .i64 (4), .complex .f32 0 0, .complex .f32 0 0, .float .f32 0, .slice (some ⟨b, 0, none⟩) n c, .int .i64 (0), .int .i64 (n), .slice none 0 0, .slice none 0 0, .int .i64 (0), .int .i64 (0)], .bool true])) W := ⟨b, c, hb, rfl, hz, g⟩

theorem zs_of_own {w : World} {base : Nat} {a : Option Addr} {n c : Nat} (h1 : 1 ≤ n) (h : OwnC w base (.slice a (List.replicate n ((0, 0) : Nat × Nat)).length c) (List.replicate n (0, 0))) : ∃ g, a = some ⟨g, 0, none⟩ ∧ base ≤ g ∧ Zs w g n := by
  rcases h.rd (n := n) (by simp) with ⟨_, h0⟩ | ⟨g, cap, cur, hv, hb, hh, hc, hm, hs, hcell⟩
  · omega
  · simp at hv
    exact ⟨g, hv.1, hb, cur, hh, hs, fun k hk => hcell k (0, 0) (by simp [hk])⟩

set_option maxRecDepth 100000 in
set_option maxHeartbeats 2000000 in
theorem NewDelay_yes (w : World) (n : Nat) (h1 : 1 ≤ n) (h2 : n ≤ 16) : Calls Try.prog 39 #[.int .i64 (n : Int)] w (RDel w n) := by
  go_enter Try.func39, Try.ntmps39
  go_wp2_with fail
  refine (NewRing_yes _ n h1 h2).mono ?_
  rintro e w1 ⟨b1, l1, rfl, hb1, g1⟩
  have HB1 := hid hb1
  have q1 := heap_lt hb1
  have z1 := g1.size
  simp at z1 l1
  clear hb1
  go_wp2_with fail
  have G : Chg (fun k => k = w1.heap.size) w1 _ := ((Chg.refl (fun k => k = w1.heap.size) w1).alloc (.cells #[.slice (some ⟨b1, 0, none⟩) n n, .int .i64 0, .int .i64 (n : Int)] 27))
  refine (checked_yes _ 4 0 0 0 0 0 _ 0 n _ _ 0 0 (List.replicate n (0, 0)) [] [] (by simp; omega) (by decide) (by decide) (own_zeros (G.heap HB1.out (by omega)) h2) (OwnC.nil _ _) (OwnI.nil _ _) (fun w' g' => IsModule_delay w' b1 n n 0 (List.replicate n (0, 0)) (by simp) ((own_zeros (G.heap HB1.out (by omega)) h2).chg g' fun _ _ _ h => h) (ok_zeros n h1 h2))).mono ?_
  rintro e w2 ⟨b2, d2, b3, d3, b4, d4, rfl, o1, o2, o3, m1, m2, m3, g2⟩
  obtain ⟨rfl, rfl⟩ := m2 rfl
  obtain ⟨rfl, rfl⟩ := m3 rfl
  obtain ⟨g, rfl, lg, hz⟩ := zs_of_own h1 o1
  clear o1 o2 o3 m1 m2 m3
  simp only [List.length_replicate, List.length_nil]
  have F1 := hid (g2.heap ((g1.heap (heap_new w _) id) |> fun h => G.heap h (by omega)) id)
  have k1 := cells_at F1.out
  have f1 := frees_at F1.out
  have z2 := g2.size
  simp at z2 lg
  go_wp2_with fail
  refine bodyPost_ret (results_row_tmp (by rfl) _ _ _ w.heap.size _ (.bool true) rfl (load_mod (heap_row11 F1.out _ _ _ _ _ _ _ _ _ _ _) rfl) rfl) rfl ?_
  refine RDel.mk (by omega) (hz.chg (S := fun k => k = w.heap.size) ?_ (by omega)) ((((Chg.refl (fun _ => False) w).alloc _).trans g1 fun _ _ h => h).trans (((Chg.refl (fun k => k = w1.heap.size) w1).alloc _).trans g2 fun _ _ h => h.elim) (fun k hk e => by omega) |>.trans (T := fun k => k = w.heap.size) ?_ fun k hk e => by omega)
  all_goals repeat (first | (with_reducible exact Chg.refl _ _) | (with_reducible refine Chg.setCell ?_ ?_ _; rotate_left; exact .inl rfl))

set_option maxHeartbeats 1000000 in
theorem IsRing_nil (w : World) : Calls Try.prog 119 #[.agg #[.slice none 0 0, .int .i64 0, .int .i64 0]] w (RFalse w) := by
  go_enter Try.func119, Try.ntmps119
  go_wp2
  go_ret
  exact ⟨rfl, (Chg.refl _ w).alloc _⟩

set_option maxRecDepth 100000 in
set_option maxHeartbeats 4000000 in
theorem IsModule_delay_no (w : World) : Calls Try.prog 121 #[.agg #[.int .i64 (4), .complex .f32 0 0, .complex .f32 0 0, .float .f32 0, .slice none 0 0, .int .i64 (0), .int .i64 (0), .slice none 0 0, .slice none 0 0, .int .i64 (0), .int .i64 (0)]] w (RFalse w) := by
  go_enter Try.func121, Try.ntmps121
  go_wp2_with fail
  refine wp_region_any (by kernel_rfl) ?_
  change wpAny _ _ _ _ _ _ _ (World.drew _)
  refine wpAny_take (i := 0) (v := ?_) rfl (by kernel_rfl) (by kernel_rfl) (by kernel_rfl) (fun _ _ _ h => h) (Or.inl ⟨by kernel_rfl, ?_⟩) ?_
  rotate_left
  · (intro w; go_simp) <;> with_reducible rfl
  simp only [Act.put, List.setIfInBounds_toArray, List.set_cons_zero, List.set_cons_succ, List.getElem_toArray, List.getElem_cons_zero, List.getElem_cons_succ]
  refine wpAny_take (i := 1) (v := ?_) rfl (by kernel_rfl) (by kernel_rfl) (by kernel_rfl) (fun _ _ _ h => h) (Or.inl ⟨by kernel_rfl, ?_⟩) ?_
  rotate_left
  · (intro w; go_simp) <;> with_reducible rfl
  simp only [Act.put, List.setIfInBounds_toArray, List.set_cons_zero, List.set_cons_succ, List.getElem_toArray, List.getElem_cons_zero, List.getElem_cons_succ]
  refine wpAny_take (i := 14) (v := ?_) rfl (by kernel_rfl) (by kernel_rfl) (by kernel_rfl) (fun _ _ _ h => h) (Or.inl ⟨by kernel_rfl, ?_⟩) ?_
  rotate_left
  · (intro w; go_simp) <;> with_reducible rfl
  simp only [Act.put, List.setIfInBounds_toArray, List.set_cons_zero, List.set_cons_succ, List.getElem_toArray, List.getElem_cons_zero, List.getElem_cons_succ]
  refine wpAny_ready (rs := [2]) (by kernel_rfl) (by simp) ?_
  refine AllReady.cons rfl (fun K hK => ?_) AllReady.nil
  go_simp
  refine hK _ _ ?_; clear hK K
  refine wpAny_ready (rs := [3]) (by kernel_rfl) (by simp) ?_
  refine AllReady.cons rfl (fun K hK => ?_) AllReady.nil
  go_simp
  go_wp2_with (first | (go_at_call 119; refine (IsRing_nil _).mono ?_; rintro e w1 ⟨rfl, g1⟩; have F1 := hid (g1.heap (heap_old (heap_new w _)) id); have F2 := hid (g1.heap (heap_new' (w := w.alloc _) (b := w.heap.size + 1) (by simp)) id); have k1 := cells_at F1.out; have k2 := cells_at F2.out; have f2 := frees_at F2.out; have z1 := g1.size; simp at z1))
  refine wpAny_take (i := 4) (v := ?_) rfl (by kernel_rfl) (by kernel_rfl) (by kernel_rfl) (fun _ _ _ h => h) (Or.inl ⟨by kernel_rfl, ?_⟩) ?_
  rotate_left
  · (intro w; go_simp) <;> with_reducible rfl
  simp only [Act.put, List.setIfInBounds_toArray, List.set_cons_zero, List.set_cons_succ, List.getElem_toArray, List.getElem_cons_zero, List.getElem_cons_succ]
  refine wpAny_take (i := 5) (v := undef) rfl (by kernel_rfl) (by kernel_rfl) (by kernel_rfl) (fun _ _ _ h => h) (Or.inr ⟨by kernel_rfl, rfl⟩) ?_
  simp only [Act.put, List.setIfInBounds_toArray, List.set_cons_zero, List.set_cons_succ, List.getElem_toArray, List.getElem_cons_zero, List.getElem_cons_succ]
  refine wpAny_take (i := 6) (v := undef) rfl (by kernel_rfl) (by kernel_rfl) (by kernel_rfl) (fun _ _ _ h => h) (Or.inr ⟨by kernel_rfl, rfl⟩) ?_
  simp only [Act.put, List.setIfInBounds_toArray, List.set_cons_zero, List.set_cons_succ, List.getElem_toArray, List.getElem_cons_zero, List.getElem_cons_succ]
  refine wpAny_take (i := 7) (v := undef) rfl (by kernel_rfl) (by kernel_rfl) (by kernel_rfl) (fun _ _ _ h => h) (Or.inr ⟨by kernel_rfl, rfl⟩) ?_
  simp only [Act.put, List.setIfInBounds_toArray, List.set_cons_zero, List.set_cons_succ, List.getElem_toArray, List.getElem_cons_zero, List.getElem_cons_succ]
  refine wpAny_take (i := 8) (v := undef) rfl (by kernel_rfl) (by kernel_rfl) (by kernel_rfl) (fun _ _ _ h => h) (Or.inr ⟨by kernel_rfl, rfl⟩) ?_
  simp only [Act.put, List.setIfInBounds_toArray, List.set_cons_zero, List.set_cons_succ, List.getElem_toArray, List.getElem_cons_zero, List.getElem_cons_succ]
  refine wpAny_take (i := 9) (v := undef) rfl (by kernel_rfl) (by kernel_rfl) (by kernel_rfl) (fun _ _ _ h => h) (Or.inr ⟨by kernel_rfl, rfl⟩) ?_
  simp only [Act.put, List.setIfInBounds_toArray, List.set_cons_zero, List.set_cons_succ, List.getElem_toArray, List.getElem_cons_zero, List.getElem_cons_succ]
  refine wpAny_take (i := 10) (v := undef) rfl (by kernel_rfl) (by kernel_rfl) (by kernel_rfl) (fun _ _ _ h => h) (Or.inr ⟨by kernel_rfl, rfl⟩) ?_
  simp only [Act.put, List.setIfInBounds_toArray, List.set_cons_zero, List.set_cons_succ, List.getElem_toArray, List.getElem_cons_zero, List.getElem_cons_succ]
  refine wpAny_take (i := 11) (v := undef) rfl (by kernel_rfl) (by kernel_rfl) (by kernel_rfl) (fun _ _ _ h => h) (Or.inr ⟨by kernel_rfl, rfl⟩) ?_
  simp only [Act.put, List.setIfInBounds_toArray, List.set_cons_zero, List.set_cons_succ, List.getElem_toArray, List.getElem_cons_zero, List.getElem_cons_succ]
  refine wpAny_take (i := 12) (v := undef) rfl (by kernel_rfl) (by kernel_rfl) (by kernel_rfl) (fun _ _ _ h => h) (Or.inr ⟨by kernel_rfl, rfl⟩) ?_
  simp only [Act.put, List.setIfInBounds_toArray, List.set_cons_zero, List.set_cons_succ, List.getElem_toArray, List.getElem_cons_zero, List.getElem_cons_succ]
  refine wpAny_take (i := 13) (v := ?_) rfl (by kernel_rfl) (by kernel_rfl) (by kernel_rfl) (fun _ _ _ h => h) (Or.inl ⟨by kernel_rfl, ?_⟩) ?_
  rotate_left
  · (intro w; go_simp) <;> with_reducible rfl
  simp only [Act.put, List.setIfInBounds_toArray, List.set_cons_zero, List.set_cons_succ, List.getElem_toArray, List.getElem_cons_zero, List.getElem_cons_succ]
  refine wpAny_ready (rs := [15]) (by kernel_rfl) (by simp) ?_
  refine AllReady.cons rfl (fun K hK => ?_) AllReady.nil
  go_simp
  refine hK _ _ ?_; clear hK K
  refine wpAny_take (i := 16) (v := ?_) rfl (by kernel_rfl) (by kernel_rfl) (by kernel_rfl) (fun _ _ _ h => h) (Or.inl ⟨by kernel_rfl, ?_⟩) ?_
  rotate_left
  · (intro w; go_simp) <;> with_reducible rfl
  simp only [Act.put, List.setIfInBounds_toArray, List.set_cons_zero, List.set_cons_succ, List.getElem_toArray, List.getElem_cons_zero, List.getElem_cons_succ]
  refine wpAny_done (by kernel_rfl) ?_ _
  clear k1
  go_wp2_with fail
  go_ret
  refine ⟨rfl, ?_⟩
  refine ((((Chg.refl (fun _ => False) w).alloc _).alloc _).drew.trans g1 fun _ _ h => h).trans (T := fun k => k = w.heap.size + 1) ?_ fun k hk e => by omega
  repeat (first | (with_reducible exact Chg.refl _ _) | (with_reducible refine Chg.setCell ?_ ?_ _; rotate_left; exact .inl rfl))

set_option maxRecDepth 100000 in
set_option maxHeartbeats 2000000 in
theorem NewDelay_no (w : World) (n : Int) (h : ¬ (1 ≤ n ∧ n ≤ 16)) : Calls Try.prog 39 #[.int .i64 n] w (RChk0 w) := by
  have H := hid h
  clear h
  go_enter Try.func39, Try.ntmps39
  go_wp2_with fail
  refine (NewRing_no _ n H.out).mono ?_
  rintro e w1 ⟨rfl, g1⟩
  have z1 := g1.size
  simp at z1
  go_wp2_with fail
  have G : Chg (fun k => k = w1.heap.size) w1 _ := ((Chg.refl (fun k => k = w1.heap.size) w1).alloc (.cells #[.slice none 0 0, .int .i64 0, .int .i64 0] 27))
  refine (checked_no _ 4 0 0 0 0 0 none 0 0 0 0 none 0 0 none 0 0 0 0 (fun w' _ => IsModule_delay_no w')).mono ?_
  rintro e w2 ⟨rfl, g2⟩
  have F1 := hid (g2.heap ((g1.heap (heap_new w _) id) |> fun h => G.heap h (by omega)) id)
  have k1 := cells_at F1.out
  have f1 := frees_at F1.out
  have z2 := g2.size
  simp at z2
  go_wp2_with fail
  refine bodyPost_ret (results_row_tmp (by rfl) _ _ _ w.heap.size _ (.bool false) rfl (load_mod (heap_row11 F1.out _ _ _ _ _ _ _ _ _ _ _) rfl) rfl) rfl ⟨rfl, ?_⟩
  refine ((((Chg.refl (fun _ => False) w).alloc _).trans g1 fun _ _ h => h).trans (((Chg.refl (fun k => k = w1.heap.size) w1).alloc _).trans g2 fun _ _ h => h.elim) (fun k hk e => by omega) |>.trans (T := fun k => k = w.heap.size) ?_ fun k hk e => by omega)
  repeat (first | (with_reducible exact Chg.refl _ _) | (with_reducible refine Chg.setCell ?_ ?_ _; rotate_left; exact .inl rfl))

set_option maxRecDepth 100000 in
set_option maxHeartbeats 2000000 in
theorem specNewDelay_yes (w : World) (n : Nat) (h1 : 1 ≤ n) (h2 : n ≤ 16) : Calls Try.prog 38 #[.int .i64 (n : Int)] w (RDel w n) := by
  go_enter Try.func38, Try.ntmps38
  go_wp2_with fail
  refine (specNewRing_yes _ n h1 h2).mono ?_
  rintro e w1 ⟨b1, l1, rfl, hb1, g1⟩
  have HB1 := hid hb1
  have q1 := heap_lt hb1
  have F1 := hid (g1.heap (heap_new w _) id)
  have k1 := cells_at F1.out
  have f1 := frees_at F1.out
  have F1' := fun o => heap_old (o' := o) F1.out
  have k1' := fun o => cells_at (F1' o)
  have f1' := fun o => frees_at (F1' o)
  clear F1'
  have z1 := g1.size
  simp at z1 l1
  clear hb1
  go_wp2_with fail
  have G : Chg (fun k => k = w1.heap.size) w1 _ := ((Chg.refl (fun k => k = w1.heap.size) w1).alloc (.cells #[.slice (some ⟨b1, 0, none⟩) n n, .int .i64 0, .int .i64 (n : Int)] 27))
  refine bodyPost_ret (results_row_tmp (by rfl) _ _ _ w.heap.size _ (.bool true) rfl (load_mod (heap_row11 (G.heap F1.out (by omega)) _ _ _ _ _ _ _ _ _ _ _) rfl) rfl) rfl ?_
  refine RDel.mk (by omega) (Zs.chg (S := fun k => k = w.heap.size) (w := w1.alloc (.cells #[.slice (some ⟨b1, 0, none⟩) n n, .int .i64 0, .int .i64 (n : Int)] 27)) ⟨_, G.heap HB1.out (by omega), by simp, fun k hk => by simp [hk]⟩ ?_ (by omega)) ((((Chg.refl (fun _ => False) w).alloc _).trans g1 fun _ _ h => h).trans G (fun k hk e => by omega) |>.trans (T := fun k => k = w.heap.size) ?_ fun k hk e => by omega)
  all_goals repeat (first | (with_reducible exact Chg.refl _ _) | (with_reducible refine Chg.setCell ?_ ?_ _; rotate_left; exact .inl rfl))

set_option maxRecDepth 100000 in
set_option maxHeartbeats 2000000 in
theorem specNewDelay_no (w : World) (n : Int) (h : ¬ (1 ≤ n ∧ n ≤ 16)) : Calls Try.prog 38 #[.int .i64 n] w (RChk0 w) := by
  have H := hid h
  clear h
  go_enter Try.func38, Try.ntmps38
  go_wp2_with fail
  refine (specNewRing_no _ n H.out).mono ?_
  rintro e w1 ⟨rfl, g1⟩
  have F1 := hid (g1.heap (heap_new w _) id)
  have k1 := cells_at F1.out
  have f1 := frees_at F1.out
  have F1' := fun o => heap_old (o' := o) F1.out
  have k1' := fun o => cells_at (F1' o)
  have f1' := fun o => frees_at (F1' o)
  clear F1'
  have z1 := g1.size
  simp at z1
  go_wp2_with fail
  have G : Chg (fun k => k = w1.heap.size) w1 _ := ((Chg.refl (fun k => k = w1.heap.size) w1).alloc (.cells #[.slice none 0 0, .int .i64 0, .int .i64 0] 27))
  refine bodyPost_ret (results_row_tmp (by rfl) _ _ _ w.heap.size _ (.bool false) rfl (load_mod (heap_row11 (G.heap F1.out (by omega)) _ _ _ _ _ _ _ _ _ _ _) rfl) rfl) rfl ⟨rfl, ?_⟩
  refine ((((Chg.refl (fun _ => False) w).alloc _).trans g1 fun _ _ h => h).trans G (fun k hk e => by omega) |>.trans (T := fun k => k = w.heap.size) ?_ fun k hk e => by omega)
  repeat (first | (with_reducible exact Chg.refl _ _) | (with_reducible refine Chg.setCell ?_ ?_ _; rotate_left; exact .inl rfl))

set_option maxRecDepth 100000 in
set_option maxHeartbeats 4000000 in
theorem walkFnExactNewDelay (w : World) (n : Int) (_h1 : -9223372036854775808 ≤ n) (_h2 : n ≤ 9223372036854775807) : Calls Try.prog 9 #[.int .i64 n] w (LawPost w) := by
  by_cases h : 1 ≤ n ∧ n ≤ 16
  · obtain ⟨n1, n2⟩ := h
    obtain ⟨n, rfl⟩ := Int.eq_ofNat_of_zero_le (show 0 ≤ n by omega)
    have n1' : 1 ≤ n := by omega
    have n2' : n ≤ 16 := by omega
    go_enter Try.func9, Try.ntmps9
    go_wp2_with fail
    refine (specNewDelay_yes _ n n1' n2').mono ?_
    rintro e w1 ⟨b1, c1, l1, rfl, hb1, g1⟩
    have L1 := hb1.lt
    have HB1 := hid hb1
    clear hb1
    go_wp2_with fail
    refine (NewDelay_yes _ n n1' n2').mono ?_
    rintro e w2 ⟨b2, c2, l2, rfl, hb2, g2⟩
    have L2 := hb2.lt
    have HB2 := hid hb2
    clear hb2
    have A1 := hid (g2.heap (heap_new w1 _) id)
    have s2 : w1.heap.size < w2.heap.size := by have := g2.size; simp at this; omega
    have k1 := cells_at A1.out
    go_wp2_with fail
    refine (eqModule_zs _ b2 b1 n c2 c1 n2' (HB2.out.chg ((Chg.refl (fun _ => False) w2).alloc _) id) (HB1.out.chg ((((Chg.refl (fun _ => False) w1).alloc _).trans g2 fun _ _ h => h).alloc _) id) 4 0 n 0 0 0 0 0 0 0).mono ?_
    rintro e w3 ⟨rfl, g3⟩
    have B3 := hid (g3.heap (heap_new w2 _) id)
    have b3 := cells_at B3.out
    have s3 : w2.heap.size < w3.heap.size := by have := g3.size; simp at this; omega
    have HB3 := hid (HB2.out.chg (((Chg.refl (fun _ => False) w2).alloc _).trans g3 fun _ _ h => h) id)
    clear k1
    obtain ⟨arr, har, has, haz⟩ := HB3.out
    have HA := hid har
    clear har haz
    go_wp2_with fail
    refine (markModule_g _ b2 n c2 n2' arr has HA.out 4 0 n 0 0 1 0 0 0 0 0 (by omega) (by omega)).mono ?_
    rintro e w4 ⟨rfl, hb4, g4⟩
    have HB4 := hid hb4
    clear hb4 b3
    have ne2 : w2.heap.size ≠ b2 := by omega
    have B4 := hid (g4.heap B3.out ne2)
    have b4 := cells_at B4.out
    go_wp2_with fail
    refine (heldModule_g _ b2 n c2 n2' arr has 4 0 n 0 0 1 0 0 0 0 0 (by omega) (by omega) HB4.out).mono ?_
    rintro e w5 ⟨rfl, g5⟩
    have HB5 := hid (g5.heap HB4.out id)
    have B5 := hid (g5.heap B4.out id)
    clear b4
    go_wp2_with fail
    refine (NewDelay_yes _ n n1' n2').mono ?_
    rintro e w6 ⟨b3, c3, l3, rfl, hb6, g6⟩
    have HB6 := hid hb6
    clear hb6
    have l2' : w1.heap.size < b2 := by simp at l2; omega
    have s4 := g4.size
    have s5 := g5.size
    have s6 := g6.size
    have G26 : Chg (fun j => j = b2) w2 w6 := ((((Chg.refl (fun j => j = b2) w2).alloc _).trans g3 fun _ _ h => h.elim).trans g4 fun _ _ h => h).trans (g5.trans g6 fun _ _ h => h) fun _ _ h => h.elim
    have A6 := hid (G26.heap A1.out (by omega))
    have a6 := cells_at A6.out
    have q1 : w1.heap.size < w6.heap.size := by omega
    go_wp2_with fail
    refine (eqModule_zs _ b3 b1 n c3 c1 n2' (HB6.out.chg ((Chg.refl (fun _ => False) w6).alloc _) id) (HB1.out.chg ((((Chg.refl (fun j => j = b2) w1).alloc _).trans g2 fun _ _ h => h.elim).trans (G26.alloc _) (fun _ _ h => h)) (by omega)) 4 0 n 0 0 0 0 0 0 0).mono ?_
    rintro e w7 ⟨rfl, g7⟩
    have G67 := (((g6.trans ((Chg.refl (fun _ => False) w6).alloc _) fun _ _ h => h).trans g7 fun _ _ h => h))
    have B7 := hid (G67.heap B5.out id)
    have HB7 := hid (G67.heap HB5.out id)
    have b7 := cells_at B7.out
    clear a6
    go_wp2_with fail
    refine (heldModule_g _ b2 n c2 n2' arr has 4 0 n 0 0 1 0 0 0 0 0 (by omega) (by omega) HB7.out).mono ?_
    rintro e w8 ⟨rfl, g8⟩
    go_wp2_with fail
    go_ret
    refine ⟨rfl, ?_⟩
    have G18 : Chg (fun j => j = b2) w1 w8 := ((((Chg.refl (fun j => j = b2) w1).alloc _).trans g2 fun _ _ h => h.elim).trans (G26.alloc _) (fun _ _ h => h)).trans (g7.trans g8 fun _ _ h => h) fun _ _ h => h.elim
    have s0 := g1.size
    exact g1.trans G18 fun k hk e => by omega
  · have H := hid h
    clear h
    go_enter Try.func9, Try.ntmps9
    go_wp2_with fail
    refine (specNewDelay_no _ n H.out).mono ?_
    rintro e w1 ⟨rfl, g1⟩
    go_wp2_with fail
    refine (NewDelay_no _ n H.out).mono ?_
    rintro e w2 ⟨rfl, g2⟩
    have A1 := hid (g2.heap (heap_new w1 _) id)
    have s2 : w1.heap.size < w2.heap.size := by have := g2.size; simp at this; omega
    have c1 := cells_at A1.out
    go_wp2_with fail
    refine (eqModule_nil _ 0 0 0 0 0 0 0 0 0 0).mono ?_
    rintro e w3 ⟨rfl, g3⟩
    have B3 := hid (g3.heap (heap_new w2 _) id)
    have b3 := cells_at B3.out
    have s3 : w2.heap.size < w3.heap.size := by have := g3.size; simp at this; omega
    clear c1
    go_wp2_with fail
    refine (markModule_nil _ 0 0 0 0 0 1 0 0 0 0 0).mono ?_
    rintro e w4 ⟨rfl, g4⟩
    have B4 := hid (g4.heap B3.out id)
    have b4 := cells_at B4.out
    clear b3
    go_wp2_with fail
    refine (heldModule_nil _ 0 0 0 0 0 1 0 0 0 0 0 (by omega)).mono ?_
    rintro e w5 ⟨rfl, g5⟩
    have B5 := hid (g5.heap B4.out id)
    clear b4
    go_wp2_with fail
    refine (NewDelay_no _ n H.out).mono ?_
    rintro e w6 ⟨rfl, g6⟩
    have s4 := g4.size
    have s5 := g5.size
    have s6 := g6.size
    have G26 : Chg (fun _ => False) w2 w6 := ((((Chg.refl (fun _ => False) w2).alloc _).trans g3 fun _ _ h => h).trans g4 fun _ _ h => h).trans (g5.trans g6 fun _ _ h => h) fun _ _ h => h
    have A6 := hid (G26.heap A1.out id)
    have a6 := cells_at A6.out
    have q1 : w1.heap.size < w6.heap.size := by omega
    go_wp2_with fail
    refine (eqModule_nil _ 0 0 0 0 0 0 0 0 0 0).mono ?_
    rintro e w7 ⟨rfl, g7⟩
    have G67 := (((g6.trans ((Chg.refl (fun _ => False) w6).alloc _) fun _ _ h => h).trans g7 fun _ _ h => h))
    have B7 := hid (G67.heap B5.out id)
    have b7 := cells_at B7.out
    clear a6
    go_wp2_with fail
    refine (heldModule_nil _ 0 0 0 0 0 1 0 0 0 0 0 (by omega)).mono ?_
    rintro e w8 ⟨rfl, g8⟩
    go_wp2_with fail
    go_ret
    refine ⟨rfl, ?_⟩
    exact (((g1.alloc _).trans g2 fun _ _ h => h).trans (G26.alloc _) fun _ _ h => h).trans (g7.trans g8 fun _ _ h => h) fun _ _ h => h

end Go.Proofs.Ytopkehknaclhlaa
