/- Rings: the items told; what takes from an empty one. Conditions: the ring is valid. -/
import Derived.Test.YtopkehknaclhlaaNb
namespace Go.Proofs.Ytopkehknaclhlaa
open Go Go.RowKit

/-- Nothing comes back. -/
def RTkF (w : World) (e : Ending) (w' : World) : Prop :=
  e = .returned (.tuple #[.agg #[.slice none 0 0, .int .i64 0, .int .i64 0], .complex .f32 0 0, .bool false]) ∧ Chg (fun _ => False) w w'

set_option maxRecDepth 100000 in
set_option maxHeartbeats 2000000 in
theorem TakeRing_no (w : World) (v : Value) (n : Nat) (hr : RgOk w 0 v n []) :
    Calls Try.prog 64 #[v] w (RTkF w) := by
  obtain ⟨g, c, p, xs, rfl, hn, ho, hk, hi⟩ := hr
  have HO := hid ho
  have HK := hid hk
  clear ho hk hi
  simp only [List.length_nil]
  go_enter Try.func64, Try.ntmps64
  go_wp2_with fail
  refine (IsRing_yes _ _ xs p 0 ((HO.out.chg (((Chg.refl (fun _ => False) w).alloc _).alloc _) fun _ _ _ h => h)) HK.out).mono ?_
  rintro e w1 ⟨rfl, g1⟩
  have F1 := hid (g1.heap (heap_old (heap_new w _)) id)
  have F2 := hid (g1.heap (heap_new' (w := w.alloc _) (b := w.heap.size + 1) (by simp)) id)
  have k1 := cells_at F1.out
  have k2 := cells_at F2.out
  have l2 := frees_at F2.out
  have z1 := g1.size
  simp at z1
  go_wp2_with fail
  refine bodyPost_ret (v := .tuple #[.agg #[.slice none 0 0, .int .i64 0, .int .i64 0], .complex .f32 0 0, .bool false]) (by simp [results, Try.results64, go_sem, k2]) rfl ⟨rfl, ?_⟩
  exact ((((Chg.refl (fun _ => False) w).alloc _).alloc _).trans g1 fun _ _ h => h).trans (chg_row3 w1 (w.heap.size + 1) (.slice none 0 0) (.int .i64 0) (.int .i64 0)) fun k hk e => by omega

/-- A list comes back. -/
def RIt (w : World) (is : List (Nat × Nat)) (e : Ending) (w' : World) : Prop :=
  ∃ a c, e = .returned (.slice a is.length c) ∧ OwnC w' w.heap.size (.slice a is.length c) is ∧ Chg (fun _ => False) w w'

set_option maxRecDepth 100000 in
set_option maxHeartbeats 4000000 in
theorem ItemsOf_calls (w : World) (v : Value) (n : Nat) (is : List (Nat × Nat)) (hr : RgOk w 0 v n is) :
    Calls Try.prog 62 #[v] w (RIt w is) := by
  obtain ⟨g, c, p, xs, rfl, hn, ho, hk, hi⟩ := hr
  have HO := hid ho
  have HK := hid hk
  have HI := hid hi
  have hp : p < n := by have := hk.2.2.1; omega
  have n16 : n ≤ 16 := by have := hk.2.1; omega
  have hqn : is.length ≤ n := by have := hk.2.2.2.1; omega
  clear ho hk hi
  generalize hq : is.length = q at *
  have HN := hid hn
  have HQ := hid hq
  clear hn hq
  go_enter Try.func62, Try.ntmps62
  go_wp2_with fail
  refine (IsRing_yes _ _ xs p q ((HO.out.chg (((Chg.refl (fun _ => False) w).alloc _)) fun _ _ _ h => h)) HK.out).mono ?_
  rintro e w1 ⟨rfl, g1⟩
  have F1 := hid (g1.heap (heap_new w _) id)
  have k1 := cells_at F1.out
  have z1 := g1.size
  simp at z1
  have O1 := hid (HO.out.chg (((Chg.refl (fun _ => False) w).alloc _).trans g1 fun _ _ h => h) fun _ _ _ h => h)
  have G1 := hid (((Chg.refl (fun _ => False) w).alloc _).trans g1 fun _ _ h => h)
  have W0 := hid (OwnC.lit w1 [] 33 rfl (by simp) (Nat.le_refl w1.heap.size) #[] rfl)
  have hg := HO.out.own_lt (n := g) rfl
  have F1' := fun o => heap_old (o' := o) F1.out
  have k1' := fun o => cells_at (F1' o)
  have GA := hid ((Chg.refl (fun _ => False) w1).alloc (.cells #[] 33))
  clear F1'
  go_wp2_with fail
  go_loopw [3, 11] (fun s i wr => ∃ (a : Option Addr) (cap k : Nat) (ys : List (Nat × Nat)), k ≤ q ∧ i = .int .i64 (k : Int) ∧ s = .slice a k cap ∧ Hid (ys.length = k) ∧ Hid (ys = is.take k) ∧ Hid (OwnC wr w1.heap.size (.slice a k cap) ys) ∧ Hid (Chg (fun _ => False) w1 wr)) (fun _ i _ => q - (intOf i).toNat)
  case atStart => exact ⟨_, _, 0, [], by omega, rfl, rfl, hid rfl, hid rfl, W0, GA⟩
  case round =>
    obtain ⟨a, cap, k, ys, hk, rfl, rfl, HL, HY, HW, G⟩ := hrel
    clear W0 GA k1 k1' g1
    have z0 := G.out.size
    by_cases hlt : k < q
    · have hlt' : (k : Int) < (q : Int) := by omega
      obtain ⟨e1, e2, e3⟩ := rem_cast p k n (by omega) (by omega)
      have hix : (p + k) % n < n := Nat.mod_lt _ (by omega)
      have FR := hid (G.out.heap F1.out id)
      have OR := hid (O1.out.chg1 G.out id)
      obtain ⟨b2, c2', cur, hv, lb, lb2, hc2, hb2, hcell⟩ := OR.out.at2 HN.out (by omega)
      simp at hv
      obtain ⟨rfl, rfl⟩ := hv
      have jc : wr.cell? ⟨g, (p + k) % n, none⟩ = some (.complex .f32 (xs.getD ((p + k) % n) (0, 0)).1 (xs.getD ((p + k) % n) (0, 0)).2) := by rw [cell_at hb2, hcell _ hix]; rfl
      have hit : is[k]? = some (xs.getD ((p + k) % n) (0, 0)) := by
        have h1 := HI.out
        have h2 := HN.out
        rw [← h1]
        simp [items, hlt, h2]
      generalize xs.getD ((p + k) % n) (0, 0) = el at *
      generalize hidx : (p + k) % n = idx at *
      clear hidx hcell hb2
      have i0 : (0 : Int) ≤ ((idx : Nat) : Int) := by omega
      have i1 : ((idx : Nat) : Int) < (n : Int) := by omega
      have nz : ¬ n = 0 := by omega
      have nz' : ¬ (n : Int) = 0 := by omega
      have HIT := hid hit
      clear hit
      have kr := cells_at FR.out
      have HA := hid ((HW.out.chg ((Chg.refl (fun _ => False) wr).alloc (.cells #[.complex .f32 el.1 el.2] 33)).drew (fun _ _ _ h => h)))
      have HU : OwnC (wr.alloc (.cells #[.complex .f32 el.1 el.2] 33)).drew 0 (.slice (some ⟨wr.heap.size, 0, none⟩) 1 1) [el] := OwnC.lit wr [el] _ rfl (by simp) (Nat.zero_le _) #[.complex .f32 el.1 el.2] rfl
      have HU' := hid HU
      clear HU
      have FR' := hid (show (wr.alloc (.cells #[.complex .f32 el.1 el.2] 33)).drew.heap[w.heap.size]? = _ from heap_old FR.out)
      have jc' := hid (show (wr.alloc (.cells #[.complex .f32 el.1 el.2] 33)).drew.cell? ⟨g, idx, none⟩ = _ from ((Chg.refl (fun _ => False) wr).alloc (.cells #[.complex .f32 el.1 el.2] 33)).cell jc id)
      go_wp2_with fail
      go_region_held3 (fun w' => w'.cell? ⟨w.heap.size, 0, none⟩ = some (.slice (some ⟨g, 0, none⟩) n c) ∧ w'.cell? ⟨w.heap.size, 1, none⟩ = some (.int .i64 (p : Int)) ∧ w'.cell? ⟨w.heap.size, 2, none⟩ = some (.int .i64 (q : Int)) ∧ w'.cell? ⟨g, idx, none⟩ = some (.complex .f32 el.1 el.2))
        (first | assumption | (exact ⟨cell_at FR'.out, cell_at FR'.out, cell_at FR'.out, jc'.out⟩) | (exact ⟨cell_at (hG.heap FR'.out hno), cell_at (hG.heap FR'.out hno), cell_at (hG.heap FR'.out hno), hG.cell jc'.out hno2⟩) | go_keep)
        ((refine step_app rfl _ _ (by rfl) w1.heap.size _ _ ys [el] (by rfl) HA.out (by rfl) HU'.out (by rw [HL.out]; simp; omega) (by simp; omega) ?_; intro a' c' w' hO hG; simp only [HL.out, List.length_cons, List.length_nil, Nat.zero_add] at hO ⊢; have hno : ¬ (some w.heap.size = (Value.slice a k cap).ownBlock) := (fun e => by have := HA.out.own_lt e; omega); have hno2 : ¬ (some g = (Value.slice a k cap).ownBlock) := (fun e => by have := HA.out.own_lt e; omega)))
      rename_i hHeld
      clear hHeld
      have HT := hid (show ys ++ [el] = is.take (k + 1) by rw [HY.out, List.take_add_one, HIT.out]; rfl)
      have HL' := hid (show (ys ++ [el]).length = k + 1 by simp [HL.out])
      have HO' := hid hO
      have G' := hid (G.out.trans (((Chg.refl (fun n => some n = (Value.slice a k cap).ownBlock) wr).alloc (.cells #[.complex .f32 el.1 el.2] 33)).drew.trans hG fun _ _ h => h) (fun n h1 h2 => by have := HW.out.own_lt h2; omega))
      clear hO hG
      go_wp2
      go_roundw
      case rel => exact ⟨a', c', k + 1, ys ++ [el], by omega, by go_num, rfl, HL', HT, HO', G'⟩
      case measure => simp [intOf]; omega
    · obtain rfl : k = q := by omega
      have hlt' : ¬ (k : Int) < (k : Int) := by omega
      go_wp2
      go_ret
      obtain rfl : ys = is := by rw [HY.out, ← HQ.out, List.take_length]
      exact ⟨a, cap, by rw [HQ.out]; rfl, by rw [HQ.out]; exact HW.out.mono (by omega), G1.out.trans G.out fun _ _ h => h⟩
end Go.Proofs.Ytopkehknaclhlaa

/- The program's rings: what pushes. Conditions: the ring is valid. -/
namespace Go.Proofs.Ytopkehknaclhlaa
open Go Go.RowKit

set_option maxRecDepth 100000 in
set_option maxHeartbeats 4000000 in
theorem PushRing_full (w : World) (v : Value) (n : Nat) (z y : Nat × Nat) (is : List (Nat × Nat)) (hr : RgOk w 0 v n (y :: is)) (hfull : is.length + 1 = n) :
    Calls Try.prog 63 #[v, .complex .f32 z.1 z.2] w (RTkT w n y (is ++ [z])) := by
  obtain ⟨g, c, p, xs, rfl, hn, ho, hk, hi⟩ := hr
  have HO := hid ho
  have HK := hid hk
  have HI := hid hi
  have hp : p < n := by have := hk.2.2.1; omega
  have n16 : n ≤ 16 := by have := hk.2.1; omega
  clear ho hk hi
  have hq : (y :: is).length = n := by simpa using hfull
  rw [hq] at HK HI
  have HN := hid hn
  have HQ := hid hq
  have HF := hid hfull
  rw [hq]
  clear hn hq hfull
  have hn' := HN.out
  go_enter Try.func63, Try.ntmps63
  go_wp2_with fail
  refine (IsRing_yes _ _ xs p n ((HO.out.chg (((Chg.refl (fun _ => False) w).alloc _).alloc _) fun _ _ _ h => h)) HK.out).mono ?_
  rintro e w1 ⟨rfl, g1⟩
  have F1 := hid (g1.heap (heap_old (heap_new w _)) id)
  have E1 := hid (g1.heap (heap_new' (w := w.alloc _) (b := w.heap.size + 1) (by simp)) id)
  have O1 := hid (HO.out.chg ((((Chg.refl (fun _ => False) w).alloc _).alloc _).trans g1 fun _ _ h => h) fun _ _ _ h => h)
  have k1 := cells_at F1.out
  have z1 := g1.size
  simp at z1
  have G1 := hid ((((Chg.refl (fun _ => False) w).alloc _).alloc _).trans g1 fun _ _ h => h)
  clear g1
  have n1 : w1.heap.size ≠ w.heap.size := by omega
  have n1' : w.heap.size ≠ w1.heap.size := by omega
  go_wp2_with fail
  go_region_held3 (fun w' => w'.cell? ⟨w.heap.size, 0, none⟩ = some (.slice (some ⟨g, 0, none⟩) n c) ∧ w'.cell? ⟨w.heap.size, 1, none⟩ = some (.int .i64 (p : Int)) ∧ w'.cell? ⟨w.heap.size, 2, none⟩ = some (.int .i64 (n : Int))) (first | assumption | (exact ⟨cell_at H2.out, cell_at H2.out, cell_at H2.out⟩) | (exact ⟨cell_at (heap_old H2.out), cell_at (heap_old H2.out), cell_at (heap_old H2.out)⟩) | (exact ⟨cell_at (heap_old (w := w1) F1.out), cell_at (heap_old (w := w1) F1.out), cell_at (heap_old (w := w1) F1.out)⟩) | (exact ⟨cell_at ((chg_row3 _ w1.heap.size _ _ _).heap H2.out n1'), cell_at ((chg_row3 _ w1.heap.size _ _ _).heap H2.out n1'), cell_at ((chg_row3 _ w1.heap.size _ _ _).heap H2.out n1')⟩) | go_keep)
    (first
      | (go_at_call 120; refine (copyRing_calls w1.drew _ _ _ xs (by omega) (O1.out.chg (Chg.refl (fun _ => False) w1).drew fun _ _ _ h => h)).mono ?_; rintro e w2 ⟨a2, c2, rfl, o2, m2, g2⟩; have H2 := hid ((((Chg.refl (fun _ => False) w1).drew).trans g2 fun _ _ h => h).heap F1.out id); have h2 := World.new_ne w2 _ (cell_at (k := 0) H2.out))
      | (go_at_call 120; refine (copyRing_calls (w1.alloc (.cells #[.slice none 0 0, .int .i64 0, .int .i64 0] 27)).drew _ _ _ xs (by omega) (O1.out.chg ((Chg.refl (fun _ => False) w1).alloc (.cells #[.slice none 0 0, .int .i64 0, .int .i64 0] 27)).drew fun _ _ _ h => h)).mono ?_; rintro e w2 ⟨a2, c2, rfl, o2, m2, g2⟩; have H2 := hid ((((Chg.refl (fun _ => False) w1).alloc (.cells #[.slice none 0 0, .int .i64 0, .int .i64 0] 27)).drew.trans g2 fun _ _ h => h).heap F1.out id); have L2 := hid (g2.heap (show (w1.alloc (.cells #[.slice none 0 0, .int .i64 0, .int .i64 0] 27)).drew.heap[w1.heap.size]? = _ from heap_new w1 _) id); have l2 := cells_at L2.out; have l3 := frees_at L2.out; have h2 := World.new_ne w2 _ (cell_at (k := 0) H2.out)))
  · have P2 := hid (((Chg.refl (fun _ => False) w1).drew).trans g2 fun _ _ h => h)
    have F2 := hid (P2.out.heap E1.out id)
    have z2 := P2.out.size
    have z2' := g2.size
    simp at z2'
    obtain ⟨b2, c2', cur, hv, lb, lb2, hc2, hb2, hcell⟩ := o2.at2 HN.out (by omega)
    simp at hv
    obtain ⟨rfl, _, rfl⟩ := hv
    simp at lb
    have O2 := hid (HN.out ▸ o2 : OwnC w2 _ (.slice (some ⟨b2, 0, none⟩) n c2) xs)
    clear o2 k1
    have F4 := hid (heap_new w2 (.cells #[.slice (some ⟨b2, 0, none⟩) n c2, .int .i64 ((p : Nat) : Int), .int .i64 ((n : Nat) : Int)] 27))
    have G4 := hid (((Chg.refl (fun _ => False) w2).alloc (.cells #[.slice (some ⟨b2, 0, none⟩) n c2, .int .i64 ((p : Nat) : Int), .int .i64 ((n : Nat) : Int)] 27)).mono (S := fun k => k = w2.heap.size) fun _ _ h => h.elim)
    have lL : w2.heap.size + 1 ≤ (w2.alloc (.cells #[.slice (some ⟨b2, 0, none⟩) n c2, .int .i64 ((p : Nat) : Int), .int .i64 ((n : Nat) : Int)] 27)).heap.size := by simp
    generalize hW : w2.alloc (.cells #[.slice (some ⟨b2, 0, none⟩) n c2, .int .i64 ((p : Nat) : Int), .int .i64 ((n : Nat) : Int)] 27) = w4 at *
    clear hW
    have z4 := G4.out.size
    have E4 := hid (G4.out.heap F2.out (fun e => by omega))
    have O4 := hid (O2.out.chg1 G4.out (fun e => by omega))
    have R4 : RgOk w4 0 (.agg #[.slice (some ⟨b2, 0, none⟩) n c2, .int .i64 ((p : Nat) : Int), .int .i64 ((n : Nat) : Int)]) n (y :: is) :=
      ⟨b2, c2, p, xs, by rw [HQ.out], HN.out, O4.out.mono (Nat.zero_le _), by rw [HQ.out]; exact HK.out, by rw [HQ.out]; exact HI.out⟩
    have R4' := hid R4
    clear R4 hcell hb2 hn'
    have m4 := cells_at F4.out
    go_wp2_with fail
    refine (TakeRing_yes _ _ n y is R4'.out).mono ?_
    rintro e w5 ⟨v3, rfl, ⟨g3, c3, p3, ys, rfl, hn3, o3, k3, i3⟩, h3⟩
    have z5 := h3.size
    have F5 := hid (h3.heap F4.out id)
    have E5 := hid (h3.heap E4.out id)
    generalize hq3 : is.length = q at *
    have hqn : q < n := by have := HF.out; omega
    have hp3 : p3 < n := by have := k3.2.2.1; omega
    have HN3 := hid hn3
    have HK3 := hid k3
    have HI3 := hid i3
    have HQ3 := hid hq3
    obtain ⟨b3, c3', cur3, hv, lb', lb3, hc3, hb3, hcell3⟩ := o3.at2 hn3 (by omega)
    simp at hv
    obtain ⟨rfl, rfl⟩ := hv
    have O3 := hid o3
    obtain ⟨e1, e2, e3⟩ := rem_cast p3 q n (by omega) (by omega)
    have hlt : (p3 + q) % n < n := Nat.mod_lt _ (by omega)
    generalize hidx : (p3 + q) % n = idx at *
    have HX := hid hidx
    have i0 : (0 : Int) ≤ ((idx : Nat) : Int) := by omega
    have i1 : ((idx : Nat) : Int) < (n : Int) := by omega
    clear hidx o3 hn3 k3 i3 hq3 m4
    have m5 := cells_at F5.out
    have n5 := frees_at F5.out
    have nb : w.heap.size + 1 ≠ g3 := by omega
    have nb' : g3 ≠ w.heap.size + 1 := by omega
    have nc : w.heap.size + 1 ≠ w2.heap.size := by omega
    have nc' : w2.heap.size ≠ w.heap.size + 1 := by omega
    have nz : ¬ n = 0 := by omega
    have nz' : ¬ (n : Int) = 0 := by omega
    have nd : w2.heap.size ≠ g3 := by omega
    have nd' : g3 ≠ w2.heap.size := by omega
    go_wp2_with fail
    have F6 := hid (heap_row3 F5.out (.slice (some ⟨g3, 0, none⟩) n c3) (.int .i64 (p3 : Int)) (.int .i64 (q : Int)))
    have G6 := hid (chg_row3 w5 w2.heap.size (.slice (some ⟨g3, 0, none⟩) n c3) (.int .i64 (p3 : Int)) (.int .i64 (q : Int)))
    generalize hW : ((w5.setCell ⟨w2.heap.size, 0, none⟩ (.slice (some ⟨g3, 0, none⟩) n c3)).setCell ⟨w2.heap.size, 1, none⟩ (.int .i64 (p3 : Int))).setCell ⟨w2.heap.size, 2, none⟩ (.int .i64 (q : Int)) = w6 at *
    clear hW m5 n5
    have hb6 := G6.out.heap hb3 (fun e => by omega)
    have E6 := hid (G6.out.heap E5.out (fun e => by omega))
    have O6 := hid (O3.out.chg1 G6.out (fun e => by omega))
    have j6 : w6.cell? ⟨g3, idx, none⟩ = some (cx (ys.getD idx (0, 0))) := by rw [cell_at hb6, hcell3 _ hlt]
    have f6 : w6.frozen? ⟨g3, idx, none⟩ = false := free_at hb6
    have m6 := cells_at F6.out
    have n6 := frees_at F6.out
    have k2' := cells_at E6.out
    have l2' := frees_at E6.out
    clear hb3 hb6 hcell3
    go_region_held3 (fun w' => w'.cell? ⟨w2.heap.size, 0, none⟩ = some (.slice (some ⟨g3, 0, none⟩) n c3) ∧ w'.cell? ⟨w2.heap.size, 1, none⟩ = some (.int .i64 (p3 : Int)) ∧ w'.cell? ⟨w2.heap.size, 2, none⟩ = some (.int .i64 (q : Int))) (first | assumption | go_keep) (fail)
    go_wp2_with fail
    refine bodyPost_ret (v := .tuple #[.agg #[.slice (some ⟨g3, 0, none⟩) n c3, .int .i64 ((p3 : Nat) : Int), .int .i64 ((q : Int) + 1)], .complex .f32 y.1 y.2, .bool true]) (by simp [results, Try.results63, go_sem, k2']) rfl ?_
    have law := push_law z HN3.out HK3.out hqn
    rw [HX.out, HI3.out] at law
    have OP := O6.out.put idx (by have := HN3.out; omega) z
    have GW : Chg (fun k => k = w2.heap.size ∨ k = w.heap.size + 1) (w6.setCell ⟨g3, idx, none⟩ (cx z)) _ := (((((Chg.refl (fun k => k = w2.heap.size ∨ k = w.heap.size + 1) (w6.setCell ⟨g3, idx, none⟩ (cx z))).setCell (p := ⟨w2.heap.size, 2, none⟩) (.inl (.inl rfl)) (.int .i64 ((q : Int) + 1))).setCell (p := ⟨w.heap.size + 1, 0, none⟩) (.inl (.inr rfl)) (.slice (some ⟨g3, 0, none⟩) n c3)).setCell (p := ⟨w.heap.size + 1, 1, none⟩) (.inl (.inr rfl)) (.int .i64 ((p3 : Nat) : Int))).setCell (p := ⟨w.heap.size + 1, 2, none⟩) (.inl (.inr rfl)) (.int .i64 ((q : Int) + 1))).drew
    have hl : (is ++ [z]).length = q + 1 := by simp [HQ3.out]
    refine ⟨_, rfl, ⟨g3, c3, p3, ys.set idx z, ?_, by simpa using HN3.out, (OP.chg1 GW fun e => by omega).mono (by omega), by rw [hl]; exact law.1, by rw [hl]; exact law.2⟩, ?_⟩
    · rw [hl]; simp
    · have GA := (G1.out.trans P2.out fun _ _ h => h).trans (((G4.out.trans (h3.mono fun _ _ h => h.elim) fun _ _ h => h).trans G6.out fun _ _ h => h)) (fun k hk e => by omega)
      exact GA.trans ((((Chg.refl (fun k => k = g3 ∨ k = w2.heap.size ∨ k = w.heap.size + 1) w6).setCell (p := ⟨g3, idx, none⟩) (.inl (.inl rfl)) (cx z)).trans GW fun _ _ h => .inr h)) (fun k hk e => by omega)
  · have P2 := hid ((((Chg.refl (fun _ => False) w1).alloc (.cells #[.slice none 0 0, .int .i64 0, .int .i64 0] 27)).drew).trans g2 fun _ _ h => h)
    have F2 := hid (P2.out.heap E1.out id)
    have z2 := P2.out.size
    have z2' := g2.size
    simp at z2'
    obtain ⟨b2, c2', cur, hv, lb, lb2, hc2, hb2, hcell⟩ := o2.at2 HN.out (by omega)
    simp at hv
    obtain ⟨rfl, _, rfl⟩ := hv
    simp at lb
    have O2 := hid (HN.out ▸ o2 : OwnC w2 _ (.slice (some ⟨b2, 0, none⟩) n c2) xs)
    clear o2 k1
    have F4 := hid (heap_row3 L2.out (.slice (some ⟨b2, 0, none⟩) n c2) (.int .i64 ((p : Nat) : Int)) (.int .i64 ((n : Nat) : Int)))
    have G4 := hid (chg_row3 w2 w1.heap.size (.slice (some ⟨b2, 0, none⟩) n c2) (.int .i64 ((p : Nat) : Int)) (.int .i64 ((n : Nat) : Int)))
    have lL := G4.out.size
    generalize hW : ((w2.setCell ⟨w1.heap.size, 0, none⟩ (.slice (some ⟨b2, 0, none⟩) n c2)).setCell ⟨w1.heap.size, 1, none⟩ (.int .i64 ((p : Nat) : Int))).setCell ⟨w1.heap.size, 2, none⟩ (.int .i64 ((n : Nat) : Int)) = w4 at *
    clear hW
    have z4 := G4.out.size
    have E4 := hid (G4.out.heap F2.out (fun e => by omega))
    have O4 := hid (O2.out.chg1 G4.out (fun e => by omega))
    have R4 : RgOk w4 0 (.agg #[.slice (some ⟨b2, 0, none⟩) n c2, .int .i64 ((p : Nat) : Int), .int .i64 ((n : Nat) : Int)]) n (y :: is) :=
      ⟨b2, c2, p, xs, by rw [HQ.out], HN.out, O4.out.mono (Nat.zero_le _), by rw [HQ.out]; exact HK.out, by rw [HQ.out]; exact HI.out⟩
    have R4' := hid R4
    clear R4 hcell hb2 hn'
    have m4 := cells_at F4.out
    go_wp2_with fail
    refine (TakeRing_yes _ _ n y is R4'.out).mono ?_
    rintro e w5 ⟨v3, rfl, ⟨g3, c3, p3, ys, rfl, hn3, o3, k3, i3⟩, h3⟩
    have z5 := h3.size
    have F5 := hid (h3.heap F4.out id)
    have E5 := hid (h3.heap E4.out id)
    generalize hq3 : is.length = q at *
    have hqn : q < n := by have := HF.out; omega
    have hp3 : p3 < n := by have := k3.2.2.1; omega
    have HN3 := hid hn3
    have HK3 := hid k3
    have HI3 := hid i3
    have HQ3 := hid hq3
    obtain ⟨b3, c3', cur3, hv, lb', lb3, hc3, hb3, hcell3⟩ := o3.at2 hn3 (by omega)
    simp at hv
    obtain ⟨rfl, rfl⟩ := hv
    have O3 := hid o3
    obtain ⟨e1, e2, e3⟩ := rem_cast p3 q n (by omega) (by omega)
    have hlt : (p3 + q) % n < n := Nat.mod_lt _ (by omega)
    generalize hidx : (p3 + q) % n = idx at *
    have HX := hid hidx
    have i0 : (0 : Int) ≤ ((idx : Nat) : Int) := by omega
    have i1 : ((idx : Nat) : Int) < (n : Int) := by omega
    clear hidx o3 hn3 k3 i3 hq3 m4
    have m5 := cells_at F5.out
    have n5 := frees_at F5.out
    have nb : w.heap.size + 1 ≠ g3 := by omega
    have nb' : g3 ≠ w.heap.size + 1 := by omega
    have nc : w.heap.size + 1 ≠ w1.heap.size := by omega
    have nc' : w1.heap.size ≠ w.heap.size + 1 := by omega
    have nz : ¬ n = 0 := by omega
    have nz' : ¬ (n : Int) = 0 := by omega
    have nd : w1.heap.size ≠ g3 := by omega
    have nd' : g3 ≠ w1.heap.size := by omega
    go_wp2_with fail
    have F6 := hid (heap_row3 F5.out (.slice (some ⟨g3, 0, none⟩) n c3) (.int .i64 (p3 : Int)) (.int .i64 (q : Int)))
    have G6 := hid (chg_row3 w5 w1.heap.size (.slice (some ⟨g3, 0, none⟩) n c3) (.int .i64 (p3 : Int)) (.int .i64 (q : Int)))
    generalize hW : ((w5.setCell ⟨w1.heap.size, 0, none⟩ (.slice (some ⟨g3, 0, none⟩) n c3)).setCell ⟨w1.heap.size, 1, none⟩ (.int .i64 (p3 : Int))).setCell ⟨w1.heap.size, 2, none⟩ (.int .i64 (q : Int)) = w6 at *
    clear hW m5 n5
    have hb6 := G6.out.heap hb3 (fun e => by omega)
    have E6 := hid (G6.out.heap E5.out (fun e => by omega))
    have O6 := hid (O3.out.chg1 G6.out (fun e => by omega))
    have j6 : w6.cell? ⟨g3, idx, none⟩ = some (cx (ys.getD idx (0, 0))) := by rw [cell_at hb6, hcell3 _ hlt]
    have f6 : w6.frozen? ⟨g3, idx, none⟩ = false := free_at hb6
    have m6 := cells_at F6.out
    have n6 := frees_at F6.out
    have k2' := cells_at E6.out
    have l2' := frees_at E6.out
    clear hb3 hb6 hcell3
    go_region_held3 (fun w' => w'.cell? ⟨w1.heap.size, 0, none⟩ = some (.slice (some ⟨g3, 0, none⟩) n c3) ∧ w'.cell? ⟨w1.heap.size, 1, none⟩ = some (.int .i64 (p3 : Int)) ∧ w'.cell? ⟨w1.heap.size, 2, none⟩ = some (.int .i64 (q : Int))) (first | assumption | go_keep) (fail)
    go_wp2_with fail
    refine bodyPost_ret (v := .tuple #[.agg #[.slice (some ⟨g3, 0, none⟩) n c3, .int .i64 ((p3 : Nat) : Int), .int .i64 ((q : Int) + 1)], .complex .f32 y.1 y.2, .bool true]) (by simp [results, Try.results63, go_sem, k2']) rfl ?_
    have law := push_law z HN3.out HK3.out hqn
    rw [HX.out, HI3.out] at law
    have OP := O6.out.put idx (by have := HN3.out; omega) z
    have GW : Chg (fun k => k = w1.heap.size ∨ k = w.heap.size + 1) (w6.setCell ⟨g3, idx, none⟩ (cx z)) _ := (((((Chg.refl (fun k => k = w1.heap.size ∨ k = w.heap.size + 1) (w6.setCell ⟨g3, idx, none⟩ (cx z))).setCell (p := ⟨w1.heap.size, 2, none⟩) (.inl (.inl rfl)) (.int .i64 ((q : Int) + 1))).setCell (p := ⟨w.heap.size + 1, 0, none⟩) (.inl (.inr rfl)) (.slice (some ⟨g3, 0, none⟩) n c3)).setCell (p := ⟨w.heap.size + 1, 1, none⟩) (.inl (.inr rfl)) (.int .i64 ((p3 : Nat) : Int))).setCell (p := ⟨w.heap.size + 1, 2, none⟩) (.inl (.inr rfl)) (.int .i64 ((q : Int) + 1))).drew
    have hl : (is ++ [z]).length = q + 1 := by simp [HQ3.out]
    refine ⟨_, rfl, ⟨g3, c3, p3, ys.set idx z, ?_, by simpa using HN3.out, (OP.chg1 GW fun e => by omega).mono (by omega), by rw [hl]; exact law.1, by rw [hl]; exact law.2⟩, ?_⟩
    · rw [hl]; simp
    · have GA := (G1.out.trans P2.out fun _ _ h => h).trans (((G4.out.trans (h3.mono fun _ _ h => h.elim) fun _ _ h => h).trans G6.out fun _ _ h => h)) (fun k hk e => by omega)
      exact GA.trans ((((Chg.refl (fun k => k = g3 ∨ k = w1.heap.size ∨ k = w.heap.size + 1) w6).setCell (p := ⟨g3, idx, none⟩) (.inl (.inl rfl)) (cx z)).trans GW fun _ _ h => .inr h)) (fun k hk e => by omega)
end Go.Proofs.Ytopkehknaclhlaa

/- The reference's rings: one is made out of bytes. -/
namespace Go.Proofs.Ytopkehknaclhlaa
open Go Go.RowKit

/-- A ring's parts, its numbers named. -/
def RgAt (w : World) (base g n c p : Nat) (is : List (Nat × Nat)) : Prop :=
  ∃ xs, xs.length = n ∧ OwnC w base (.slice (some ⟨g, 0, none⟩) n c) xs ∧ OkRing xs p is.length ∧ items xs p is.length = is

theorem RgOk.at {w : World} {base n : Nat} {v : Value} {is : List (Nat × Nat)} (h : RgOk w base v n is) :
    ∃ g c p, v = .agg #[.slice (some ⟨g, 0, none⟩) n c, .int .i64 ((p : Nat) : Int), .int .i64 ((is.length : Nat) : Int)] ∧ RgAt w base g n c p is := by
  obtain ⟨g, c, p, xs, h1, h2⟩ := h
  exact ⟨g, c, p, h1, xs, h2⟩
theorem RgAt.ok {w : World} {base g n c p : Nat} {is : List (Nat × Nat)} (h : RgAt w base g n c p is) :
    RgOk w base (.agg #[.slice (some ⟨g, 0, none⟩) n c, .int .i64 ((p : Nat) : Int), .int .i64 ((is.length : Nat) : Int)]) n is := by
  obtain ⟨xs, h2⟩ := h
  exact ⟨g, c, p, xs, rfl, h2⟩
theorem RgAt.chg {S : Nat → Prop} {w w' : World} {base g n c p : Nat} {is : List (Nat × Nat)} (h : RgAt w base g n c p is) (G : Chg S w w') (hS : ¬ S g) : RgAt w' base g n c p is := by
  obtain ⟨xs, h1, h2, h3⟩ := h
  exact ⟨xs, h1, h2.chg1 G hS, h3⟩
theorem RgAt.mono {w : World} {b b' g n c p : Nat} {is : List (Nat × Nat)} (h : RgAt w b g n c p is) (hb : b' ≤ b) : RgAt w b' g n c p is := by
  obtain ⟨xs, h1, h2, h3⟩ := h
  exact ⟨xs, h1, h2.mono hb, h3⟩
theorem RgAt.lt {w : World} {base g n c p : Nat} {is : List (Nat × Nat)} (h : RgAt w base g n c p is) : base ≤ g ∧ g < w.heap.size := by
  obtain ⟨xs, h1, h2, h3⟩ := h
  exact h2.own_lt rfl
theorem RgAt.len {w : World} {base g n c p : Nat} {is : List (Nat × Nat)} (h : RgAt w base g n c p is) : is.length ≤ n ∧ n ≤ 16 ∧ 1 ≤ n := by
  obtain ⟨xs, h1, h2, h3, h4⟩ := h
  have := h3.1
  have := h3.2.1
  have := h3.2.2.2.1
  omega

theorem RgAt.zeros {w : World} {b n : Nat} (h : w.heap[b]? = some (.cells (Array.replicate n (.complex .f32 0 0)) 33 (0, 0))) (h1 : 1 ≤ n) (h2 : n ≤ 16) {base : Nat} (hb : base ≤ b) : RgAt w base b n n 0 [] := by
  refine ⟨List.replicate n (0, 0), by simp, ⟨by simp, .inr ⟨b, n, _, by simp, hb, h, by simp, by unfold maxLen; omega, by simp, ?_⟩⟩, ⟨by simp; omega, by simp; omega, by simp; omega, by simp, fun i hi hl => ?_⟩, by simp [items]⟩
  · simp [cx]
  · simp at hl
    have : i % n < n := Nat.mod_lt _ (by omega)
    simp [this]

/-- Some ring comes back. -/
def RPsh (w : World) (n : Nat) (e : Ending) (w' : World) : Prop :=
  ∃ v is x y, e = .returned (.tuple #[v, .complex .f32 x y]) ∧ RgOk w' w.heap.size v n is ∧ Chg (fun _ => False) w w'

theorem l4Push_any (w : World) (v : Value) (n x y : Nat) (is : List (Nat × Nat)) (hr : RgOk w 0 v n is) :
    Calls Try.prog 150 #[v, .complex .f32 x y] w (RPsh w n) := by
  have hl : is.length ≤ n := by
    obtain ⟨_, _, _, _, h⟩ := hr.at
    exact h.len.1
  rcases Nat.lt_or_ge is.length n with h | h
  · refine (l4Push_room w v n (x, y) is hr h).mono ?_
    rintro e w' ⟨v', rfl, h2, h3⟩
    exact ⟨v', _, _, _, rfl, h2, h3⟩
  · cases is with
    | nil => 
      obtain ⟨_, _, _, _, h2⟩ := hr.at
      have := h2.len
      simp at h
      omega
    | cons z is =>
      refine (l4Push_full w v n (x, y) z is hr (by simp at h hl; omega)).mono ?_
      rintro e w' ⟨v', rfl, h2, h3⟩
      exact ⟨v', _, _, _, rfl, h2, h3⟩

/-- A ring comes back; the cursor moves. -/
def RRn (w : World) (c : Nat) (e : Ending) (w' : World) : Prop :=
  ∃ v n is, e = .returned v ∧ RgOk w' w.heap.size v n is ∧ Cur w' c ∧ Chg (fun k => k = c) w w'

set_option maxRecDepth 100000 in
set_option maxHeartbeats 4000000 in
theorem l4Ring_calls (w : World) (c : Nat) (hc : Cur w c) :
    Calls Try.prog 118 #[.pointer (some ⟨c, 0, none⟩), .int .i64 9] w (RRn w c) := by
  have HC := hid hc
  have ltc := hc.lt
  clear hc
  go_enter Try.func118, Try.ntmps118
  go_wp2_with fail
  refine (l01Below_calls _ c (HC.out.alloc _) 9 (by omega) (by omega)).mono ?_
  rintro e w1 ⟨x, x0, x1, rfl, hc1, g1⟩
  obtain ⟨m, rfl⟩ := Int.eq_ofNat_of_zero_le x0
  have HC1 := hid hc1
  have F1 := hid (g1.heap (heap_new w _) (fun e => by omega))
  have G1 := hid (((Chg.refl (fun k => k = c) w).alloc (.cells #[.slice none 0 0, .int .i64 0, .int .i64 0] 27)).trans g1 fun _ _ h => h)
  clear hc1 g1
  go_wp2_with fail
  have hm : (1 : Int) + (m : Int) = ((m + 1 : Nat) : Int) := by omega
  rw [hm]
  refine (specNewRing_yes _ (m + 1) (by omega) (by omega)).mono ?_
  rintro e w2 ⟨b, lb, rfl, hb, g2⟩
  have z1 := G1.out.size
  have z2 := g2.size
  have y1 := heap_lt F1.out
  have R2 := hid (RgAt.zeros hb (by omega) (by omega) (Nat.le_trans z1 lb))
  have lb2 := heap_lt hb
  have HC2 := hid (HC1.out.chg g2 fun _ _ h => h)
  have F2 := hid (g2.heap F1.out id)
  have G2 := hid (G1.out.trans g2 fun _ _ h => h.elim)
  clear hb g2 G1 HC1 hm
  generalize m + 1 = n at *
  go_wp2_with fail
  refine (l01Below_calls _ c (HC2.out.alloc _) 20 (by omega) (by omega)).mono ?_
  rintro e w3 ⟨k0, k00, k01, rfl, hc3, g3⟩
  obtain ⟨k0, rfl⟩ := Int.eq_ofNat_of_zero_le k00
  have z3 := g3.size
  simp at z3
  have HC3 := hid hc3
  have R3 := hid (R2.out.chg (((Chg.refl (fun k => k = c) w2).alloc (.cells #[.slice (some ⟨b, 0, none⟩) n n, .int .i64 0, .int .i64 0] 27)).trans g3 fun _ _ h => h) (fun e => by omega))
  have F3 := hid (g3.heap (heap_old F2.out) (fun e => by omega))
  have L3 := hid (g3.heap (heap_new w2 (.cells #[.slice (some ⟨b, 0, none⟩) n n, .int .i64 0, .int .i64 0] 27)) (fun e => by omega))
  have G3 := hid ((G2.out.alloc (.cells #[.slice (some ⟨b, 0, none⟩) n n, .int .i64 0, .int .i64 0] 27)).trans g3 fun _ _ h => h)
  clear hc3 g3 R2 F2 G2 HC2 F1
  have hL : w.heap.size + 1 ≤ w2.heap.size := by omega
  have nbL : b ≠ w2.heap.size := by omega
  have nbw : b ≠ w.heap.size := by omega
  generalize w2.heap.size = L at *
  clear z1 z2 lb lb2
  have hbL := R3.out.lt.1
  go_wp2_with fail
  go_loopw [7] (fun i wr => ∃ (k g cp p : Nat) (is : List (Nat × Nat)), i = .int .i64 (k : Int) ∧ k ≤ 20 ∧ Hid (wr.heap[L]? = some (.cells #[.slice (some ⟨g, 0, none⟩) n cp, .int .i64 ((p : Nat) : Int), .int .i64 ((is.length : Nat) : Int)] 27 (0, 0))) ∧ g ≠ L ∧ Hid (RgAt wr w.heap.size g n cp p is) ∧ Hid (Cur wr c) ∧ Hid (Chg (fun k => k = c) w wr) ∧ Hid (wr.heap[w.heap.size]? = some (.cells #[.slice none 0 0, .int .i64 0, .int .i64 0] 27 (0, 0))) ∧ g ≠ w.heap.size) (fun i _ => (intOf i).toNat)
  case atStart => exact ⟨k0, b, n, 0, [], rfl, by omega, L3, nbL, R3, HC3, G3, F3, nbw⟩
  case round =>
    obtain ⟨k, g, cp, p, is, rfl, hk20, HL, ngL, HR, HW, G, HF, ngw⟩ := hrel
    clear L3 nbL R3 HC3 G3 F3
    have z0 := G.out.size
    have lL := heap_lt HL.out
    have lg := HR.out.lt
    have kL := cells_at HL.out
    have fL := frees_at HL.out
    by_cases hlt : 0 < k
    · have hlt' : (0 : Int) < (k : Int) := by omega
      go_wp2_with fail
      refine (l01Once_calls _ c HW.out 3 (by omega) (by omega)).mono ?_
      rintro e w4 ⟨t, rfl, hc4, g4⟩
      have HC4 := hid hc4
      have HL4 := hid (g4.heap HL.out (fun e => by omega))
      have HR4 := hid (HR.out.chg g4 (fun e => by omega))
      have HF4 := hid (g4.heap HF.out (fun e => by omega))
      have G4 := hid (G.out.trans g4 fun _ _ h => h)
      have z4 := G4.out.size
      have y4 := heap_lt HL4.out
      have y5 := heap_lt HF4.out
      clear hc4 g4 HL HR HW G HF kL fL
      have kL := cells_at HL4.out
      have fL := frees_at HL4.out
      have take : ∀ (y : Nat × Nat) (is' : List (Nat × Nat)), is = y :: is' → 0 < is.length := fun _ _ e => by subst e; simp
      have push : Code.wp Try.prog = Code.wp Try.prog := rfl
      clear take push
      by_cases hboth : t = true ∧ 0 < is.length
      · obtain ⟨rfl, hpos⟩ := hboth
        obtain ⟨y, is', rfl⟩ : ∃ y is', is = y :: is' := by
          cases is with
          | nil => simp at hpos
          | cons y is' => exact ⟨y, is', rfl⟩
        have hp' : (0 : Int) < (((y :: is').length : Nat) : Int) := by omega
        generalize hq : (y :: is').length = q at *
        have HQ := hid hq
        clear hq
        go_wp2_with fail
        refine (l4Take_calls _ _ n y is' ?_).mono ?_
        · have h := (HR4.out.mono (Nat.zero_le _)).ok
          rw [HQ.out] at h
          exact h
        rintro e w5 ⟨v5, rfl, R5, g5⟩
        obtain ⟨g', c5, p5, rfl, A5⟩ := R5.at
        have l5 := A5.lt
        have z5 := g5.size
        have HL5 := hid (g5.heap HL4.out id)
        have HF5 := hid (g5.heap HF4.out id)
        have HC5 := hid (HC4.out.chg g5 fun _ _ h => h)
        have G5 := hid (G4.out.trans g5 fun _ _ h => h.elim)
        have A5' := hid A5
        clear A5 R5 g5 kL fL
        have kL := cells_at HL5.out
        have fL := frees_at HL5.out
        have S5 := hid (heap_row3 HL5.out (.slice (some ⟨g', 0, none⟩) n c5) (.int .i64 (p5 : Int)) (.int .i64 ((is'.length : Nat) : Int)))
        have GS := hid (chg_row3 w5 L (.slice (some ⟨g', 0, none⟩) n c5) (.int .i64 (p5 : Int)) (.int .i64 ((is'.length : Nat) : Int)))
        go_wp2_with fail
        go_roundw
        case rel => exact ⟨k - 1, g', c5, p5, is', by go_num, by omega, S5, by omega, hid ((A5'.out.chg GS.out (fun e => by omega)).mono (by omega)), hid (HC5.out.chg GS.out (fun _ h e => by omega)), hid (G5.out.trans GS.out (fun _ h e => by omega)), hid (GS.out.heap HF5.out (fun e => by omega)), by omega⟩
        case measure => simp [intOf]; omega
      · have hn : ¬ (t = true ∧ (0 : Int) < ((is.length : Nat) : Int)) := fun h => hboth ⟨h.1, by omega⟩
        have hi0 : t = true → ¬ (0 : Int) < ((is.length : Nat) : Int) := fun h h2 => hn ⟨h, h2⟩
        clear hn hboth
        generalize hq : is.length = q at *
        have HQ := hid hq
        have HI0 := hid hi0
        clear hq hi0
        cases t
        · go_wp2_with fail
          go_region_with (first
            | (go_at_call 125; refine (l2Small_calls _ c ?_).mono ?_; exact HC4.out.chg (Chg.refl (fun _ => False) w4).drew fun _ _ h => h; rintro e w5 ⟨x5, y5', _, _, _, _, rfl, hc5, g5⟩; have HC5 := hid hc5; have HL5 := hid (g5.heap (show w4.drew.heap[L]? = _ from HL4.out) (fun e => by omega)); have kL5 := cells_at HL5.out; have fL5 := frees_at HL5.out; have HR5 := hid (HR4.out.chg ((Chg.refl (fun k => k = c) w4).drew.trans g5 fun _ _ h => h) (fun e => by omega)); have HF5 := hid (g5.heap (show w4.drew.heap[w.heap.size]? = _ from HF4.out) (fun e => by omega)); have G5 := hid (G4.out.trans ((Chg.refl (fun k => k = c) w4).drew.trans g5 fun _ _ h => h) fun _ _ h => h))
            | (go_at_call 150; refine (l4Push_any w5 _ n _ _ is ?_).mono ?_; exact HQ.out ▸ (HR5.out.mono (Nat.zero_le _)).ok; rintro e w6 ⟨v6, is', x6, y6, rfl, R6, g6⟩; obtain ⟨g', c6, p6, rfl, A6⟩ := R6.at; have A6' := hid A6; have HL6 := hid (g6.heap HL5.out id); have kL6 := cells_at HL6.out; have fL6 := frees_at HL6.out))
          all_goals
            have l6 := A6.lt
            have z5 := G5.out.size
            have z6 := g6.size
            have y6 := heap_lt HL5.out
            have HF6 := hid (g6.heap HF5.out id)
            have HC6 := hid (HC5.out.chg g6 fun _ _ h => h)
            have G6 := hid (G5.out.trans g6 fun _ _ h => h.elim)
            have S6 := hid (heap_row3 HL6.out (.slice (some ⟨g', 0, none⟩) n c6) (.int .i64 (p6 : Int)) (.int .i64 ((is'.length : Nat) : Int)))
            have GS := hid (chg_row3 w6 L (.slice (some ⟨g', 0, none⟩) n c6) (.int .i64 (p6 : Int)) (.int .i64 ((is'.length : Nat) : Int)))
            clear A6 R6 g6
            go_wp2_with fail
            go_roundw
            case rel => exact ⟨k - 1, g', c6, p6, is', by go_num, by omega, S6, by omega, hid ((A6'.out.chg GS.out (fun e => by omega)).mono (by omega)), hid (HC6.out.chg GS.out (fun _ h e => by omega)), hid (G6.out.trans GS.out (fun _ h e => by omega)), hid (GS.out.heap HF6.out (fun e => by omega)), by omega⟩
            case measure => simp [intOf]; omega
        · have hq0 : ¬ (0 : Int) < (q : Int) := HI0.out rfl
          go_wp2_with fail
          go_region_with (first
            | (go_at_call 125; refine (l2Small_calls _ c ?_).mono ?_; exact HC4.out.chg (Chg.refl (fun _ => False) w4).drew fun _ _ h => h; rintro e w5 ⟨x5, y5', _, _, _, _, rfl, hc5, g5⟩; have HC5 := hid hc5; have HL5 := hid (g5.heap (show w4.drew.heap[L]? = _ from HL4.out) (fun e => by omega)); have kL5 := cells_at HL5.out; have fL5 := frees_at HL5.out; have HR5 := hid (HR4.out.chg ((Chg.refl (fun k => k = c) w4).drew.trans g5 fun _ _ h => h) (fun e => by omega)); have HF5 := hid (g5.heap (show w4.drew.heap[w.heap.size]? = _ from HF4.out) (fun e => by omega)); have G5 := hid (G4.out.trans ((Chg.refl (fun k => k = c) w4).drew.trans g5 fun _ _ h => h) fun _ _ h => h))
            | (go_at_call 150; refine (l4Push_any w5 _ n _ _ is ?_).mono ?_; exact HQ.out ▸ (HR5.out.mono (Nat.zero_le _)).ok; rintro e w6 ⟨v6, is', x6, y6, rfl, R6, g6⟩; obtain ⟨g', c6, p6, rfl, A6⟩ := R6.at; have A6' := hid A6; have HL6 := hid (g6.heap HL5.out id); have kL6 := cells_at HL6.out; have fL6 := frees_at HL6.out))
          all_goals
            have l6 := A6.lt
            have z5 := G5.out.size
            have z6 := g6.size
            have y6 := heap_lt HL5.out
            have HF6 := hid (g6.heap HF5.out id)
            have HC6 := hid (HC5.out.chg g6 fun _ _ h => h)
            have G6 := hid (G5.out.trans g6 fun _ _ h => h.elim)
            have S6 := hid (heap_row3 HL6.out (.slice (some ⟨g', 0, none⟩) n c6) (.int .i64 (p6 : Int)) (.int .i64 ((is'.length : Nat) : Int)))
            have GS := hid (chg_row3 w6 L (.slice (some ⟨g', 0, none⟩) n c6) (.int .i64 (p6 : Int)) (.int .i64 ((is'.length : Nat) : Int)))
            clear A6 R6 g6
            go_wp2_with fail
            go_roundw
            case rel => exact ⟨k - 1, g', c6, p6, is', by go_num, by omega, S6, by omega, hid ((A6'.out.chg GS.out (fun e => by omega)).mono (by omega)), hid (HC6.out.chg GS.out (fun _ h e => by omega)), hid (G6.out.trans GS.out (fun _ h e => by omega)), hid (GS.out.heap HF6.out (fun e => by omega)), by omega⟩
            case measure => simp [intOf]; omega
    · obtain rfl : k = 0 := by omega
      have kF := cells_at HF.out
      have fF := frees_at HF.out
      have hwL : w.heap.size ≠ L := by omega
      have hwL' : L ≠ w.heap.size := by omega
      go_wp2_with fail
      have GS := hid (chg_row3 wr w.heap.size (.slice (some ⟨g, 0, none⟩) n cp) (.int .i64 (p : Int)) (.int .i64 ((is.length : Nat) : Int)))
      refine bodyPost_ret (v := .agg #[.slice (some ⟨g, 0, none⟩) n cp, .int .i64 ((p : Nat) : Int), .int .i64 ((is.length : Nat) : Int)]) (by simp [results, Try.results118, go_sem, kF]) rfl ?_
      exact ⟨_, n, is, rfl, ((HR.out.chg GS.out ngw)).ok, HW.out.chg GS.out (fun _ h e => by omega), G.out.trans GS.out (fun _ h e => by omega)⟩
end Go.Proofs.Ytopkehknaclhlaa

/- A ring that is made. Conditions: at most 2^20 bytes. -/
namespace Go.Proofs.Ytopkehknaclhlaa
open Go Go.RowKit

/-- A ring comes back. -/
def RMr (w : World) (e : Ending) (w' : World) : Prop :=
  ∃ v n is, e = .returned v ∧ RgOk w' w.heap.size v n is ∧ Chg (fun _ => False) w w'

set_option maxRecDepth 100000 in
set_option maxHeartbeats 1000000 in
theorem MakeRing_calls (w : World) (a : Option Addr) (len cap : Nat) (hy : Bytes w w.heap.size a len cap) :
    Calls Try.prog 61 #[.slice a len cap] w (RMr w) := by
  have HY := hid hy
  clear hy
  go_enter Try.func61, Try.ntmps61
  have HY' := hid (HY.out.chg ((Chg.refl (fun _ => False) w).alloc (.cells #[.slice none 0 0, .int .i64 0, .int .i64 0] 27)) fun _ _ h => h)
  go_wp2_with fail
  refine (l01New_calls _ _ _ _ ?_).mono ?_
  · obtain ⟨h1, h2, h3⟩ := HY'.out
    exact ⟨h1, h2, fun k hk => by
      obtain ⟨b, off, z, h4, h5, h6⟩ := h3 k hk
      exact ⟨b, off, z, h4, by simp; omega, h6⟩⟩
  rintro e w1 ⟨c, lc, rfl, hc1, g1⟩
  have HC1 := hid hc1
  have F1 := hid (g1.heap (heap_new w _) id)
  have z1 := g1.size
  simp at z1 lc
  have G1 := hid (((Chg.refl (fun _ => False) w).alloc (.cells #[.slice none 0 0, .int .i64 0, .int .i64 0] 27)).trans g1 fun _ _ h => h)
  clear hc1 g1
  go_wp2_with fail
  refine (l4Ring_calls _ c HC1.out).mono ?_
  rintro e w2 ⟨v, n, is, rfl, R2, hc2, g2⟩
  obtain ⟨g, cp, p, rfl, A2⟩ := R2.at
  have l2 := A2.lt
  have A2' := hid A2
  have F2 := hid (g2.heap F1.out (fun e => by omega))
  have k2 := cells_at F2.out
  have f2 := frees_at F2.out
  have z2 := g2.size
  have G2 := hid (G1.out.trans g2 fun _ h e => by omega)
  clear R2 A2 hc2 g2
  go_wp2_with fail
  have GS := hid (chg_row3 w2 w.heap.size (.slice (some ⟨g, 0, none⟩) n cp) (.int .i64 (p : Int)) (.int .i64 ((is.length : Nat) : Int)))
  refine bodyPost_ret (v := .agg #[.slice (some ⟨g, 0, none⟩) n cp, .int .i64 ((p : Nat) : Int), .int .i64 ((is.length : Nat) : Int)]) (by simp [results, Try.results61, go_sem, k2]) rfl ?_
  exact ⟨_, n, is, rfl, ((A2'.out.chg GS.out (fun e => by omega)).mono (by omega)).ok, G2.out.trans GS.out (fun _ h e => by omega)⟩
end Go.Proofs.Ytopkehknaclhlaa
