/- Rings: the items told; what takes from an empty one. Conditions: the ring is valid. -/
import Derived.Test.YtopkehknaclhlaaRx
namespace Go.Proofs.Ytopkehknaclhlaa
open Go Go.RowKit

/-- Nothing comes back. -/
def RTkF (w : World) (e : Ending) (w' : World) : Prop :=
  e = .returned (.tuple #[.agg #[.slice none 0 0, .int .i64 0, .int .i64 0], .complex .f32 0 0, .bool false]) ∧ Chg (fun _ => False) w w'

set_option maxRecDepth 100000 in
set_option maxHeartbeats 2000000 in
theorem TakeRing_no (w : World) (v : Value) (n : Nat) (hr : RgOk w 0 v n []) :
    Calls Try.prog 64 #[v] w (RTkF w) := by
  obtain ⟨g, c, p, xs, rfl, hn, ho, hk, hi⟩ := hr
  have HO := hid ho
  have HK := hid hk
  clear ho hk hi
  simp only [List.length_nil]
  go_enter Try.func64, Try.ntmps64
  go_wp2_with fail
  refine (IsRing_yes _ _ xs p 0 ((HO.out.chg (((Chg.refl (fun _ => False) w).alloc _).alloc _) fun _ _ _ h => h)) HK.out).mono ?_
  rintro e w1 ⟨rfl, g1⟩
  have F1 := hid (g1.heap (heap_old (heap_new w _)) id)
  have F2 := hid (g1.heap (heap_new' (w := w.alloc _) (b := w.heap.size + 1) (by simp)) id)
  have k1 := cells_at F1.out
  have k2 := cells_at F2.out
  have l2 := frees_at F2.out
  have z1 := g1.size
  simp at z1
  go_wp2_with fail
  refine bodyPost_ret (v := .tuple #[.agg #[.slice none 0 0, .int .i64 0, .int .i64 0], .complex .f32 0 0, .bool false]) (by simp [results, Try.results64, go_sem, k2]) rfl ⟨rfl, ?_⟩
  exact ((((Chg.refl (fun _ => False) w).alloc _).alloc _).trans g1 fun _ _ h => h).trans (chg_row3 w1 (w.heap.size + 1) (.slice none 0 0) (.int .i64 0) (.int .i64 0)) fun k hk e => by omega

/-- A list comes back. -/
def RIt (w : World) (is : List (Nat × Nat)) (e : Ending) (w' : World) : Prop :=
  ∃ a c, e = .returned (.slice a is.length c) ∧ OwnC w' w.heap.size (.slice a is.length c) is ∧ Chg (fun _ => False) w w'

set_option maxRecDepth 100000 in
set_option maxHeartbeats 4000000 in
theorem ItemsOf_calls (w : World) (v : Value) (n : Nat) (is : List (Nat × Nat)) (hr : RgOk w 0 v n is) :
    Calls Try.prog 62 #[v] w (RIt w is) := by
  obtain ⟨g, c, p, xs, rfl, hn, ho, hk, hi⟩ := hr
  have HO := hid ho
  have HK := hid hk
  have HI := hid hi
  have hp : p < n := by have := hk.2.2.1; omega
  have n16 : n ≤ 16 := by have := hk.2.1; omega
  have hqn : is.length ≤ n := by have := hk.2.2.2.1; omega
  clear ho hk hi
  generalize hq : is.length = q at *
  have HN := hid hn
  have HQ := hid hq
  clear hn hq
  go_enter Try.func62, Try.ntmps62
  go_wp2_with fail
  refine (IsRing_yes _ _ xs p q ((HO.out.chg (((Chg.refl (fun _ => False) w).alloc _)) fun _ _ _ h => h)) HK.out).mono ?_
  rintro e w1 ⟨rfl, g1⟩
  have F1 := hid (g1.heap (heap_new w _) id)
  have k1 := cells_at F1.out
  have z1 := g1.size
  simp at z1
  have O1 := hid (HO.out.chg (((Chg.refl (fun _ => False) w).alloc _).trans g1 fun _ _ h => h) fun _ _ _ h => h)
  have G1 := hid (((Chg.refl (fun _ => False) w).alloc _).trans g1 fun _ _ h => h)
  have W0 := hid (OwnC.lit w1 [] 33 rfl (by simp) (Nat.le_refl w1.heap.size) #[] rfl)
  have hg := HO.out.own_lt (n := g) rfl
  have F1' := fun o => heap_old (o' := o) F1.out
  have k1' := fun o => cells_at (F1' o)
  have GA := hid ((Chg.refl (fun _ => False) w1).alloc (.cells #[] 33))
  clear F1'
  go_wp2_with fail
  go_loopw [3, 11] (fun s i wr => ∃ (a : Option Addr) (cap k : Nat) (ys : List (Nat × Nat)), k ≤ q ∧ i = .int .i64 (k : Int) ∧ s = .slice a k cap ∧ Hid (ys.length = k) ∧ Hid (ys = is.take k) ∧ Hid (OwnC wr w1.heap.size (.slice a k cap) ys) ∧ Hid (Chg (fun _ => False) w1 wr)) (fun _ i _ => q - (intOf i).toNat)
  case atStart => exact ⟨_, _, 0, [], by omega, rfl, rfl, hid rfl, hid rfl, W0, GA⟩
  case round =>
    obtain ⟨a, cap, k, ys, hk, rfl, rfl, HL, HY, HW, G⟩ := hrel
    clear W0 GA k1 k1' g1
    have z0 := G.out.size
    by_cases hlt : k < q
    · have hlt' : (k : Int) < (q : Int) := by omega
      obtain ⟨e1, e2, e3⟩ := rem_cast p k n (by omega) (by omega)
      have hix : (p + k) % n < n := Nat.mod_lt _ (by omega)
      have FR := hid (G.out.heap F1.out id)
      have OR := hid (O1.out.chg1 G.out id)
      obtain ⟨b2, c2', cur, hv, lb, lb2, hc2, hb2, hcell⟩ := OR.out.at2 HN.out (by omega)
      simp at hv
      obtain ⟨rfl, rfl⟩ := hv
      have jc : wr.cell? ⟨g, (p + k) % n, none⟩ = some (.complex .f32 (xs.getD ((p + k) % n) (0, 0)).1 (xs.getD ((p + k) % n) (0, 0)).2) := by rw [cell_at hb2, hcell _ hix]; rfl
      have hit : is[k]? = some (xs.getD ((p + k) % n) (0, 0)) := by
        have h1 := HI.out
        have h2 := HN.out
        rw [← h1]
        simp [items, hlt, h2]
      generalize xs.getD ((p + k) % n) (0, 0) = el at *
      generalize hidx : (p + k) % n = idx at *
      clear hidx hcell hb2
      have i0 : (0 : Int) ≤ ((idx : Nat) : Int) := by omega
      have i1 : ((idx : Nat) : Int) < (n : Int) := by omega
      have nz : ¬ n = 0 := by omega
      have nz' : ¬ (n : Int) = 0 := by omega
      have HIT := hid hit
      clear hit
      have kr := cells_at FR.out
      have HA := hid ((HW.out.chg ((Chg.refl (fun _ => False) wr).alloc (.cells #[.complex .f32 el.1 el.2] 33)).drew (fun _ _ _ h => h)))
      have HU : OwnC (wr.alloc (.cells #[.complex .f32 el.1 el.2] 33)).drew 0 (.slice (some ⟨wr.heap.size, 0, none⟩) 1 1) [el] := OwnC.lit wr [el] _ rfl (by simp) (Nat.zero_le _) #[.complex .f32 el.1 el.2] rfl
      have HU' := hid HU
      clear HU
      have FR' := hid (show (wr.alloc (.cells #[.complex .f32 el.1 el.2] 33)).drew.heap[w.heap.size]? = _ from heap_old FR.out)
      have jc' := hid (show (wr.alloc (.cells #[.complex .f32 el.1 el.2] 33)).drew.cell? ⟨g, idx, none⟩ = _ from ((Chg.refl (fun _ => False) wr).alloc (.cells #[.complex .f32 el.1 el.2] 33)).cell jc id)
      go_wp2_with fail
      go_region_held3 (fun w' => w'.cell? ⟨w.heap.size, 0, none⟩ = some (.slice (some ⟨g, 0, none⟩) n c) ∧ w'.cell? ⟨w.heap.size, 1, none⟩ = some (.int .i64 (p : Int)) ∧ w'.cell? ⟨w.heap.size, 2, none⟩ = some (.int .i64 (q : Int)) ∧ w'.cell? ⟨g, idx, none⟩ = some (.complex .f32 el.1 el.2))
        (first | assumption | (exact ⟨cell_at FR'.out, cell_at FR'.out, cell_at FR'.out, jc'.out⟩) | (exact ⟨cell_at (hG.heap FR'.out hno), cell_at (hG.heap FR'.out hno), cell_at (hG.heap FR'.out hno), hG.cell jc'.out hno2⟩) | go_keep)
        ((refine step_app rfl _ _ (by rfl) w1.heap.size _ _ ys [el] (by rfl) HA.out (by rfl) HU'.out (by rw [HL.out]; simp; omega) (by simp; omega) ?_; intro a' c' w' hO hG; simp only [HL.out, List.length_cons, List.length_nil, Nat.zero_add] at hO ⊢; have hno : ¬ (some w.heap.size = (Value.slice a k cap).ownBlock) := (fun e => by have := HA.out.own_lt e; omega); have hno2 : ¬ (some g = (Value.slice a k cap).ownBlock) := (fun e => by have := HA.out.own_lt e; omega)))
      rename_i hHeld
      clear hHeld
      have HT := hid (show ys ++ [el] = is.take (k + 1) by rw [HY.out, List.take_add_one, HIT.out]; rfl)
      have HL' := hid (show (ys ++ [el]).length = k + 1 by simp [HL.out])
      have HO' := hid hO
      have G' := hid (G.out.trans (((Chg.refl (fun n => some n = (Value.slice a k cap).ownBlock) wr).alloc (.cells #[.complex .f32 el.1 el.2] 33)).drew.trans hG fun _ _ h => h) (fun n h1 h2 => by have := HW.out.own_lt h2; omega))
      clear hO hG
      go_wp2
      go_roundw
      case rel => exact ⟨a', c', k + 1, ys ++ [el], by omega, by go_num, rfl, HL', HT, HO', G'⟩
      case measure => simp [intOf]; omega
    · obtain rfl : k = q := by omega
      have hlt' : ¬ (k : Int) < (k : Int) := by omega
      go_wp2
      go_ret
      obtain rfl : ys = is := by rw [HY.out, ← HQ.out, List.take_length]
      exact ⟨a, cap, by rw [HQ.out]; rfl, by rw [HQ.out]; exact HW.out.mono (by omega), G1.out.trans G.out fun _ _ h => h⟩
end Go.Proofs.Ytopkehknaclhlaa
