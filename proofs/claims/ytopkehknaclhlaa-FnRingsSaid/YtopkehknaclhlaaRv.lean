/- The reference's rings: what pushes. Conditions: the ring is valid. -/
import Derived.Test.YtopkehknaclhlaaRu
namespace Go.Proofs.Ytopkehknaclhlaa
open Go Go.RowKit

theorem size_set (w : World) (a : Addr) (x : Value) : (w.setCell a x).heap.size = w.heap.size := by
  unfold World.setCell
  split <;> simp
theorem cell_dn {w : World} {arr : Array Value} {T : TypeId} {b k : Nat} (h : b = w.heap.size) : ((w.alloc (.cells arr T)).drew).cell? ⟨b, k, none⟩ = arr[k]? :=
  cell_at (w := (w.alloc (.cells arr T)).drew) (show (w.alloc (.cells arr T)).heap[b]? = _ from heap_new' h)

set_option maxRecDepth 100000 in
set_option maxHeartbeats 4000000 in
theorem l4Push_room (w : World) (v : Value) (n : Nat) (z : Nat × Nat) (is : List (Nat × Nat)) (hr : RgOk w 0 v n is) (hroom : is.length < n) :
    Calls Try.prog 150 #[v, .complex .f32 z.1 z.2] w (RTk w n (0, 0) (is ++ [z])) := by
  obtain ⟨g, c, p, xs, rfl, hn, ho, hk, hi⟩ := hr
  have HO := hid ho
  have HK := hid hk
  have HI := hid hi
  have hp : p < n := by have := hk.2.2.1; omega
  have n16 : n ≤ 16 := by have := hk.2.1; omega
  clear ho hk hi
  generalize hq : is.length = q at *
  have HN := hid hn
  have HQ := hid hq
  clear hn hq
  have hne : ¬ ((q : Int) = (n : Int)) := by omega
  go_enter Try.func150, Try.ntmps150
  go_wp2_with fail
  refine (l4Copy_calls _ _ _ _ _ _ xs HN.out (by omega) ((HO.out.chg (((Chg.refl (fun _ => False) w).alloc _).alloc _) fun _ _ _ h => h))).mono ?_
  rintro e w2 ⟨a2, c2, rfl, o2, g2⟩
  have F2 := hid (g2.heap (heap_new' (w := w.alloc _) (b := w.heap.size + 1) (by simp)) id)
  have z2 := g2.size
  simp at z2
  obtain ⟨b2, c2', cur, hv, lb, lb2, hc2, hb2, hcell⟩ := o2.at2 HN.out (by omega)
  simp at hv
  obtain ⟨rfl, _, rfl⟩ := hv
  simp at lb
  have O2 := hid o2
  obtain ⟨e1, e2, e3⟩ := rem_cast p q n (by omega) (by omega)
  have hlt : (p + q) % n < n := Nat.mod_lt _ (by omega)
  have j2 : w2.cell? ⟨b2, (p + q) % n, none⟩ = some (cx (xs.getD ((p + q) % n) (0, 0))) := by rw [cell_at hb2, hcell _ hlt]
  have f2 : w2.frozen? ⟨b2, (p + q) % n, none⟩ = false := free_at hb2
  generalize hidx : (p + q) % n = idx at *
  have HX := hid hidx
  have i0 : (0 : Int) ≤ ((idx : Nat) : Int) := by omega
  have i1 : ((idx : Nat) : Int) < (n : Int) := by omega
  clear hidx hcell hb2 o2
  have k2 := cells_at F2.out
  have l2 := frees_at F2.out
  have nb : w.heap.size + 1 ≠ b2 := by omega
  have nb' : b2 ≠ w.heap.size + 1 := by omega
  have nc : w.heap.size + 1 ≠ w2.heap.size := by omega
  have nc' : w2.heap.size ≠ w.heap.size + 1 := by omega
  have nz : ¬ n = 0 := by omega
  have nz' : ¬ (n : Int) = 0 := by omega
  have nd : w2.heap.size ≠ b2 := by omega
  have nd' : b2 ≠ w2.heap.size := by omega
  rw [HN.out]
  go_wp2_with fail
  go_region_held3 (fun w' => w'.cell? ⟨w2.heap.size, 0, none⟩ = some (.slice (some ⟨b2, 0, none⟩) n c2) ∧ w'.cell? ⟨w2.heap.size, 1, none⟩ = some (.int .i64 (p : Int)) ∧ w'.cell? ⟨w2.heap.size, 2, none⟩ = some (.int .i64 (q : Int))) (first | assumption | (exact ⟨(cell_dn (size_set _ _ _).symm).trans rfl, (cell_dn (size_set _ _ _).symm).trans rfl, (cell_dn (size_set _ _ _).symm).trans rfl⟩) | go_keep) (fail)
  have G2' := fun x o => (((Chg.refl (fun k => k = b2) w2).setCell (p := ⟨b2, idx, none⟩) (.inl rfl) x).alloc o).heap F2.out (show w.heap.size + 1 ≠ b2 by omega)
  have k2' := fun x o => cells_at (G2' x o)
  have l2' := fun x o => frees_at (G2' x o)
  clear G2' k2 l2
  go_wp2_with fail
  refine bodyPost_ret (v := .tuple #[.agg #[.slice (some ⟨b2, 0, none⟩) n c2, .int .i64 ((p : Nat) : Int), .int .i64 ((q : Int) + 1)], .complex .f32 0 0]) (by simp [results, Try.results150, go_sem, k2']) rfl ?_
  have law := push_law z HN.out HK.out hroom
  rw [HX.out, HI.out] at law
  have OP := (HN.out ▸ O2.out : OwnC w2 _ (.slice (some ⟨b2, 0, none⟩) n c2) xs).put idx (by have := HN.out; omega) z
  have GW : Chg (fun k => k = w.heap.size + 1) (w2.setCell ⟨b2, idx, none⟩ (cx z)) _ := (((((Chg.refl (fun k => k = w.heap.size + 1) (w2.setCell ⟨b2, idx, none⟩ (cx z))).alloc (.cells #[.slice (some ⟨b2, 0, none⟩) n c2, .int .i64 ((p : Nat) : Int), .int .i64 ((q : Int) + 1)] 27)).drew.setCell (p := ⟨w.heap.size + 1, 0, none⟩) (.inl rfl) (.slice (some ⟨b2, 0, none⟩) n c2)).setCell (p := ⟨w.heap.size + 1, 1, none⟩) (.inl rfl) (.int .i64 ((p : Nat) : Int))).setCell (p := ⟨w.heap.size + 1, 2, none⟩) (.inl rfl) (.int .i64 ((q : Int) + 1)))
  have hl : (is ++ [z]).length = q + 1 := by simp [HQ.out]
  refine ⟨_, rfl, ⟨b2, c2, p, xs.set idx z, ?_, by simpa using HN.out, (OP.chg GW fun k hk _ e => by simp at hk; omega).mono (by simp; omega), by rw [hl]; exact law.1, by rw [hl]; exact law.2⟩, ?_⟩
  · rw [hl]; simp
  · exact (((((Chg.refl (fun _ => False) w).alloc _).alloc _).trans g2 fun _ _ h => h).trans (((Chg.refl (fun k => k = b2 ∨ k = w.heap.size + 1) w2).setCell (p := ⟨b2, idx, none⟩) (.inl (.inl rfl)) (cx z)).trans GW fun _ _ h => .inr h) (fun k hk e => by omega))
end Go.Proofs.Ytopkehknaclhlaa
