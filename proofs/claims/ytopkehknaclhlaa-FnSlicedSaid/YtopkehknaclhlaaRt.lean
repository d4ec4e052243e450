/- Rings by their items: what takes and what pushes. Conditions: the ring is valid. -/
import Derived.Test.YtopkehknaclhlaaMf
import Derived.Test.YtopkehknaclhlaaCk
namespace Go.Proofs.Ytopkehknaclhlaa
open Go Go.RowKit

/-- A slice that is not empty stands at the head of its block. -/
theorem OwnC.at2 {w : World} {b n : Nat} {v : Value} {xs : List (Nat × Nat)} (h : OwnC w b v xs) (hl : xs.length = n) (hn : 0 < n) : ∃ g c cur, v = .slice (some ⟨g, 0, none⟩) n c ∧ b ≤ g ∧ g < w.heap.size ∧ n ≤ c ∧ w.heap[g]? = some (.cells cur 33 (0, 0)) ∧ ∀ k, k < n → cur[k]? = some (cx (xs.getD k (0, 0))) := by
  subst hl
  rcases h.block with ⟨rfl, rfl⟩ | ⟨g', cap, cur, rfl, hb, hh, hc, hm, hcell⟩
  · simp at hn
  · exact ⟨g', cap, cur, rfl, hb, heap_lt hh, hc, hh, fun k hk => by rw [hcell k hk]; simp [List.getD, hk]⟩

set_option maxRecDepth 100000 in
set_option maxHeartbeats 2000000 in
theorem TakeRing_yes (w : World) (v : Value) (n : Nat) (z : Nat × Nat) (is : List (Nat × Nat)) (hr : RgOk w 0 v n (z :: is)) :
    Calls Try.prog 64 #[v] w (RTkT w n z is) := by
  obtain ⟨g, c, p, xs, rfl, hn, ho, hk, hi⟩ := hr
  have HO := hid ho
  have HK := hid hk
  have HI := hid hi
  have hp : p < n := by have := hk.2.2.1; omega
  have n16 : n ≤ 16 := by have := hk.2.1; omega
  clear ho hk hi
  have hl : ¬ ((((z :: is).length : Nat) : Int) = 0) := by simp; omega
  generalize hq : (z :: is).length = q at *
  have HN := hid hn
  have HQ := hid hq
  clear hn hq
  go_enter Try.func64, Try.ntmps64
  go_wp2_with fail
  refine (IsRing_yes _ _ xs p q ((HO.out.chg (((Chg.refl (fun _ => False) w).alloc _).alloc _) fun _ _ _ h => h)) HK.out).mono ?_
  rintro e w1 ⟨rfl, g1⟩
  have F1 := hid (g1.heap (heap_old (heap_new w _)) id)
  have F2 := hid (g1.heap (heap_new' (w := w.alloc _) (b := w.heap.size + 1) (by simp)) id)
  have k1 := cells_at F1.out
  have z1 := g1.size
  simp at z1
  go_wp2_with fail
  refine (copyRing_calls _ _ _ _ xs (by have := HN.out; omega) ((HO.out.chg ((((Chg.refl (fun _ => False) w).alloc _).alloc _).trans g1 fun _ _ h => h) fun _ _ _ h => h))).mono ?_
  rintro e w2 ⟨a2, c2, rfl, o2, m2, g2⟩
  have hz : xs.getD p (0, 0) = z := by
    have h := (take_law HN.out (q := is.length) (by have := HQ.out; simp at this; rw [this]; exact HK.out)).2
    have h2 := HI.out
    have h3 : is.length + 1 = q := by have := HQ.out; simpa using this
    rw [h3, h2] at h
    simp at h
    exact h.1.symm
  obtain ⟨b2, c2', cur, hv, lb, lb2, hc2, hb2, hcell⟩ := o2.at2 HN.out (by omega)
  simp at hv
  obtain ⟨rfl, _, rfl⟩ := hv
  have O2 := hid o2
  have j2 : w2.cell? ⟨b2, p, none⟩ = some (.complex .f32 z.1 z.2) := by rw [cell_at hb2, hcell p hp, hz]; rfl
  have f2 : w2.frozen? ⟨b2, p, none⟩ = false := free_at hb2
  have i0 : (0 : Int) ≤ ((p : Nat) : Int) := by omega
  have i1 : ((p : Nat) : Int) < (n : Int) := by omega
  have e1 : Int.tmod ((p : Int) + 1) (n : Int) = (((p + 1) % n : Nat) : Int) := rfl
  have hlt : (p + 1) % n < n := Nat.mod_lt _ (by omega)
  generalize hidx : (p + 1) % n = idx at *
  have HX := hid hidx
  clear hidx hcell hb2 o2 m2 hz
  have G1 := g2.heap F1.out id
  have G2 := hid (g2.heap F2.out id)
  have k2 := cells_at G2.out
  have l2 := frees_at G2.out
  have s2 := g2.size
  have G2' := fun x o => (((Chg.refl (fun k => k = b2) w2).setCell (p := ⟨b2, p, none⟩) (.inl rfl) x).alloc o).heap G2.out (show w.heap.size + 1 ≠ b2 by omega)
  have k2' := fun x o => cells_at (G2' x o)
  have l2' := fun x o => frees_at (G2' x o)
  have nb : w.heap.size + 1 ≠ b2 := by omega
  have nb' : b2 ≠ w.heap.size + 1 := by omega
  have nc : w.heap.size + 1 ≠ w2.heap.size := by omega
  have nc' : w2.heap.size ≠ w.heap.size + 1 := by omega
  have nd : w2.heap.size ≠ b2 := by omega
  have nd' : b2 ≠ w2.heap.size := by omega
  have q1 : (1 : Int) ≤ (q : Int) := by omega
  have q2 : (q : Int) ≤ 16 := by have := HK.out.2.2.2.1; have := HN.out; omega
  clear k1 G1 G2'
  rw [HN.out]
  go_wp2_with fail
  refine bodyPost_ret (v := .tuple #[.agg #[.slice (some ⟨b2, 0, none⟩) n c2, .int .i64 ((idx : Nat) : Int), .int .i64 ((q : Int) - 1)], .complex .f32 z.1 z.2, .bool true]) (by simp [results, Try.results64, go_sem, k2']) rfl ?_
  have hil : is.length + 1 = q := by have := HQ.out; simpa using this
  have law := take_law HN.out (q := is.length) (by rw [hil]; exact HK.out)
  rw [hil, HI.out, HX.out] at law
  have law2 := (List.cons.inj law.2).2
  have OP := (HN.out ▸ O2.out : OwnC w2 w1.heap.size (.slice (some ⟨b2, 0, none⟩) n c2) xs).put p (by have := HN.out; omega) (0, 0)
  have GW : Chg (fun k => k = w.heap.size + 1) (w2.setCell ⟨b2, p, none⟩ (cx (0, 0))) _ := (((((Chg.refl (fun k => k = w.heap.size + 1) (w2.setCell ⟨b2, p, none⟩ (cx (0, 0)))).alloc (.cells #[.slice (some ⟨b2, 0, none⟩) n c2, .int .i64 ((idx : Nat) : Int), .int .i64 ((q : Int) - 1)] 27)).setCell (p := ⟨w.heap.size + 1, 0, none⟩) (.inl rfl) (.slice (some ⟨b2, 0, none⟩) n c2)).setCell (p := ⟨w.heap.size + 1, 1, none⟩) (.inl rfl) (.int .i64 ((idx : Nat) : Int))).setCell (p := ⟨w.heap.size + 1, 2, none⟩) (.inl rfl) (.int .i64 ((q : Int) - 1)))
  refine ⟨_, rfl, ⟨b2, c2, idx, xs.set p (0, 0), ?_, by simpa using HN.out, (OP.chg GW fun k hk _ e => by omega).mono (by omega), law.1, law2.symm⟩, ?_⟩
  · rw [show (q : Int) - 1 = (is.length : Int) by omega]
  · exact ((((((Chg.refl (fun _ => False) w).alloc _).alloc _).trans g1 fun _ _ h => h).trans g2 fun _ _ h => h).trans (((Chg.refl (fun k => k = b2 ∨ k = w.heap.size + 1) w2).setCell (p := ⟨b2, p, none⟩) (.inl (.inl rfl)) (cx (0, 0))).trans GW fun _ _ h => .inr h) (fun k hk e => by omega))
end Go.Proofs.Ytopkehknaclhlaa
