/- The program: is a lease lent; copies of leases. Conditions: at most 1000 leases. -/
import Derived.Test.YtopkehknaclhlaaPq
import Derived.Test.YtopkehknaclhlaaMd
namespace Go.Proofs.Ytopkehknaclhlaa
open Go Go.RowKit

set_option maxRecDepth 100000 in
set_option maxHeartbeats 4000000 in
theorem isLent_calls (w : World) (s v : Value) (xs : List (Nat × Nat)) (ls : List Ls) (id : Nat) (ho : OwnC w 0 s xs) (hv : OwnL w 0 v ls) (m16 : ls.length ≤ 1000) :
    Calls Try.prog 107 #[.agg #[s, v], .int .i64 (id : Int)] w (RVal w (.bool (lentB ls id))) := by
  obtain ⟨a, c, rfl⟩ := ho.form
  obtain ⟨a2, c2, rfl⟩ := hv.form
  have A1 := (Chg.refl (fun _ => False) w).alloc (.cells #[.slice a xs.length c, .slice a2 ls.length c2] 67)
  have HV := hid (hv.chg A1 fun _ _ _ h => h)
  have HB := hid (heap_new w (.cells #[.slice a xs.length c, .slice a2 ls.length c2] 67))
  have GA := hid A1
  have b0 : decide ((0 : Int) ≤ (id : Int)) = true := by simp
  clear A1 ho hv
  generalize xs.length = n at *
  by_cases hlt : id < ls.length
  · generalize hm : ls.length = m at *
    have HM := hid hm
    clear hm
    have b1 : decide ((id : Int) < (m : Int)) = true := by simp; omega
    obtain ⟨g, cc, cur, hv2, hg0, hg1, hgc, hgh, l, hlk, c0, c1, c2', c3⟩ := OwnL.lease HV.out HM.out hlt
    simp at hv2
    obtain ⟨rfl, rfl⟩ := hv2
    have HL := hid hlk
    clear hlk hgh hg1
    go_enter Try.func107, Try.ntmps107
    go_wp2_with fail
    go_ret
    exact ⟨by rw [lentB_some HL.out]; rfl, GA.out⟩
  · rw [lentB_none (by omega)]
    generalize hm : ls.length = m at *
    clear hm
    have b1 : decide ((id : Int) < (m : Int)) = false := by simp; omega
    go_enter Try.func107, Try.ntmps107
    go_wp2_with fail
    go_ret
    exact ⟨rfl, GA.out⟩

/-- A copy of leases comes back: new blocks alone. -/
def RClL (w : World) (ls : List Ls) (e : Ending) (w' : World) : Prop :=
  ∃ a' c', e = .returned (.slice a' ls.length c') ∧ OwnL w' w.heap.size (.slice a' ls.length c') ls ∧ Chg (fun _ => False) w w'

set_option maxHeartbeats 400000 in
theorem CloneL_calls (w : World) (v : Value) (ls : List Ls) (hx : ls.length ≤ 1000) (hv : OwnL w 0 v ls) : Calls Try.prog 110 #[v] w (RClL w ls) := by
  have hnil := fun (w : World) (a : Option Addr) (l c : Nat) => Lib.run_eql_slice_nil (P := Try.prog) w 65 71 a l c 0 0 Try.underlying65
  rcases hv.2 with ⟨rfl, h0⟩ | ⟨g, cap, cur, rfl, _⟩
  · obtain rfl : ls = [] := List.eq_nil_of_length_eq_zero h0
    go_enter Try.func110, Try.ntmps110
    go_wp2
    go_ret
    exact ⟨none, 0, rfl, OwnR.nil _ _ _, Chg.refl _ w⟩
  · have HV := hid (hv.chg ((Chg.refl (fun _ => False) w).alloc (.cells #[] 71)) fun _ _ _ h => h)
    have HE := hid (OwnR.lit encL w [] (by simp) (Nat.le_refl w.heap.size) #[] 71 rfl rfl)
    clear hv
    go_enter Try.func110, Try.ntmps110
    go_wp2_with (at_builtin; refine wpList_appR encL _ rfl _ _ rfl w.heap.size _ _ [] ls rfl HE.out rfl HV.out (by simp; omega) (by simp) ?_)
    intro a' c' w' hO hG
    have hO2 : OwnL w' w.heap.size (.slice a' ls.length c') ls := by simpa using hO
    try simp only [List.length_nil, Nat.zero_add]
    go_wp2
    go_ret
    exact ⟨a', c', rfl, hO2, ((Chg.refl (fun n => n = w.heap.size) w).alloc _).trans hG (fun n _ h => by simpa [Value.ownBlock] using h) |>.trans (Chg.refl (fun _ => False) w') (fun _ _ h => h.elim) |> fun g => (Chg.refl (fun _ => False) w).trans g (fun n hn e => by omega)⟩
end Go.Proofs.Ytopkehknaclhlaa

/- The program copies a pool. Conditions: at most 1000 samples and leases. -/
namespace Go.Proofs.Ytopkehknaclhlaa
open Go Go.RowKit

set_option maxRecDepth 100000 in
set_option maxHeartbeats 4000000 in
theorem copyPool_calls (w : World) (s v : Value) (xs : List (Nat × Nat)) (ls : List Ls) (ho : OwnC w 0 s xs) (hv : OwnL w 0 v ls) (hx : xs.length ≤ 1000) (hl : ls.length ≤ 1000) :
    Calls Try.prog 113 #[.agg #[s, v]] w (RPl w xs ls) := by
  obtain ⟨a, c, rfl⟩ := ho.form
  obtain ⟨a2, c2, rfl⟩ := hv.form
  have GW := hid ((((Chg.refl (fun _ => False) w).alloc (.cells #[.slice a xs.length c, .slice a2 ls.length c2] 67)).alloc (.cells #[.slice none 0 0, .slice none 0 0] 67)).drew)
  have F0 := hid (show (((w.alloc (.cells #[.slice a xs.length c, .slice a2 ls.length c2] 67)).alloc (.cells #[.slice none 0 0, .slice none 0 0] 67)).drew).heap[w.heap.size]? = _ from heap_old (heap_new w _))
  have F1 := hid (show (((w.alloc (.cells #[.slice a xs.length c, .slice a2 ls.length c2] 67)).alloc (.cells #[.slice none 0 0, .slice none 0 0] 67)).drew).heap[w.heap.size + 1]? = _ from heap_new' (w := w.alloc _) (b := w.heap.size + 1) (by simp))
  have HO := hid (RdC.of_own (ho.chg GW.out fun _ _ _ h => h))
  have HV := hid (hv.chg GW.out fun _ _ _ h => h)
  have HX := hid hx
  have HL := hid hl
  clear ho hv
  have h0a : (((w.alloc (.cells #[.slice a xs.length c, .slice a2 ls.length c2] 67)).alloc (.cells #[.slice none 0 0, .slice none 0 0] 67)).drew).cell? ⟨w.heap.size, 0, none⟩ = some (.slice a xs.length c) := cell_at F0.out
  have h0b : (((w.alloc (.cells #[.slice a xs.length c, .slice a2 ls.length c2] 67)).alloc (.cells #[.slice none 0 0, .slice none 0 0] 67)).drew).cell? ⟨w.heap.size, 1, none⟩ = some (.slice a2 ls.length c2) := cell_at F0.out
  go_enter Try.func113, Try.ntmps113
  go_wp2_with fail
  go_region_held3 (fun wx => wx.cell? ⟨w.heap.size, 0, none⟩ = some (.slice a xs.length c) ∧ wx.cell? ⟨w.heap.size, 1, none⟩ = some (.slice a2 ls.length c2)) (first | (refine ⟨?_, ?_⟩ <;> with_reducible assumption) | go_keep) (first | (go_at_call 97; refine (CloneRd_calls _ _ xs (by have := HX.out; omega) HO.out).mono ?_; rintro e w3 ⟨a3, c3, rfl, o3, g3⟩; have F0b := hid (g3.heap F0.out (fun h => h)); have F1b := hid (g3.heap F1.out (fun h => h)); have h3a : w3.cell? ⟨w.heap.size, 0, none⟩ = some (.slice a xs.length c) := cell_at F0b.out; have h3b : w3.cell? ⟨w.heap.size, 1, none⟩ = some (.slice a2 ls.length c2) := cell_at F0b.out; have HV3 := hid (HV.out.chg g3 fun _ _ _ h => h); have O3 := hid o3; have G3 := hid (GW.out.trans g3 fun _ _ h => h); have z3 := g3.size; simp at z3) | (go_at_call 110; refine (CloneL_calls _ _ ls HL.out HV3.out).mono ?_; rintro e w4 ⟨a4, c4, rfl, o4, g4⟩; have F0c := hid (g4.heap F0b.out (fun h => h)); have F1c := hid (g4.heap F1b.out (fun h => h)); have h4a : w4.cell? ⟨w.heap.size, 0, none⟩ = some (.slice a xs.length c) := cell_at F0c.out; have h4b : w4.cell? ⟨w.heap.size, 1, none⟩ = some (.slice a2 ls.length c2) := cell_at F0c.out; have k4 := cells_at F1c.out; have f4 := frees_at F1c.out; have Zy := (chg_row2 w4 (w.heap.size + 1) (.slice a3 xs.length c3) (.slice a4 ls.length c4)).heap F0c.out (by omega); have h5a : ((w4.setCell ⟨w.heap.size + 1, 0, none⟩ (.slice a3 xs.length c3)).setCell ⟨w.heap.size + 1, 1, none⟩ (.slice a4 ls.length c4)).cell? ⟨w.heap.size, 0, none⟩ = some (.slice a xs.length c) := cell_at Zy; have h5b : ((w4.setCell ⟨w.heap.size + 1, 0, none⟩ (.slice a3 xs.length c3)).setCell ⟨w.heap.size + 1, 1, none⟩ (.slice a4 ls.length c4)).cell? ⟨w.heap.size, 1, none⟩ = some (.slice a2 ls.length c2) := cell_at Zy; clear Zy))
  go_wp2_with fail
  refine bodyPost_ret (results_row1 (by rfl) _ _ _ (w.heap.size + 1) _ rfl (load_pool (heap_row2 F1c.out _ _) rfl)) rfl ⟨a3, c3, a4, c4, rfl, ?_, ?_, ?_⟩
  · exact ((O3.out.chg g4 fun _ _ _ h => h).chgN (chg_row2 w4 (w.heap.size + 1) _ _) (fun j e1 (e2 : j = w.heap.size + 1) => by subst e2; exact apartTC (O3.out.chg g4 fun _ _ _ h => h) F1c.out (by decide) e1)).mono (by have := z3; simp; omega)
  · exact OwnR.mono (OwnR.chgN o4 (chg_row2 w4 (w.heap.size + 1) _ _) (fun j e1 (e2 : j = w.heap.size + 1) => by subst e2; exact apartT o4 F1c.out (by decide) e1)) (by omega)
  · exact (G3.out.trans g4 fun _ _ h => h).trans (chg_row2 w4 (w.heap.size + 1) _ _) (fun j hj (e : j = w.heap.size + 1) => by omega)
end Go.Proofs.Ytopkehknaclhlaa
