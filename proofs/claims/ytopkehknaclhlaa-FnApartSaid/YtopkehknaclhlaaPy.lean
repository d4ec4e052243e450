/- The program puts a lease in the first free place. Conditions: at most 16 leases. (Printed by gen_px.py.) -/
import Derived.Test.YtopkehknaclhlaaPx
import Derived.Deep.DeepCutAuto
namespace Go.Proofs.Ytopkehknaclhlaa
open Go Go.RowKit

/-- The number and whether there was a place come back; the pool's variable holds the new leases. -/
def RLend (w : World) (base b : Nat) (s : Value) (r : List Ls × Nat) (e : Ending) (w' : World) : Prop :=
  Chg (fun j => (base ≤ j ∧ ∃ cs f, w.heap[j]? = some (.cells cs 71 f)) ∨ j = b) w w' ∧ ∃ a2 c2, e = .returned (.tuple #[.int .i64 (r.2 : Int), .bool (decide (r.1.length ≤ 16))]) ∧ OwnL w' base (.slice a2 r.1.length c2) r.1 ∧ w'.heap[b]? = some (.cells #[s, .slice a2 r.1.length c2] 67 (0, 0))

theorem OwnL.where_is {w : World} {base : Nat} {v : Value} {ls : List Ls} (h : OwnL w base v ls) {j : Nat} (e : some j = v.ownBlock) : base ≤ j ∧ ∃ cs f, w.heap[j]? = some (.cells cs 71 f) := by
  rcases h.2 with ⟨rfl, _⟩ | ⟨g, cap, cur, rfl, hg, hh, _⟩
  · simp [Value.ownBlock] at e
  · simp [Value.ownBlock] at e
    subst e
    exact ⟨hg, _, _, hh⟩

set_option maxRecDepth 100000 in
set_option maxHeartbeats 4000000 in
theorem lend_set (w : World) (base b : Nat) (s v : Value) (ls : List Ls) (x : Ls) (hv : OwnL w base v ls) (hbx : w.heap[b]? = some (.cells #[s, v] 67 (0, 0))) (hb : base ≤ w.heap.size) (m16 : ls.length ≤ 16) (hlt : ffree ls < ls.length) :
    Calls Try.prog 127 #[.pointer (some ⟨b, 0, none⟩), .agg #[.int .i64 (x.st : Int), .int .i64 (x.ct : Int), .int .i64 (x.rm : Int), .bool x.fr]] w (RLend w base b s (putO ls x)) := by
  have hPO : putO ls x = (ls.set (ffree ls) x, ffree ls) := by unfold putO; rw [if_pos hlt]
  rw [hPO]
  clear hPO
  obtain ⟨a2, c2, rfl⟩ := hv.form
  obtain ⟨bu, hbu⟩ : ∃ bu, bu = b := ⟨_, rfl⟩
  have A1 := (Chg.refl (fun _ => False) w).alloc (.cells #[.int .i64 (x.st : Int), .int .i64 (x.ct : Int), .int .i64 (x.rm : Int), .bool x.fr] 71)
  have HV := hid (hv.chg A1 fun _ _ _ h => h)
  have HL := hid (fun g (h : some g = (Value.slice a2 ls.length c2).ownBlock) => hv.own_lt h)
  have HT := hid (fun j (e : some j = (Value.slice a2 ls.length c2).ownBlock) => hv.where_is e)
  have RB := hid (A1.heap hbx (fun h => h))
  have lb := heap_lt hbx
  have RX := hid (heap_new w (.cells #[.int .i64 (x.st : Int), .int .i64 (x.ct : Int), .int .i64 (x.rm : Int), .bool x.fr] 71))
  have Z1 := hid (show (w.alloc (.cells #[.int .i64 (x.st : Int), .int .i64 (x.ct : Int), .int .i64 (x.rm : Int), .bool x.fr] 71)).heap.size = w.heap.size + 1 by simp)
  have GA := hid A1
  have hIx := hid (fun w hv => IndexL_calls w (.slice a2 ls.length c2) ls hv (by omega))
  clear A1 hv hbx hbu
  generalize hm : ls.length = m at *
  have HM := hid hm
  clear hm
  have kB := cells_at RB.out
  go_enter Try.func127, Try.ntmps127
  go_wp2_with fail
  refine (hIx.out _ (OwnR.mono HV.out (Nat.zero_le _))).mono ?_
  rintro e w1 ⟨rfl, hG⟩
  have HV1 := hid (HV.out.chg hG fun _ _ _ h => h)
  have RB1 := hid (hG.heap RB.out (fun h => h))
  have RX1 := hid (hG.heap RX.out (fun h => h))
  have z1 : w.heap.size + 1 ≤ w1.heap.size := by have := Z1.out; have := hG.size; omega
  have G1 := hid (GA.out.trans hG fun _ _ h => h)
  clear hG HV RB RX GA kB
  rw [if_pos hlt]
  generalize ffree ls = f at *
  have i0 : ¬ ((f : Int) < 0) := by omega
  have i1 : (f : Int) < (m : Int) := by omega
  obtain ⟨g, cc, cur, hv2, hg0, hg1, hgc, hgh, l, hlk, j0, j1, j2, j3⟩ := OwnL.lease HV1.out HM.out hlt
  simp at hv2
  obtain ⟨rfl, rfl⟩ := hv2
  have fg := frees_at hgh
  have n1 : g < w.heap.size := (HL.out g rfl).2
  have n0 : g ≠ b := fun e => by subst e; exact apartT HV1.out RB1.out (by decide) rfl
  have G3 : Hid (Chg (fun j => (base ≤ j ∧ ∃ cs f, w.heap[j]? = some (.cells cs 71 f)) ∨ j = b) w w1) := hid (G1.out.mono (fun _ _ h => h.elim))
  have k3 := cells_at RB1.out
  have k4 := cells_at RX1.out
  clear hlk hgh
  go_upto_region 5 with fail
  go_region_with (fail)
  all_goals
    have C4 := chg_row4 w1 g (f * 4) (.int .i64 (x.st : Int)) (.int .i64 (x.ct : Int)) (.int .i64 (x.rm : Int)) (.bool x.fr)
    have RB4 := hid (C4.heap RB1.out (by omega))
    have V4 := hid (OwnL.put HV1.out f x (by rw [HM.out]; exact hlt))
    have G4 := hid (G3.out.trans C4 (fun j hj (e : j = g) => by subst e; exact .inl (HT.out _ rfl)))
    clear C4 k3 k4 fg j0 j1 j2 j3
    generalize (((w1.setCell ⟨g, f * 4, none⟩ (.int .i64 (x.st : Int))).setCell ⟨g, f * 4 + 1, none⟩ (.int .i64 (x.ct : Int))).setCell ⟨g, f * 4 + 2, none⟩ (.int .i64 (x.rm : Int))).setCell ⟨g, f * 4 + 3, none⟩ (.bool x.fr) = w4 at *
    have k4 := cells_at RB4.out
    go_wp2_with fail
    go_region_with (fail)
  all_goals
    go_wp2_with fail
    go_ret2
    refine ⟨G4.out.drew.drew, some ⟨g, 0, none⟩, c2, ?_, ?_, ?_⟩
    · rw [show decide ((ls.set f x).length ≤ 16) = decide ((m : Int) ≤ 16) from by rw [List.length_set, HM.out]; exact decide_eq_decide.mpr (by omega)]
      rfl
    · rw [List.length_set, HM.out]
      exact V4.out.chg (Chg.refl (fun _ => False) w4).drew.drew (fun _ _ _ h => h)
    · rw [List.length_set, HM.out]
      exact RB4.out

set_option maxRecDepth 100000 in
set_option maxHeartbeats 4000000 in
theorem lend_app (w : World) (base b : Nat) (s v : Value) (ls : List Ls) (x : Ls) (hv : OwnL w base v ls) (hbx : w.heap[b]? = some (.cells #[s, v] 67 (0, 0))) (hb : base ≤ w.heap.size) (m16 : ls.length ≤ 16) (hge : ¬ ffree ls < ls.length) :
    Calls Try.prog 127 #[.pointer (some ⟨b, 0, none⟩), .agg #[.int .i64 (x.st : Int), .int .i64 (x.ct : Int), .int .i64 (x.rm : Int), .bool x.fr]] w (RLend w base b s (putO ls x)) := by
  have hPO : putO ls x = (ls ++ [x], ls.length) := by unfold putO; rw [if_neg hge]
  rw [hPO]
  clear hPO
  obtain ⟨a2, c2, rfl⟩ := hv.form
  obtain ⟨bu, hbu⟩ : ∃ bu, bu = b := ⟨_, rfl⟩
  have A1 := (Chg.refl (fun _ => False) w).alloc (.cells #[.int .i64 (x.st : Int), .int .i64 (x.ct : Int), .int .i64 (x.rm : Int), .bool x.fr] 71)
  have HV := hid (hv.chg A1 fun _ _ _ h => h)
  have HL := hid (fun g (h : some g = (Value.slice a2 ls.length c2).ownBlock) => hv.own_lt h)
  have HT := hid (fun j (e : some j = (Value.slice a2 ls.length c2).ownBlock) => hv.where_is e)
  have RB := hid (A1.heap hbx (fun h => h))
  have lb := heap_lt hbx
  have RX := hid (heap_new w (.cells #[.int .i64 (x.st : Int), .int .i64 (x.ct : Int), .int .i64 (x.rm : Int), .bool x.fr] 71))
  have Z1 := hid (show (w.alloc (.cells #[.int .i64 (x.st : Int), .int .i64 (x.ct : Int), .int .i64 (x.rm : Int), .bool x.fr] 71)).heap.size = w.heap.size + 1 by simp)
  have GA := hid A1
  have hIx := hid (fun w hv => IndexL_calls w (.slice a2 ls.length c2) ls hv (by omega))
  clear A1 hv hbx hbu
  generalize hm : ls.length = m at *
  have HM := hid hm
  clear hm
  have kB := cells_at RB.out
  go_enter Try.func127, Try.ntmps127
  go_wp2_with fail
  refine (hIx.out _ (OwnR.mono HV.out (Nat.zero_le _))).mono ?_
  rintro e w1 ⟨rfl, hG⟩
  have HV1 := hid (HV.out.chg hG fun _ _ _ h => h)
  have RB1 := hid (hG.heap RB.out (fun h => h))
  have RX1 := hid (hG.heap RX.out (fun h => h))
  have z1 : w.heap.size + 1 ≤ w1.heap.size := by have := Z1.out; have := hG.size; omega
  have G1 := hid (GA.out.trans hG fun _ _ h => h)
  clear hG HV RB RX GA kB
  rw [if_neg hge]
  have kB := cells_at RB1.out
  have fB := frees_at RB1.out
  go_upto_region 4 with fail
  have LX := hid (OwnR.lit encL w1 [⟨0, 0, 0, false⟩] (by simp) (Nat.le_refl w1.heap.size) #[.int .i64 0, .int .i64 0, .int .i64 0, .bool false] 71 rfl rfl)
  have A2 := (Chg.refl (fun _ => False) w1).alloc (.cells #[.int .i64 0, .int .i64 0, .int .i64 0, .bool false] 71)
  have HV2 := hid (HV1.out.chg A2 fun _ _ _ h => h)
  have G2 := hid (G1.out.trans A2 fun _ _ h => h)
  have RB2 := hid (A2.heap RB1.out (fun h => h))
  have RX2 := hid (A2.heap RX1.out (fun h => h))
  have kB2 := cells_at RB2.out
  have nB : ¬ some b = (Value.slice a2 m c2).ownBlock := fun e => apartT HV1.out RB1.out (by decide) e
  have nX : ¬ some w.heap.size = (Value.slice a2 m c2).ownBlock := fun e => by have := (HL.out _ e).2; omega
  clear A2 fB
  go_wp2_with (at_builtin; refine wpList_appR encL _ rfl _ _ rfl base _ _ ls [⟨0, 0, 0, false⟩] rfl HV2.out rfl (LX.out.mono (Nat.zero_le _)) (by have := HM.out; simp; omega) (by simp; omega) ?_; intro a' c' w' hO hG; rw [HM.out] at hO; simp only [List.length_singleton] at hO ⊢; rw [HM.out]; have T0 := hid (hG.heap RB2.out nB); have T2 := hid (hG.heap RX2.out nX); have kT0 := cells_at T0.out; have fT0 := frees_at T0.out)
  have CB := (Chg.refl (fun j => j = b) w').setCell (p := ⟨b, 1, none⟩) (.inl rfl) (.slice a' (m + 1) c')
  have U0 := hid (heap_set (k := 1) (v := .slice a' (m + 1) c') T0.out)
  have UX := hid (CB.heap T2.out (by omega))
  have HO3 := hid (OwnR.chgN hO CB (fun g e (h : g = b) => by subst h; exact apartT hO T0.out (by decide) e))
  have G3 : Hid (Chg (fun j => (base ≤ j ∧ ∃ cs f, w.heap[j]? = some (.cells cs 71 f)) ∨ j = b) w (w'.setCell ⟨b, 1, none⟩ (.slice a' (m + 1) c'))) := hid (((G2.out.mono (fun _ _ h => h.elim)).trans hG (fun j hj e => .inl (HT.out _ e))).trans CB (fun _ _ h => .inr h))
  have G5 : Hid (Chg (fun j => some j = (Value.slice a2 m c2).ownBlock ∨ j = b) w (w'.setCell ⟨b, 1, none⟩ (.slice a' (m + 1) c'))) := hid (((G2.out.mono (fun _ _ h => h.elim)).trans hG (fun _ _ h => .inl h)).trans CB (fun _ _ h => .inr h))
  clear CB T0 T2 hO hG kB2 kT0 fT0 kB RB2 RX2 HV2
  generalize w'.setCell ⟨b, 1, none⟩ (.slice a' (m + 1) c') = w4 at *
  obtain ⟨g, cc, cur, hv2, hg0, hg1, hgc, hgh, l, hlk, j0, j1, j2, j3⟩ := OwnL.lease HO3.out (n := m + 1) (by simp [HM.out]) (show m < m + 1 by omega)
  simp at hv2
  obtain ⟨rfl, rfl⟩ := hv2
  have fg := frees_at hgh
  have n0 : g ≠ b := fun e => by subst e; exact apartT HO3.out U0.out (by decide) rfl
  have HGT : Hid (g < w.heap.size → base ≤ g ∧ ∃ cs f, w.heap[g]? = some (.cells cs 71 f)) := hid (fun hlt => by
    by_cases e : some g = (Value.slice a2 m c2).ownBlock
    · exact HT.out _ e
    · refine ⟨hg0, cur, (0, 0), ?_⟩
      obtain ⟨o, ho⟩ : ∃ o, w.heap[g]? = some o := ⟨_, Array.getElem?_eq_getElem hlt⟩
      have h2 := G5.out.heap ho (fun h => h.elim e n0)
      rw [hgh] at h2
      rw [ho, ← h2])
  have i1 : (m : Int) < ((m + 1 : Nat) : Int) := by omega
  have k3 := cells_at U0.out
  have k4 := cells_at UX.out
  clear hlk hgh
  go_wp2_with fail
  go_region_with (fail)
  all_goals
    have C4 := chg_row4 w4 g (m * 4) (.int .i64 (x.st : Int)) (.int .i64 (x.ct : Int)) (.int .i64 (x.rm : Int)) (.bool x.fr)
    have RB4 := hid (C4.heap U0.out (by omega))
    have V4' := OwnL.put HO3.out m x (by simp [HM.out])
    rw [show (ls ++ [(⟨0, 0, 0, false⟩ : Ls)]).set m x = ls ++ [x] from by rw [← HM.out, List.set_append_right _ _ (Nat.le_refl _)]; simp] at V4'
    have V4 := hid V4'
    have G4 := hid (G3.out.trans C4 (fun j hj (e : j = g) => by subst e; exact .inl (HGT.out hj)))
    clear C4 V4' k3 k4 fg j0 j1 j2 j3
    generalize (((w4.setCell ⟨g, m * 4, none⟩ (.int .i64 (x.st : Int))).setCell ⟨g, m * 4 + 1, none⟩ (.int .i64 (x.ct : Int))).setCell ⟨g, m * 4 + 2, none⟩ (.int .i64 (x.rm : Int))).setCell ⟨g, m * 4 + 3, none⟩ (.bool x.fr) = w5 at *
    have k4 := cells_at RB4.out
    go_wp2_with fail
    go_region_with (fail)
  all_goals
    go_wp2_with fail
    go_ret2
    refine ⟨G4.out.drew.drew, some ⟨g, 0, none⟩, c', ?_, ?_, ?_⟩
    · rw [show decide ((ls ++ [x]).length ≤ 16) = decide (((m + 1 : Nat) : Int) ≤ 16) from by rw [List.length_append, HM.out]; exact decide_eq_decide.mpr (by simp; omega)]
      rfl
    · rw [List.length_append, HM.out]
      exact V4.out.chg (Chg.refl (fun _ => False) w5).drew.drew (fun _ _ _ h => h)
    · rw [List.length_append, HM.out]
      exact RB4.out

theorem lend_calls (w : World) (base b : Nat) (s v : Value) (ls : List Ls) (x : Ls) (hv : OwnL w base v ls) (hbx : w.heap[b]? = some (.cells #[s, v] 67 (0, 0))) (hb : base ≤ w.heap.size) (m16 : ls.length ≤ 16) :
    Calls Try.prog 127 #[.pointer (some ⟨b, 0, none⟩), .agg #[.int .i64 (x.st : Int), .int .i64 (x.ct : Int), .int .i64 (x.rm : Int), .bool x.fr]] w (RLend w base b s (putO ls x)) := by
  by_cases h : ffree ls < ls.length
  · exact lend_set w base b s v ls x hv hbx hb m16 h
  · exact lend_app w base b s v ls x hv hbx hb m16 h
end Go.Proofs.Ytopkehknaclhlaa
