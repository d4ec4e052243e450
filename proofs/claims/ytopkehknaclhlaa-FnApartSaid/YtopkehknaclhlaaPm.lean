/- The reference's windows and free room, and a new pool. Conditions: the pool is valid. (Printed by gen_pm.py.) -/
import Derived.Test.YtopkehknaclhlaaPl
namespace Go.Proofs.Ytopkehknaclhlaa
open Go Go.RowKit

theorem best_le (c : Nat → Bool) : ∀ i, best c i ≤ i
  | 0 => Nat.le_refl 0
  | i + 1 => by
    have := best_le c i
    have := runTo_le c (i + 1)
    unfold best
    omega
theorem frees_le (c : Nat → Bool) : ∀ i, frees c i ≤ i
  | 0 => Nat.le_refl 0
  | i + 1 => by
    have := frees_le c i
    unfold frees
    split <;> omega

/-- What a lease sees. -/
def winP (xs : List (Nat × Nat)) (ls : List Ls) (id : Nat) : Option (List (Nat × Nat)) :=
  match ls[id]? with
  | none => none
  | some l => if l.fr = false then some ((xs.drop l.st).take l.ct) else none
/-- A list and true come back, or nil and false. -/
def RWin (w : World) (r : Option (List (Nat × Nat))) (e : Ending) (w' : World) : Prop :=
  Chg (fun _ => False) w w' ∧ match r with
  | some ys => ∃ a c, e = .returned (.tuple #[.slice a ys.length c, .bool true]) ∧ OwnC w' w.heap.size (.slice a ys.length c) ys
  | none => e = .returned (.tuple #[.slice none 0 0, .bool false])
theorem winP_none {xs : List (Nat × Nat)} {ls : List Ls} {id : Nat} (hl : lentB ls id = false) : winP xs ls id = none := by
  unfold winP
  unfold lentB at hl
  cases hq : ls[id]? with
  | none => rfl
  | some l =>
    rw [hq] at hl
    simp at hl
    simp [hl]

set_option maxRecDepth 100000 in
set_option maxHeartbeats 4000000 in
theorem WindowOfS_calls (w : World) (s v : Value) (xs : List (Nat × Nat)) (ls : List Ls) (id : Nat) (ho : OwnC w 0 s xs) (hv : OwnL w 0 v ls) (hp : POk xs.length ls) :
    Calls Try.prog 79 #[.agg #[s, v], .int .i64 (id : Int)] w (RWin w (winP xs ls id)) := by
  obtain ⟨a, c, rfl⟩ := ho.form
  obtain ⟨a2, c2, rfl⟩ := hv.form
  have n256 := hp.nle
  have m16 := hp.len
  have A1 := (Chg.refl (fun _ => False) w).alloc (.cells #[.slice a xs.length c, .slice a2 ls.length c2] 67)
  have HO := hid (ho.chg A1 fun _ _ _ h => h)
  have HV := hid (hv.chg A1 fun _ _ _ h => h)
  have R0 := hid (show (w.alloc (.cells #[.slice a xs.length c, .slice a2 ls.length c2] 67)).heap[w.heap.size]? = _ from heap_new w _)
  have Z1 := hid (show (w.alloc (.cells #[.slice a xs.length c, .slice a2 ls.length c2] 67)).heap.size = w.heap.size + 1 by simp)
  have GA := hid A1
  have HP := hid hp
  have hLe := hid (fun w ho hv => l3Lent_calls w (.slice a xs.length c) (.slice a2 ls.length c2) xs ls id ho hv hp)
  clear A1 ho hv hp
  generalize hn : xs.length = n at *
  generalize hm : ls.length = m at *
  have HN := hid hn
  have HM := hid hm
  clear hn hm
  go_enter Try.func79, Try.ntmps79
  go_wp2_with fail
  refine (hLe.out _ HO.out HV.out).mono ?_
  rintro e w2 ⟨rfl, hG2⟩
  have R0c := hid (hG2.heap R0.out (fun h => h))
  have HOc := hid (HO.out.chg hG2 fun _ _ _ h => h)
  have HVc := hid (HV.out.chg hG2 fun _ _ _ h => h)
  have z2 : w.heap.size + 1 ≤ w2.heap.size := by have := Z1.out; have := hG2.size; omega
  have GW := hid (GA.out.trans hG2 fun _ _ h => h)
  clear hG2 Z1 GA R0 HO HV hLe
  have kR0 := cells_at R0c.out
  cases hl : lentB ls id
  · have HW := hid (winP_none (xs := xs) hl)
    clear hl
    go_wp2_with fail
    go_ret2
    exact ⟨GW.out, by rw [HW.out]; rfl⟩
  · obtain ⟨l, hlk, hlf, hid2⟩ := lentB_true hl
    rw [HM.out] at hid2
    have HW : Hid (winP xs ls id = some ((xs.drop l.st).take l.ct)) := by
      unfold winP
      rw [hlk]
      show (if l.fr = false then some ((xs.drop l.st).take l.ct) else none) = _
      rw [if_pos hlf]
    have hok := HP.out.ok l (List.mem_of_getElem? hlk)
    rcases hok with ⟨h, _⟩ | ⟨_, h1, h2, h3⟩
    · rw [hlf] at h; cases h
    have i1 : (id : Int) < (m : Int) := by omega
    obtain ⟨g0, cc, cur, hv2, hg0, hg1, hgc, hgh, l', hlk', j0, j1, j2, j3⟩ := OwnL.lease HVc.out HM.out hid2
    simp at hv2
    obtain ⟨rfl, rfl⟩ := hv2
    obtain rfl : l = l' := by rw [hlk] at hlk'; exact Option.some.inj hlk'
    rw [hlf] at j3
    generalize l.st = p at *
    generalize l.ct = q at *
    generalize l.rm = r at *
    clear hl hlk hlk' hlf hgh
    go_upto_region 4 with fail
    have A3 := (Chg.refl (fun _ => False) w2).alloc (.cells #[.int .i64 (p : Int), .int .i64 (q : Int), .int .i64 (r : Int), .bool false] 71)
    have R0e := hid (A3.heap R0c.out (fun h => h))
    have R9 := hid (heap_new w2 (.cells #[.int .i64 (p : Int), .int .i64 (q : Int), .int .i64 (r : Int), .bool false] 71))
    have HOe := hid (HOc.out.chg A3 fun _ _ _ h => h)
    have GWe := hid (GW.out.trans A3 fun _ _ h => h)
    have z4 : w2.heap.size < (w2.alloc (.cells #[.int .i64 (p : Int), .int .i64 (q : Int), .int .i64 (r : Int), .bool false] 71)).heap.size := by simp
    clear A3 kR0 j0 j1 j2 j3 R0c HOc HVc GW
    generalize hw3 : w2.alloc (.cells #[.int .i64 (p : Int), .int .i64 (q : Int), .int .i64 (r : Int), .bool false] 71) = w3 at *
    clear hw3
    obtain ⟨g, ca, curc, hva, hga, hgb, hgd, hgha, hcl⟩ := HOe.out.at2 (n := n) HN.out (by omega)
    simp at hva
    obtain ⟨rfl, rfl⟩ := hva
    obtain ⟨ys, hys, hyl⟩ : ∃ ys, ys = (xs.drop p).take q ∧ ys.length = q := ⟨_, rfl, by rw [List.length_take, List.length_drop]; have := HN.out; omega⟩
    rw [← hys] at HW
    have hRD : RdC w3 (.slice (some ⟨g, p, none⟩) ys.length (c - p)) ys := by
      refine .inr ⟨g, p, c - p, rfl, hgb, by omega, ?_, fun j hj => ?_⟩
      · rcases HOe.out.block with ⟨h, _⟩ | ⟨_, _, _, hh, _, _, _, hm2, _⟩
        · simp at h
        · simp at hh
          omega
      · rw [cell_at hgha, hcl (p + j) (by omega)]
        congr 2
        simp only [hys, List.getD_eq_getElem?_getD]
        rw [List.getElem_take, List.getElem_drop, List.getElem?_eq_getElem (by have := HN.out; omega)]
        rfl
    have HRD := hid (show RdC (w3.alloc (.cells #[] 33)) _ ys from hRD.chg ((Chg.refl (fun _ => False) w3).alloc (.cells #[] 33)) (fun _ _ h => h))
    have HE := hid (OwnC.lit w3 [] 33 rfl (by simp) (Nat.le_refl w3.heap.size) #[] rfl)
    have R0f := hid (heap_old (o' := .cells #[] 33) R0e.out)
    have R9f := hid (heap_old (o' := .cells #[] 33) R9.out)
    have kR0 := cells_at R0f.out
    have kR9 := cells_at R9f.out
    have GWf := hid (GWe.out.alloc (.cells #[] 33))
    have HYL := hid hyl
    have s1 : (p : Int) ≤ (p : Int) + (q : Int) := by omega
    have s2 : (p : Int) + (q : Int) ≤ (c : Int) := by omega
    have s3 : p < c := by omega
    clear hys hRD hcl hgha R0e R9 GWe
    have HRD2 : Hid (RdC (w3.alloc (.cells #[] 33)) (.slice (some ⟨g, p, none⟩) (p + q - p) (c - p)) ys) := by rw [Nat.add_sub_cancel_left, ← hyl]; exact HRD
    clear HRD
    have hq9 : q ≤ 1000 := by omega
    clear hyl
    go_wp2_with (at_builtin; refine wpList_appRd _ rfl _ _ rfl w3.heap.size _ _ [] ys rfl HE.out rfl HRD2.out (by have := HYL.out; simp; omega) (by simp) ?_)
    intro a' c' w' hO hG
    try simp only [List.length_nil, Nat.zero_add]
    have HOz := hid hO
    have HGz := hid hG
    clear hO hG
    go_wp2_with fail
    go_ret2
    refine ⟨GWf.out.trans HGz.out (fun k hk e => by simp [Value.ownBlock] at e; omega), ?_⟩
    rw [HW.out]
    exact ⟨a', c', rfl, HOz.out.mono (by omega)⟩

set_option maxRecDepth 100000 in
set_option maxHeartbeats 4000000 in
theorem FreeRoomS_calls (w : World) (s v : Value) (xs : List (Nat × Nat)) (ls : List Ls) (ho : OwnC w 0 s xs) (hv : OwnL w 0 v ls) (hp : POk xs.length ls) :
    Calls Try.prog 73 #[.agg #[s, v]] w (RVal w (.tuple #[.int .i64 ((frees (cv ls) xs.length : Nat) : Int), .int .i64 ((best (cv ls) xs.length : Nat) : Int)])) := by
  obtain ⟨a, c, rfl⟩ := ho.form
  obtain ⟨a2, c2, rfl⟩ := hv.form
  have n256 := hp.nle
  have m16 := hp.len
  have A1 := (Chg.refl (fun _ => False) w).alloc (.cells #[.slice a xs.length c, .slice a2 ls.length c2] 67)
  have HO := hid (ho.chg A1 fun _ _ _ h => h)
  have HV := hid (hv.chg A1 fun _ _ _ h => h)
  have R0 := hid (show (w.alloc (.cells #[.slice a xs.length c, .slice a2 ls.length c2] 67)).heap[w.heap.size]? = _ from heap_new w _)
  have Z1 := hid (show (w.alloc (.cells #[.slice a xs.length c, .slice a2 ls.length c2] 67)).heap.size = w.heap.size + 1 by simp)
  have GA := hid A1
  have HP := hid hp
  have hIs := hid (fun w ho hv => IsPoolS_calls w (.slice a xs.length c) (.slice a2 ls.length c2) xs ls ho hv hp)
  have hTk := hid (fun w ho hv => l3Taken_calls w (.slice a xs.length c) (.slice a2 ls.length c2) xs ls ho hv hp)
  have hCV := hid (fun i => cov_eq i hp.dj)
  clear A1 ho hv hp
  generalize hn : xs.length = n at *
  generalize hm : ls.length = m at *
  have HN := hid hn
  have HM := hid hm
  clear hn hm
  go_enter Try.func73, Try.ntmps73
  go_wp2_with fail
  refine (hIs.out _ HO.out HV.out).mono ?_
  rintro e w1 ⟨rfl, hG⟩
  have R0b := hid (hG.heap R0.out (fun h => h))
  have kR0b := cells_at R0b.out
  have HO1 := hid (HO.out.chg hG fun _ _ _ h => h)
  have HV1 := hid (HV.out.chg hG fun _ _ _ h => h)
  have G1 := hid (GA.out.trans hG fun _ _ h => h)
  clear hG
  go_wp2_with fail
  refine (hTk.out _ HO1.out HV1.out).mono ?_
  rintro e w2 ⟨b, cb, rfl, hT, hG2⟩
  have HT := hid hT
  have GW := hid (G1.out.trans hG2 fun _ _ h => h)
  clear hT hG2 R0b kR0b HO1 HV1 G1 Z1 GA hIs hTk R0 HO HV
  go_wp2_with fail
  go_loopw [6, 7, 8, 21] (fun x y q i wr => ∃ (k : Nat), k ≤ n ∧ i = .int .i64 (k : Int) ∧ x = .int .i64 ((frees (cv ls) k : Nat) : Int) ∧ y = .int .i64 ((best (cv ls) k : Nat) : Int) ∧ q = .int .i64 ((runTo (cv ls) k : Nat) : Int) ∧ wr = w2) (fun _ _ _ i _ => n - (intOf i).toNat)
  case atStart => exact ⟨0, by omega, rfl, rfl, rfl, rfl, rfl⟩
  case round =>
    obtain ⟨k, hk, rfl, rfl, rfl, rfl, rfl⟩ := hrel
    by_cases hlt : k < n
    · have hlt' : (k : Int) < (n : Int) := by omega
      obtain ⟨g, cc, cur, hv2, hg0, hg1, hgc, hgh, z, hz, hcz⟩ := OwnN.int HT.out (tl_len n _) hlt
      simp at hv2
      obtain ⟨rfl, rfl⟩ := hv2
      rw [tl_get n _ hlt, hCV.out k] at hz
      have l1 := runTo_le (cv ls) k
      have l2 : best (cv ls) k ≤ k := best_le _ _
      have l3 : frees (cv ls) k ≤ k := frees_le _ _
      have hB := hid (show best (cv ls) (k + 1) = max (best (cv ls) k) (runTo (cv ls) (k + 1)) from rfl)
      cases hc : cv ls k
      · have hz0 : ¬ (0 : Int) < z := by
          have := Option.some.inj hz
          simp [hc] at this
          omega
        have HR := hid (show runTo (cv ls) (k + 1) = runTo (cv ls) k + 1 by show (if cv ls k then 0 else runTo (cv ls) k + 1) = _; rw [hc]; simp)
        have HF := hid (show frees (cv ls) (k + 1) = frees (cv ls) k + 1 by show (if cv ls k then frees (cv ls) k else frees (cv ls) k + 1) = _; rw [hc]; simp)
        clear hz hgh hc
        generalize hqr : runTo (cv ls) k = qr at *
        generalize hqb : best (cv ls) k = qb at *
        generalize hqf : frees (cv ls) k = qf at *
        clear hqr hqb hqf
        go_wp2_with fail
        all_goals go_roundw
        case rel => exact ⟨k + 1, by omega, by go_num, by rw [HF.out]; go_num, by rw [hB.out, HR.out]; congr 1; omega, by rw [HR.out]; go_num, trivial⟩
        case measure => simp [intOf]; omega
      · have hz0 : (0 : Int) < z := by
          have := Option.some.inj hz
          simp [hc] at this
          omega
        have HR := hid (show runTo (cv ls) (k + 1) = 0 by show (if cv ls k then 0 else runTo (cv ls) k + 1) = _; rw [hc]; simp)
        have HF := hid (show frees (cv ls) (k + 1) = frees (cv ls) k by show (if cv ls k then frees (cv ls) k else frees (cv ls) k + 1) = _; rw [hc]; simp)
        clear hz hgh hc
        generalize hqr : runTo (cv ls) k = qr at *
        generalize hqb : best (cv ls) k = qb at *
        generalize hqf : frees (cv ls) k = qf at *
        clear hqr hqb hqf
        go_wp2_with fail
        all_goals go_roundw
        case rel => exact ⟨k + 1, by omega, by go_num, by rw [HF.out], by rw [hB.out, HR.out]; congr 1; omega, by rw [HR.out]; rfl, trivial⟩
        case measure => simp [intOf]; omega
    · obtain rfl : k = n := by omega
      have hlt' : ¬ (k : Int) < (k : Int) := by omega
      go_wp2_with fail
      go_ret2
      exact ⟨rfl, GW.out⟩
end Go.Proofs.Ytopkehknaclhlaa
