/- Pools, plainly: what the law of lending asks of lendP, giveP, cutP. Plain facts; conditions: as each says. -/
import Derived.Test.YtopkehknaclhlaaPm
import Derived.Test.YtopkehknaclhlaaPv
namespace Go.Proofs.Ytopkehknaclhlaa
open Go Go.RowKit

theorem winP_some {xs : List (Nat × Nat)} {ls : List Ls} {id : Nat} {l : Ls} (h : ls[id]? = some l) (hf : l.fr = false) : winP xs ls id = some ((xs.drop l.st).take l.ct) := by
  unfold winP
  rw [h]
  show (if l.fr = false then some ((xs.drop l.st).take l.ct) else none) = _
  rw [if_pos hf]

theorem cv_free (ls : List Ls) : cv (ls ++ [Ls.free]) = cv ls := by
  funext i
  simp [cv, cvl, Ls.free]

theorem lend_facts {xs : List (Nat × Nat)} {ls : List Ls} {room : Nat} {r : List (Nat × Nat) × List Ls × Nat} (h : POk xs.length ls) (e : lendP xs ls room = some r) :
    room ≤ best (cv ls) xs.length ∧ winP r.1 r.2.1 r.2.2 = some [] ∧ giveP r.1 r.2.1 r.2.2 = some (r.1, r.2.1.set r.2.2 Ls.free) ∧
      ∃ r2, lendP r.1 (r.2.1.set r.2.2 Ls.free) room = some r2 ∧ r2.2.2 = r.2.2 := by
  unfold lendP at e
  cases hi : runAt xs.length ls room with
  | none => rw [hi] at e; cases e
  | some i =>
    rw [hi] at e
    cases hp : putL ls (lendX i room) with
    | none => simp [hp] at e
    | some q =>
      simp [hp] at e
      subst e
      obtain ⟨hin, hge, _⟩ := firstAt_is _ _ _ hi
      simp at hge
      have hb := best_ge (cv ls) xs.length (i + 1) (by omega)
      have hat := (putL_at hp).1
      refine ⟨by omega, ?_, ?_, ?_⟩
      · rw [winP_some hat rfl]
        rfl
      · unfold giveP
        rw [lentB_some hat]
        rfl
      · show ∃ r2, lendP (zeroed xs _ _) (q.1.set q.2 Ls.free) room = some r2 ∧ r2.2.2 = q.2
        unfold putL at hp
        split at hp
        · rename_i hlt
          obtain rfl := Option.some.inj hp
          obtain ⟨m, hm, hmf, _⟩ := ffree_lt hlt
          have hmf2 := Ls.eq_free (h.ok m (List.mem_of_getElem? hm)) hmf
          subst hmf2
          have hs : ((ls.set (ffree ls) (lendX i room)).set (ffree ls) Ls.free) = ls := by
            rw [List.set_set]
            apply List.ext_getElem?
            intro j
            rw [List.getElem?_set]
            by_cases hj : ffree ls = j
            · rw [if_pos hj, if_pos (by omega), ← hj, hm]
            · rw [if_neg hj]
          show ∃ r2, lendP (zeroed xs _ _) ((ls.set (ffree ls) (lendX i room)).set (ffree ls) Ls.free) room = some r2 ∧ r2.2.2 = ffree ls
          rw [hs]
          have e1 : putL ls (lendX i room) = some (ls.set (ffree ls) (lendX i room), ffree ls) := by
            unfold putL
            rw [if_pos hlt]
          unfold lendP
          rw [zeroed_len, hi]
          dsimp only
          rw [e1]
          exact ⟨_, rfl, rfl⟩
        · rename_i hlt
          split at hp
          · cases hp
          · rename_i h16
            obtain rfl := Option.some.inj hp
            have hs : ((ls ++ [lendX i room]).set ls.length Ls.free) = ls ++ [Ls.free] := by
              rw [List.set_append_right _ _ (Nat.le_refl _)]
              simp
            show ∃ r2, lendP (zeroed xs _ _) ((ls ++ [lendX i room]).set ls.length Ls.free) room = some r2 ∧ r2.2.2 = ls.length
            rw [hs]
            have hf : ffree (ls ++ [Ls.free]) = ls.length := ffree_at (l := Ls.free) (by simp) rfl (fun j m hj hm => by
              rw [List.getElem?_append_left hj] at hm
              exact ffree_ge hlt j m hm)
            have hr : runAt xs.length (ls ++ [Ls.free]) room = some i := by
              unfold runAt
              rw [cv_free]
              exact hi
            have e1 : putL (ls ++ [Ls.free]) (lendX i room) = some ((ls ++ [Ls.free]).set ls.length (lendX i room), ls.length) := by
              unfold putL
              rw [hf, if_pos (by simp)]
            unfold lendP
            rw [zeroed_len, hr]
            dsimp only
            rw [e1]
            exact ⟨_, rfl, rfl⟩

theorem cut_facts {xs : List (Nat × Nat)} {ls : List Ls} {k c : Nat} {r : List (Nat × Nat) × List Ls × Nat} (e : cutP xs ls k c = some r) :
    r.2.2 ≠ k ∧ ∃ A B, winP r.1 r.2.1 k = some A ∧ winP r.1 r.2.1 r.2.2 = some B ∧ winP xs ls k = some (A ++ B) := by
  unfold cutP at e
  cases hl : ls[k]? with
  | none => rw [hl] at e; cases e
  | some l =>
    rw [hl] at e
    dsimp only at e
    split at e
    · rename_i hc
      obtain ⟨c1, c2, c3, c4⟩ := hc
      cases hp : putL (ls.set k (cutA l c)) (cutB l c) with
      | none => simp [hp] at e
      | some q =>
        simp [hp] at e
        subst e
        have hk := (List.getElem?_eq_some_iff.mp hl).1
        obtain ⟨p1, p2⟩ := putL_at hp
        obtain ⟨p3, p4⟩ := p2 k (cutA l c) (by simp [hk]) rfl
        refine ⟨p3, _, _, winP_some p4 rfl, winP_some p1 rfl, ?_⟩
        rw [winP_some hl c1]
        show some ((xs.drop l.st).take l.ct) = some ((xs.drop l.st).take c ++ (xs.drop (l.st + c)).take (l.ct - c))
        congr 1
        rw [show l.ct = c + (l.ct - c) by omega, List.take_add, List.drop_drop]
        congr 2
        omega
    · cases e
end Go.Proofs.Ytopkehknaclhlaa

/- The program puts a lease in the first free place. Conditions: at most 16 leases. (Printed by gen_px.py.) -/
namespace Go.Proofs.Ytopkehknaclhlaa
open Go Go.RowKit

/-- A lease in the first place that is free, or behind all others. -/
def putO (ls : List Ls) (x : Ls) : List Ls × Nat := if ffree ls < ls.length then (ls.set (ffree ls) x, ffree ls) else (ls ++ [x], ls.length)
theorem putL_putO {ls : List Ls} (x : Ls) (h : ls.length ≤ 16) : putL ls x = if (putO ls x).1.length ≤ 16 then some (putO ls x) else none := by
  unfold putL putO
  by_cases hf : ffree ls < ls.length
  · rw [if_pos hf, if_pos hf, if_pos (by simpa using h)]
  · rw [if_neg hf, if_neg hf]
    by_cases h6 : ls.length = 16
    · rw [if_pos h6, if_neg (by simp; omega)]
    · rw [if_neg h6, if_pos (by simp; omega)]

set_option maxHeartbeats 1000000 in
theorem lend1_calls (w : World) (p q r : Int) (f : Bool) :
    Calls Try.prog 163 #[.agg #[.int .i64 p, .int .i64 q, .int .i64 r, .bool f]] w (RVal w (.bool f)) := by
  have GA := hid ((Chg.refl (fun _ => False) w).alloc (.cells #[.int .i64 p, .int .i64 q, .int .i64 r, .bool f] 71))
  go_enter Try.func163, Try.ntmps163
  go_wp2_with fail
  go_ret
  exact ⟨rfl, GA.out⟩

set_option maxRecDepth 100000 in
set_option maxHeartbeats 4000000 in
theorem IndexL_calls (w : World) (v : Value) (ls : List Ls) (hv : OwnL w 0 v ls) (hl : ls.length ≤ 1000) :
    Calls Try.prog 162 #[v, .func (.func 163) #[] #[]] w (RVal w (.int .i64 (if ffree ls < ls.length then ((ffree ls : Nat) : Int) else -1))) := by
  obtain ⟨a2, c2, rfl⟩ := hv.form
  have HV := hid hv
  clear hv
  generalize hm : ls.length = m at *
  have HM := hid hm
  clear hm
  generalize hV : (if ffree ls < m then ((ffree ls : Nat) : Int) else -1) = V at *
  have HVV := hid hV
  clear hV
  have L1 := hid (fun w p q r f => lend1_calls w p q r f)
  go_enter Try.func162, Try.ntmps162
  go_wp2_with fail
  go_loopw [8] (fun i wr => ∃ (k : Nat), k ≤ m ∧ i = .int .i64 (k : Int) ∧ Hid (∀ (j : Nat) (l : Ls), j < k → ls[j]? = some l → l.fr = false) ∧ Hid (Chg (fun _ => False) w wr)) (fun i _ => m - (intOf i).toNat)
  case atStart => exact ⟨0, by omega, rfl, hid (fun j l h => by omega), hid (Chg.refl _ w)⟩
  case round =>
    obtain ⟨k, hk, rfl, HF, GR⟩ := hrel
    by_cases hlt : k < m
    · have hlt' : (k : Int) < (m : Int) := by omega
      have HVr := hid (HV.out.chg GR.out fun _ _ _ h => h)
      obtain ⟨g, cc, cur, hv2, hg0, hg1, hgc, hgh, l, hlk, c0, c1, c2', c3⟩ := OwnL.lease HVr.out HM.out hlt
      simp at hv2
      obtain ⟨rfl, rfl⟩ := hv2
      have HLK := hid hlk
      clear hlk hgh
      cases hf : l.fr
      · have HF2 := hid (fun (j : Nat) (q : Ls) (hj : j < k + 1) (hq : ls[j]? = some q) => show q.fr = false by
          rcases (by omega : j < k ∨ j = k) with h | rfl
          · exact HF.out j q h hq
          · rw [HLK.out] at hq
            obtain rfl := Option.some.inj hq
            exact hf)
        go_wp2_with (go_at_call 163; refine (L1.out _ _ _ _ _).mono ?_; rintro e w2 ⟨rfl, hG⟩)
        go_roundw
        case rel => exact ⟨k + 1, by omega, by go_num, HF2, hid (GR.out.trans hG fun _ _ h => h)⟩
        case measure => simp [intOf]; omega
      · have HK := hid (ffree_at HLK.out hf HF.out)
        go_wp2_with (go_at_call 163; refine (L1.out _ _ _ _ _).mono ?_; rintro e w2 ⟨rfl, hG⟩)
        go_ret
        refine ⟨?_, GR.out.trans hG fun _ _ h => h⟩
        rw [← HVV.out, HK.out, if_pos hlt]
        rfl
    · obtain rfl : k = m := by omega
      have hlt' : ¬ (k : Int) < (k : Int) := by omega
      have HN := hid (ffree_none fun j l h => HF.out j l (by have := (List.getElem?_eq_some_iff.mp h).1; have := HM.out; omega) h)
      go_wp2_with fail
      go_ret
      refine ⟨?_, GR.out⟩
      rw [← HVV.out, if_neg (by rw [HN.out, HM.out]; omega)]
      rfl

end Go.Proofs.Ytopkehknaclhlaa
