/- Pools, plainly: what the law of lending asks of lendP, giveP, cutP. Plain facts; conditions: as each says. -/
import Derived.Test.YtopkehknaclhlaaPm
namespace Go.Proofs.Ytopkehknaclhlaa
open Go Go.RowKit

theorem winP_some {xs : List (Nat × Nat)} {ls : List Ls} {id : Nat} {l : Ls} (h : ls[id]? = some l) (hf : l.fr = false) : winP xs ls id = some ((xs.drop l.st).take l.ct) := by
  unfold winP
  rw [h]
  show (if l.fr = false then some ((xs.drop l.st).take l.ct) else none) = _
  rw [if_pos hf]

theorem cv_free (ls : List Ls) : cv (ls ++ [Ls.free]) = cv ls := by
  funext i
  simp [cv, cvl, Ls.free]

theorem lend_facts {xs : List (Nat × Nat)} {ls : List Ls} {room : Nat} {r : List (Nat × Nat) × List Ls × Nat} (h : POk xs.length ls) (e : lendP xs ls room = some r) :
    room ≤ best (cv ls) xs.length ∧ winP r.1 r.2.1 r.2.2 = some [] ∧ giveP r.1 r.2.1 r.2.2 = some (r.1, r.2.1.set r.2.2 Ls.free) ∧
      ∃ r2, lendP r.1 (r.2.1.set r.2.2 Ls.free) room = some r2 ∧ r2.2.2 = r.2.2 := by
  unfold lendP at e
  cases hi : runAt xs.length ls room with
  | none => rw [hi] at e; cases e
  | some i =>
    rw [hi] at e
    cases hp : putL ls (lendX i room) with
    | none => simp [hp] at e
    | some q =>
      simp [hp] at e
      subst e
      obtain ⟨hin, hge, _⟩ := firstAt_is _ _ _ hi
      simp at hge
      have hb := best_ge (cv ls) xs.length (i + 1) (by omega)
      have hat := (putL_at hp).1
      refine ⟨by omega, ?_, ?_, ?_⟩
      · rw [winP_some hat rfl]
        rfl
      · unfold giveP
        rw [lentB_some hat]
        rfl
      · show ∃ r2, lendP (zeroed xs _ _) (q.1.set q.2 Ls.free) room = some r2 ∧ r2.2.2 = q.2
        unfold putL at hp
        split at hp
        · rename_i hlt
          obtain rfl := Option.some.inj hp
          obtain ⟨m, hm, hmf, _⟩ := ffree_lt hlt
          have hmf2 := Ls.eq_free (h.ok m (List.mem_of_getElem? hm)) hmf
          subst hmf2
          have hs : ((ls.set (ffree ls) (lendX i room)).set (ffree ls) Ls.free) = ls := by
            rw [List.set_set]
            apply List.ext_getElem?
            intro j
            rw [List.getElem?_set]
            by_cases hj : ffree ls = j
            · rw [if_pos hj, if_pos (by omega), ← hj, hm]
            · rw [if_neg hj]
          show ∃ r2, lendP (zeroed xs _ _) ((ls.set (ffree ls) (lendX i room)).set (ffree ls) Ls.free) room = some r2 ∧ r2.2.2 = ffree ls
          rw [hs]
          have e1 : putL ls (lendX i room) = some (ls.set (ffree ls) (lendX i room), ffree ls) := by
            unfold putL
            rw [if_pos hlt]
          unfold lendP
          rw [zeroed_len, hi]
          dsimp only
          rw [e1]
          exact ⟨_, rfl, rfl⟩
        · rename_i hlt
          split at hp
          · cases hp
          · rename_i h16
            obtain rfl := Option.some.inj hp
            have hs : ((ls ++ [lendX i room]).set ls.length Ls.free) = ls ++ [Ls.free] := by
              rw [List.set_append_right _ _ (Nat.le_refl _)]
              simp
            show ∃ r2, lendP (zeroed xs _ _) ((ls ++ [lendX i room]).set ls.length Ls.free) room = some r2 ∧ r2.2.2 = ls.length
            rw [hs]
            have hf : ffree (ls ++ [Ls.free]) = ls.length := ffree_at (l := Ls.free) (by simp) rfl (fun j m hj hm => by
              rw [List.getElem?_append_left hj] at hm
              exact ffree_ge hlt j m hm)
            have hr : runAt xs.length (ls ++ [Ls.free]) room = some i := by
              unfold runAt
              rw [cv_free]
              exact hi
            have e1 : putL (ls ++ [Ls.free]) (lendX i room) = some ((ls ++ [Ls.free]).set ls.length (lendX i room), ls.length) := by
              unfold putL
              rw [hf, if_pos (by simp)]
            unfold lendP
            rw [zeroed_len, hr]
            dsimp only
            rw [e1]
            exact ⟨_, rfl, rfl⟩

theorem cut_facts {xs : List (Nat × Nat)} {ls : List Ls} {k c : Nat} {r : List (Nat × Nat) × List Ls × Nat} (e : cutP xs ls k c = some r) :
    r.2.2 ≠ k ∧ ∃ A B, winP r.1 r.2.1 k = some A ∧ winP r.1 r.2.1 r.2.2 = some B ∧ winP xs ls k = some (A ++ B) := by
  unfold cutP at e
  cases hl : ls[k]? with
  | none => rw [hl] at e; cases e
  | some l =>
    rw [hl] at e
    dsimp only at e
    split at e
    · rename_i hc
      obtain ⟨c1, c2, c3, c4⟩ := hc
      cases hp : putL (ls.set k (cutA l c)) (cutB l c) with
      | none => simp [hp] at e
      | some q =>
        simp [hp] at e
        subst e
        have hk := (List.getElem?_eq_some_iff.mp hl).1
        obtain ⟨p1, p2⟩ := putL_at hp
        obtain ⟨p3, p4⟩ := p2 k (cutA l c) (by simp [hk]) rfl
        refine ⟨p3, _, _, winP_some p4 rfl, winP_some p1 rfl, ?_⟩
        rw [winP_some hl c1]
        show some ((xs.drop l.st).take l.ct) = some ((xs.drop l.st).take c ++ (xs.drop (l.st + c)).take (l.ct - c))
        congr 1
        rw [show l.ct = c + (l.ct - c) by omega, List.take_add, List.drop_drop]
        congr 2
        omega
    · cases e
end Go.Proofs.Ytopkehknaclhlaa
