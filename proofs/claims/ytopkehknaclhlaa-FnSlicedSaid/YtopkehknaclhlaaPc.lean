/- The reference copies a pool, and tells whether it is one. Conditions: the pool is valid. -/
import Derived.Test.YtopkehknaclhlaaPb
import Derived.Test.YtopkehknaclhlaaRu
namespace Go.Proofs.Ytopkehknaclhlaa
open Go Go.RowKit

/-- One list is appended to another, at a step of a region that draws its order. -/
theorem step_appR {α : Type} (e : Enc α) {ops : Array Oper} {o : Oper} {a : Act} {K : Act → World → Prop} {Q : Exit → Act → World → Prop} {E : Prop} {w : World} (hgd : o.guard = none) (s x : Operand)
    (ho : o.op = .call { callee := .builtin .append, args := #[s, x], argTypes := #[e.T, e.T] })
    (base : Nat) (v u : Value) (xs ys : List α) (hs : a.eval s = v) (hown : OwnR e w base v xs) (hx : a.eval x = u) (hu : OwnR e w 0 u ys)
    (hlen : xs.length + ys.length ≤ 1048576) (hbase : base ≤ w.heap.size)
    (h : ∀ a' c' w', OwnR e w' base (.slice a' (xs.length + ys.length) c') (xs ++ ys) → Chg (fun n => some n = v.ownBlock) w w' → K (a.put o.dst (.slice a' (xs.length + ys.length) c')) w') :
    if Region.wanted o (yielded ops a.tmps) = true then Oper.wp Try.prog o a w K Q else E := by
  have hw : Region.wanted o (yielded ops a.tmps) = true := by simp [Region.wanted, hgd]
  rw [if_pos hw]
  obtain ⟨i, z, hi, hz, hsz, hby, hzs⟩ := e.info
  have hb4 := e.small
  obtain ⟨au, cu, hfu⟩ := hu.form
  subst hfu
  rcases hu.2 with ⟨hu0, hn0⟩ | ⟨g, cap, cur, hv, _⟩
  · have hy : ys = [] := List.eq_nil_of_length_eq_zero hn0
    subst hy
    simp at hu0
    obtain ⟨rfl, rfl⟩ := hu0
    have hrun := run_append_owned_none (P := Try.prog) w base e.T o.type e.E i e.k e.under hi v _ _ hown
    obtain ⟨a', c', hv⟩ := hown.form
    unfold Oper.wp
    have hx' : a.eval x = .slice none 0 0 := hx
    simp [execOp, ho, resolve, invoke, builtin, hs, hx', hrun, Result.andThen]
    have h2 := h a' c' w (by simpa [hv] using hown) (Chg.refl _ w)
    simpa [hv, Oper.upon] using h2
  · simp at hv
    obtain ⟨rfl, rfl⟩ := hv
    have hmul : (xs.length + ys.length) * e.bytes ≤ 1048576 * 4096 := Nat.mul_le_mul hlen hb4
    refine wp_append_own w s x e.T ho base e.E i z e.k e.bytes e.under hi hz hsz hby hzs e.pos v xs.length (xs.flatMap e.cells) hs hown ⟨g, 0, none⟩ ys.length cu (ys.flatMap e.cells) hx (flat_len e ys) hu.cellsOf.2
      (fun q hq => by obtain ⟨y, _, hy⟩ := List.mem_flatMap.1 hq; exact e.one y q hy) (by unfold maxLen; omega) (by omega) hbase ?_
    intro v' w' hown' hgrow _
    have hown2 : OwnR e w' base v' (xs ++ ys) := by
      unfold OwnR
      rw [List.length_append, List.flatMap_append]
      exact hown'
    obtain ⟨a', c', rfl⟩ := hown2.form
    simp only [List.length_append] at hown2 ⊢
    exact h a' c' w' hown2 (Chg.of_grown hgrow fun n hn _ => hn)

theorem apartC {β : Type} {e2 : Enc β} {w : World} {b1 b2 : Nat} {v u : Value} {xs : List (Nat × Nat)} {ys : List β} (hne : 33 ≠ e2.E) (h : OwnC w b1 v xs) (k : OwnR e2 w b2 u ys) {g : Nat} (h1 : some g = v.ownBlock) (h2 : some g = u.ownBlock) : False := by
  rcases h.block with ⟨rfl, _⟩ | ⟨g1, cap, cur, rfl, _, hh, _⟩
  · simp [Value.ownBlock] at h1
  · rcases k.2 with ⟨rfl, _⟩ | ⟨g2, cap2, cur2, rfl, _, kk, _⟩
    · simp [Value.ownBlock] at h2
    · simp [Value.ownBlock] at h1 h2
      subst h1
      subst h2
      rw [hh] at kk
      simp only [Option.some.injEq, Obj.cells.injEq] at kk
      exact hne kk.2.1

/-- A pool comes back, in blocks of its own. -/
def RPl (w : World) (xs : List (Nat × Nat)) (ls : List Ls) (e : Ending) (w' : World) : Prop :=
  ∃ a c a2 c2, e = .returned (.agg #[.slice a xs.length c, .slice a2 ls.length c2]) ∧ OwnC w' w.heap.size (.slice a xs.length c) xs ∧ OwnL w' w.heap.size (.slice a2 ls.length c2) ls ∧ Chg (fun _ => False) w w'

set_option maxRecDepth 100000 in
set_option maxHeartbeats 4000000 in
theorem l3Copy_calls (w : World) (s v : Value) (xs : List (Nat × Nat)) (ls : List Ls) (ho : OwnC w 0 s xs) (hv : OwnL w 0 v ls) (hx : xs.length ≤ 1000) (hl : ls.length ≤ 1000) :
    Calls Try.prog 115 #[.agg #[s, v]] w (RPl w xs ls) := by
  obtain ⟨a, c, rfl⟩ := ho.form
  obtain ⟨a2, c2, rfl⟩ := hv.form
  generalize hn : xs.length = n at *
  generalize hm : ls.length = m at *
  have HO := hid ho
  have HV := hid hv
  have HN := hid hn
  have HM := hid hm
  clear ho hv hn hm
  go_enter Try.func115, Try.ntmps115
  have GW := hid ((((Chg.refl (fun _ => False) w).alloc (.cells #[.slice a n c, .slice a2 m c2] 67)).alloc (.cells #[.slice none 0 0, .slice none 0 0] 67)).drew)
  have FW0 := hid (show (((w.alloc (.cells #[.slice a n c, .slice a2 m c2] 67)).alloc (.cells #[.slice none 0 0, .slice none 0 0] 67)).drew).heap[w.heap.size]? = _ from heap_old (heap_new w _))
  have FW1 := hid (show (((w.alloc (.cells #[.slice a n c, .slice a2 m c2] 67)).alloc (.cells #[.slice none 0 0, .slice none 0 0] 67)).drew).heap[w.heap.size + 1]? = _ from heap_new' (w := w.alloc _) (b := w.heap.size + 1) (by simp))
  have LW := hid (show (((w.alloc (.cells #[.slice a n c, .slice a2 m c2] 67)).alloc (.cells #[.slice none 0 0, .slice none 0 0] 67)).drew).heap.size = w.heap.size + 2 by simp)
  have LA := fun x : World => OwnC.lit x [] 33 rfl (by simp) (Nat.le_refl x.heap.size) #[] rfl
  have LB := fun x : World => OwnR.lit encL x [] (by simp) (Nat.le_refl x.heap.size) #[] 71 rfl rfl
  have A1 := hid (show OwnC (((w.alloc (.cells #[.slice a n c, .slice a2 m c2] 67)).alloc (.cells #[.slice none 0 0, .slice none 0 0] 67)).drew.alloc (.cells #[] 33)) (w.heap.size + 2) (.slice (some ⟨w.heap.size + 2, 0, none⟩) 0 0) [] by have h := LA ((w.alloc (.cells #[.slice a n c, .slice a2 m c2] 67)).alloc (.cells #[.slice none 0 0, .slice none 0 0] 67)).drew; rw [LW.out] at h; exact h)
  have A2 := hid (show OwnC ((((w.alloc (.cells #[.slice a n c, .slice a2 m c2] 67)).alloc (.cells #[.slice none 0 0, .slice none 0 0] 67)).drew.alloc (.cells #[] 33)).alloc (.cells #[] 71)) (w.heap.size + 2) (.slice (some ⟨w.heap.size + 2, 0, none⟩) 0 0) [] from A1.out.chg ((Chg.refl (fun _ => False) _).alloc _) (fun _ _ _ h => h))
  have B2 := hid (show OwnL ((((w.alloc (.cells #[.slice a n c, .slice a2 m c2] 67)).alloc (.cells #[.slice none 0 0, .slice none 0 0] 67)).drew.alloc (.cells #[] 33)).alloc (.cells #[] 71)) (w.heap.size + 2) (.slice (some ⟨w.heap.size + 3, 0, none⟩) 0 0) [] by have h := LB (((w.alloc (.cells #[.slice a n c, .slice a2 m c2] 67)).alloc (.cells #[.slice none 0 0, .slice none 0 0] 67)).drew.alloc (.cells #[] 33)); rw [show (((w.alloc (.cells #[.slice a n c, .slice a2 m c2] 67)).alloc (.cells #[.slice none 0 0, .slice none 0 0] 67)).drew.alloc (.cells #[] 33)).heap.size = w.heap.size + 3 by simp] at h; exact h.mono (by omega))
  have B3 := hid (show OwnL ((((w.alloc (.cells #[.slice a n c, .slice a2 m c2] 67)).alloc (.cells #[.slice none 0 0, .slice none 0 0] 67)).drew.alloc (.cells #[] 71)).alloc (.cells #[] 33)) (w.heap.size + 2) (.slice (some ⟨w.heap.size + 2, 0, none⟩) 0 0) [] by have h := LB ((w.alloc (.cells #[.slice a n c, .slice a2 m c2] 67)).alloc (.cells #[.slice none 0 0, .slice none 0 0] 67)).drew; rw [LW.out] at h; exact h.chg ((Chg.refl (fun _ => False) _).alloc _) (fun _ _ _ h => h))
  have A3 := hid (show OwnC ((((w.alloc (.cells #[.slice a n c, .slice a2 m c2] 67)).alloc (.cells #[.slice none 0 0, .slice none 0 0] 67)).drew.alloc (.cells #[] 71)).alloc (.cells #[] 33)) (w.heap.size + 2) (.slice (some ⟨w.heap.size + 3, 0, none⟩) 0 0) [] by have h := LA (((w.alloc (.cells #[.slice a n c, .slice a2 m c2] 67)).alloc (.cells #[.slice none 0 0, .slice none 0 0] 67)).drew.alloc (.cells #[] 71)); rw [show (((w.alloc (.cells #[.slice a n c, .slice a2 m c2] 67)).alloc (.cells #[.slice none 0 0, .slice none 0 0] 67)).drew.alloc (.cells #[] 71)).heap.size = w.heap.size + 3 by simp] at h; exact h.mono (by omega))
  have NA := hid (Chg.refl (fun _ => False) ((w.alloc (.cells #[.slice a n c, .slice a2 m c2] 67)).alloc (.cells #[.slice none 0 0, .slice none 0 0] 67)).drew |>.alloc (.cells #[] 33))
  have NAB := hid ((Chg.refl (fun _ => False) ((w.alloc (.cells #[.slice a n c, .slice a2 m c2] 67)).alloc (.cells #[.slice none 0 0, .slice none 0 0] 67)).drew |>.alloc (.cells #[] 33)).alloc (.cells #[] 71))
  have NBA := hid ((Chg.refl (fun _ => False) ((w.alloc (.cells #[.slice a n c, .slice a2 m c2] 67)).alloc (.cells #[.slice none 0 0, .slice none 0 0] 67)).drew |>.alloc (.cells #[] 71)).alloc (.cells #[] 33))
  clear LA LB
  go_wp2_with fail
  go_region_held3 (fun w' => w'.cell? ⟨w.heap.size, 0, none⟩ = some (.slice a n c) ∧ w'.cell? ⟨w.heap.size, 1, none⟩ = some (.slice a2 m c2)) (first | (exact ⟨cell_at F0d.out, cell_at F0d.out⟩) | (exact ⟨cell_at F0c.out, cell_at F0c.out⟩) | go_keep) (first | (refine step_app rfl _ _ (by rfl) (w.heap.size + 2) _ _ [] xs (by rfl) A1.out (by rfl) (HO.out.chg (GW.out.trans NA.out fun _ _ h => h) fun _ _ _ h => h) (by rw [HN.out]; simp; omega) (by simp) ?_; intro a' c' w' hO hG; have G3 := hid (GW.out.trans (NA.out.trans hG fun k hk e => by have lw := LW.out; simp [Value.ownBlock] at e <;> omega) fun k hk e => e); have F0c := hid (hG.heap (NA.out.heap FW0.out id) (fun e => by simp [Value.ownBlock] at e <;> omega)); have F1c := hid (hG.heap (NA.out.heap FW1.out id) (fun e => by simp [Value.ownBlock] at e <;> omega)); have hO3 := hid (show OwnC w' (w.heap.size + 2) (.slice a' n c') xs by have h := hO; rw [HN.out] at h; simpa using h); have F0 := hid (heap_old (o' := .cells #[] 71) F0c.out); have F1 := hid (heap_old (o' := .cells #[] 71) F1c.out); have H1 := hid (OwnR.lit encL w' [] (by simp) (base := w.heap.size + 2) (by have := hO3.out; have := hG.size; simp at this; omega) #[] 71 rfl rfl); have G1 := hid (G3.out.alloc (.cells #[] 71)); have hO4 := hid (hO3.out.chg ((Chg.refl (fun _ => False) w').alloc (.cells #[] 71)) fun _ _ _ h => h)) | (refine step_app rfl _ _ (by rfl) (w.heap.size + 2) _ _ [] xs (by rfl) A2.out (by rfl) (HO.out.chg (GW.out.trans NAB.out fun _ _ h => h) fun _ _ _ h => h) (by rw [HN.out]; simp; omega) (by simp) ?_; intro a' c' w' hO hG; have G3 := hid (GW.out.trans (NAB.out.trans hG fun k hk e => by have lw := LW.out; simp [Value.ownBlock] at e <;> omega) fun k hk e => e); have F0c := hid (hG.heap (NAB.out.heap FW0.out id) (fun e => by simp [Value.ownBlock] at e <;> omega)); have F1c := hid (hG.heap (NAB.out.heap FW1.out id) (fun e => by simp [Value.ownBlock] at e <;> omega)); have hO3 := hid (show OwnC w' (w.heap.size + 2) (.slice a' n c') xs by have h := hO; rw [HN.out] at h; simpa using h); have F0 := hid F0c.out; have F1 := hid F1c.out; have H1 := hid (B2.out.chgN hG (fun g e1 e2 => by simp [Value.ownBlock] at e1 e2 <;> omega)); have G1 := hid G3.out; have hO4 := hid hO3.out) | (refine step_app rfl _ _ (by rfl) (w.heap.size + 2) _ _ [] xs (by rfl) A3.out (by rfl) (HO.out.chg (GW.out.trans NBA.out fun _ _ h => h) fun _ _ _ h => h) (by rw [HN.out]; simp; omega) (by simp) ?_; intro a' c' w' hO hG; have G3 := hid (GW.out.trans (NBA.out.trans hG fun k hk e => by have lw := LW.out; simp [Value.ownBlock] at e <;> omega) fun k hk e => e); have F0c := hid (hG.heap (NBA.out.heap FW0.out id) (fun e => by simp [Value.ownBlock] at e <;> omega)); have F1c := hid (hG.heap (NBA.out.heap FW1.out id) (fun e => by simp [Value.ownBlock] at e <;> omega)); have hO3 := hid (show OwnC w' (w.heap.size + 2) (.slice a' n c') xs by have h := hO; rw [HN.out] at h; simpa using h); have F0 := hid F0c.out; have F1 := hid F1c.out; have H1 := hid (B3.out.chgN hG (fun g e1 e2 => by simp [Value.ownBlock] at e1 e2 <;> omega)); have G1 := hid G3.out; have hO4 := hid hO3.out) | (refine step_appR encL rfl _ _ (by rfl) (w.heap.size + 2) _ _ [] ls (by rfl) H1.out (by rfl) (HV.out.chg G1.out fun _ _ _ h => h) (by rw [HM.out]; simp; omega) (by have := hG.size; simp at this; simp; omega) ?_; intro a3 c3 w3 hO2 hG2; have zz := hG.size; simp at zz; have F0d := hid (hG2.heap F0.out (fun e => by simp [Value.ownBlock] at e <;> omega)); have F1d := hid (hG2.heap F1.out (fun e => by simp [Value.ownBlock] at e <;> omega)); have k2 := cells_at F1d.out; have hO5 := hid (hO4.out.chgN hG2 (fun g e1 e2 => apartC (by decide) hO4.out H1.out e1 e2)); have hO6 := hid (show OwnL w3 (w.heap.size + 2) (.slice a3 m c3) ls by have h := hO2; rw [List.nil_append] at h; rw [← HM.out]; simpa using h); have G5 := hid (G1.out.trans hG2 fun k hk e => by have lw := LW.out; have z9 := G1.out.size; have z8 := G3.out.size; simp [Value.ownBlock] at e z9 z8 <;> omega); have f2 := frees_at F1d.out))
  all_goals
    go_wp2_with fail
    refine bodyPost_ret (v := .agg #[.slice a' xs.length c', .slice a3 ls.length c3]) (by simp [results, Try.results115, go_sem, k2]) rfl ?_
    have g3 := ((Chg.refl (fun k => k = w.heap.size + 1) w3).setCell (p := ⟨w.heap.size + 1, 0, none⟩) (.inl rfl) (.slice a' xs.length c')).setCell (p := ⟨w.heap.size + 1, 1, none⟩) (.inl rfl) (.slice a3 ls.length c3)
    refine ⟨a', c', a3, c3, rfl, ?_, ?_, ?_⟩
    · have h5 := hO5.out; rw [← HN.out] at h5; exact (h5.chg g3 fun k hk _ (e : k = w.heap.size + 1) => by omega).mono (Nat.le_add_right _ _)
    · have h6 := hO6.out; rw [← HM.out] at h6; exact (h6.chg g3 fun k hk _ (e : k = w.heap.size + 1) => by omega).mono (Nat.le_add_right _ _)
    · exact G5.out.trans g3 (fun k hk e => by omega)
end Go.Proofs.Ytopkehknaclhlaa
