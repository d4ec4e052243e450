/- The reference puts a lease in the first free place. Conditions: at most 16 leases. -/
import Derived.Test.YtopkehknaclhlaaMg
import Derived.Test.YtopkehknaclhlaaCk
namespace Go.Proofs.Ytopkehknaclhlaa
open Go Go.RowKit

theorem row_cell_tmp2 {fn : Func} {p u q : Tmp} {ty : TypeId} (h : fn.results = #[.cell p ty, .tmp u, .tmp q]) (tmps : Array Value) (P : Program) (w : World) (g : Nat) (cs : Array Value) (x y : Value)
    (hp : tmps.getD p undef = .pointer (some ⟨g, 0, none⟩)) (hl : (loadVar ty ⟨g, 0, none⟩).run P w = .ok (.agg cs) w) (hx : tmps.getD u undef = x) (hy : tmps.getD q undef = y) :
    (results fn tmps).run P w = .ok (.tuple #[.agg cs, x, y]) w := by
  simp only [results, h]
  simp only [Array.getD_eq_getD_getElem?] at hp hx hy
  simp [hp, hx, hy, asAddr, hl]
theorem heap_row2 {w : World} {b : Nat} {T : TypeId} {f : Nat × Nat} {a0 a1 : Value} (h : w.heap[b]? = some (.cells #[a0, a1] T f)) (v0 v1 : Value) :
    ((w.setCell ⟨b, 0, none⟩ v0).setCell ⟨b, 1, none⟩ v1).heap[b]? = some (.cells #[v0, v1] T f) := by
  have h := heap_set (k := 1) (v := v1) (heap_set (k := 0) (v := v0) h)
  simpa using h
theorem chg_row2 (w : World) (b : Nat) (v0 v1 : Value) : Chg (fun k => k = b) w ((w.setCell ⟨b, 0, none⟩ v0).setCell ⟨b, 1, none⟩ v1) :=
  ((Chg.refl (fun k => k = b) w).setCell (p := ⟨b, 0, none⟩) (.inl rfl) v0).setCell (p := ⟨b, 1, none⟩) (.inl rfl) v1
theorem load_pool {w : World} {g : Nat} {cs : Array Value} {t : TypeId} {fr : Nat × Nat} (hg : w.heap[g]? = some (.cells cs t fr)) (hs : cs.size = 2) : (loadVar 67 ⟨g, 0, none⟩).run Try.prog w = .ok (.agg cs) w :=
  run_loadVar_row w g t 67 cs fr _ hg Try.underlying67 rfl (by rw [hs]; kernel_rfl)

theorem flat_setL (x : Ls) : ∀ (ls : List Ls) (i : Nat), (ls.set i x).flatMap encL.cells = ((((ls.flatMap encL.cells).set (i * 4) (.int .i64 (x.st : Int))).set (i * 4 + 1) (.int .i64 (x.ct : Int))).set (i * 4 + 2) (.int .i64 (x.rm : Int))).set (i * 4 + 3) (.bool x.fr)
  | [], i => by simp
  | l :: ls, 0 => rfl
  | l :: ls, i + 1 => by
    rw [List.set_cons_succ, List.flatMap_cons, List.flatMap_cons, flat_setL x ls i]
    rw [show (i + 1) * 4 = i * 4 + 4 by omega, show i * 4 + 4 + 1 = i * 4 + 1 + 4 by omega, show i * 4 + 4 + 2 = i * 4 + 2 + 4 by omega, show i * 4 + 4 + 3 = i * 4 + 3 + 4 by omega]
    rfl

theorem OwnL.put {w : World} {base g n c : Nat} {ls : List Ls} (h : OwnL w base (.slice (some ⟨g, 0, none⟩) n c) ls) (i : Nat) (x : Ls) (hi : i < ls.length) :
    OwnL ((((w.setCell ⟨g, i * 4, none⟩ (.int .i64 (x.st : Int))).setCell ⟨g, i * 4 + 1, none⟩ (.int .i64 (x.ct : Int))).setCell ⟨g, i * 4 + 2, none⟩ (.int .i64 (x.rm : Int))).setCell ⟨g, i * 4 + 3, none⟩ (.bool x.fr)) base (.slice (some ⟨g, 0, none⟩) n c) (ls.set i x) := by
  obtain ⟨h1, h2⟩ := h
  rcases h2 with ⟨h2, _⟩ | ⟨g', cap, cur, hv, hg, hh, hc, hm, hs, ht⟩
  · simp at h2
  · simp at hv
    obtain ⟨rfl, rfl, rfl⟩ := hv
    refine ⟨by rw [flat_len], .inr ⟨g, c, (((cur.setIfInBounds (i * 4) (.int .i64 (x.st : Int))).setIfInBounds (i * 4 + 1) (.int .i64 (x.ct : Int))).setIfInBounds (i * 4 + 2) (.int .i64 (x.rm : Int))).setIfInBounds (i * 4 + 3) (.bool x.fr), by rw [List.length_set], hg, heap_set (heap_set (heap_set (heap_set hh))), by rw [List.length_set]; exact hc, hm, by simpa using hs, ?_⟩⟩
    rw [flat_setL, List.length_set]
    simp only [Array.toList_setIfInBounds, List.take_set]
    rw [ht]
theorem chg_row4 (w : World) (b k : Nat) (v0 v1 v2 v3 : Value) : Chg (fun j => j = b) w ((((w.setCell ⟨b, k, none⟩ v0).setCell ⟨b, k + 1, none⟩ v1).setCell ⟨b, k + 2, none⟩ v2).setCell ⟨b, k + 3, none⟩ v3) :=
  ((((Chg.refl (fun j => j = b) w).setCell (p := ⟨b, k, none⟩) (.inl rfl) v0).setCell (p := ⟨b, k + 1, none⟩) (.inl rfl) v1).setCell (p := ⟨b, k + 2, none⟩) (.inl rfl) v2).setCell (p := ⟨b, k + 3, none⟩) (.inl rfl) v3

/-- A block of another type is no block of the slice. -/
theorem apartT {β : Type} {e : Enc β} {w : World} {b g : Nat} {v : Value} {ys : List β} {cs : Array Value} {T : TypeId} {f : Nat × Nat} (h : OwnR e w b v ys) (hb : w.heap[g]? = some (.cells cs T f)) (hT : T ≠ e.E) (h2 : some g = v.ownBlock) : False := by
  rcases h.2 with ⟨rfl, _⟩ | ⟨g2, cap2, cur2, rfl, _, kk, _⟩
  · simp [Value.ownBlock] at h2
  · simp [Value.ownBlock] at h2
    subst h2
    rw [hb] at kk
    simp only [Option.some.injEq, Obj.cells.injEq] at kk
    exact hT kk.2.1

/-- The lease is put, or there is no place. -/
def RPut (w : World) (base : Nat) (s v : Value) (r : Option (List Ls × Nat)) (e : Ending) (w' : World) : Prop :=
  Chg (fun g => some g = v.ownBlock) w w' ∧ match r with
  | some r => ∃ a2 c2, e = .returned (.tuple #[.agg #[s, .slice a2 r.1.length c2], .int .i64 (r.2 : Int), .bool true]) ∧ OwnL w' base (.slice a2 r.1.length c2) r.1
  | none => e = .returned (.tuple #[.agg #[.slice none 0 0, .slice none 0 0], .int .i64 0, .bool false])

set_option maxRecDepth 100000 in
set_option maxHeartbeats 4000000 in
theorem l3Put_calls (w : World) (base : Nat) (a : Option Addr) (n c : Nat) (v : Value) (ls : List Ls) (x : Ls) (hv : OwnL w base v ls) (hb : base ≤ w.heap.size) (m16 : ls.length ≤ 16) :
    Calls Try.prog 128 #[.agg #[.slice a n c, v], .agg #[.int .i64 (x.st : Int), .int .i64 (x.ct : Int), .int .i64 (x.rm : Int), .bool x.fr]] w (RPut w base (.slice a n c) v (putL ls x)) := by
  obtain ⟨a2, c2, rfl⟩ := hv.form
  have A1 := (((Chg.refl (fun _ => False) w).alloc (.cells #[.slice a n c, .slice a2 ls.length c2] 67)).alloc (.cells #[.int .i64 (x.st : Int), .int .i64 (x.ct : Int), .int .i64 (x.rm : Int), .bool x.fr] 71)).alloc (.cells #[.slice none 0 0, .slice none 0 0] 67)
  have HV := hid (hv.chg A1 fun _ _ _ h => h)
  have HB := hid (fun g (h : some g = (Value.slice a2 ls.length c2).ownBlock) => hv.own_lt h)
  have R0 := hid (show (((w.alloc (.cells #[.slice a n c, .slice a2 ls.length c2] 67)).alloc (.cells #[.int .i64 (x.st : Int), .int .i64 (x.ct : Int), .int .i64 (x.rm : Int), .bool x.fr] 71)).alloc (.cells #[.slice none 0 0, .slice none 0 0] 67)).heap[w.heap.size]? = _ from heap_old (heap_old (heap_new w _)))
  have R1 := hid (show (((w.alloc (.cells #[.slice a n c, .slice a2 ls.length c2] 67)).alloc (.cells #[.int .i64 (x.st : Int), .int .i64 (x.ct : Int), .int .i64 (x.rm : Int), .bool x.fr] 71)).alloc (.cells #[.slice none 0 0, .slice none 0 0] 67)).heap[w.heap.size + 1]? = _ from heap_old (heap_new' (w := w.alloc _) (b := w.heap.size + 1) (by simp)))
  have R2 := hid (show (((w.alloc (.cells #[.slice a n c, .slice a2 ls.length c2] 67)).alloc (.cells #[.int .i64 (x.st : Int), .int .i64 (x.ct : Int), .int .i64 (x.rm : Int), .bool x.fr] 71)).alloc (.cells #[.slice none 0 0, .slice none 0 0] 67)).heap[w.heap.size + 2]? = _ from heap_new' (w := (w.alloc _).alloc _) (b := w.heap.size + 2) (by simp))
  have GA := hid A1
  clear A1 hv
  generalize hm : ls.length = m at *
  have HM := hid hm
  clear hm
  go_enter Try.func128, Try.ntmps128
  go_wp2_with fail
  have Z3 := hid (show (((w.alloc (.cells #[.slice a n c, .slice a2 m c2] 67)).alloc (.cells #[.int .i64 (x.st : Int), .int .i64 (x.ct : Int), .int .i64 (x.rm : Int), .bool x.fr] 71)).alloc (.cells #[.slice none 0 0, .slice none 0 0] 67)).heap.size = w.heap.size + 3 by simp)
  generalize (((w.alloc (.cells #[.slice a n c, .slice a2 m c2] 67)).alloc (.cells #[.int .i64 (x.st : Int), .int .i64 (x.ct : Int), .int .i64 (x.rm : Int), .bool x.fr] 71)).alloc (.cells #[.slice none 0 0, .slice none 0 0] 67)) = w3 at *
  have kR0 := cells_at R0.out
  have kR1 := cells_at R1.out
  have kR2 := cells_at R2.out
  have fR0 := frees_at R0.out
  have fR2 := frees_at R2.out
  go_loopw [11] (fun i wr => ∃ (k : Nat), k ≤ m ∧ i = .int .i64 (k : Int) ∧ Hid (∀ (j : Nat) (l : Ls), j < k → ls[j]? = some l → l.fr = false) ∧ wr = w3) (fun i _ => m - (intOf i).toNat)
  case atStart => exact ⟨0, by omega, rfl, hid (fun j l h => by omega), rfl⟩
  case round =>
    obtain ⟨k, hk, rfl, HF, rfl⟩ := hrel
    by_cases hlt : k < m
    · have hlt' : (k : Int) < (m : Int) := by omega
      obtain ⟨g, cc, cur, hv2, hg0, hg1, hgc, hgh, l, hlk, c0, c1, c2', c3⟩ := OwnL.lease HV.out HM.out hlt
      simp at hv2
      obtain ⟨rfl, rfl⟩ := hv2
      have hgw := (HB.out g rfl).2
      cases hf : l.fr
      · rw [hf] at c3
        have HF2 := hid (fun (j : Nat) (q : Ls) (hj : j < k + 1) (hq : ls[j]? = some q) => show q.fr = false by
          rcases (by omega : j < k ∨ j = k) with h | rfl
          · exact HF.out j q h hq
          · rw [hlk] at hq
            obtain rfl := Option.some.inj hq
            exact hf)
        clear hlk hgh hf
        go_wp2_with fail
        go_roundw
        case rel => exact ⟨k + 1, by omega, by go_num, HF2, trivial⟩
        case measure => simp [intOf]; omega
      · rw [hf] at c3
        have HK := hid (ffree_at hlk hf HF.out)
        have fg := frees_at hgh
        clear hlk hgh hf
        have n0 : g ≠ w.heap.size := by omega
        have n1 : w.heap.size ≠ g := by omega
        have n2 : g ≠ w.heap.size + 2 := by omega
        have n3 : w.heap.size + 2 ≠ g := by omega
        have n4 : g ≠ w.heap.size + 1 := by omega
        have n5 : w.heap.size + 1 ≠ g := by omega
        go_wp2_with fail
        have hp : putL ls x = some (ls.set k x, k) := by
          unfold putL
          rw [HK.out, if_pos (by rw [HM.out]; exact hlt)]
        have C4 := chg_row4 wr g (k * 4) (.int .i64 (x.st : Int)) (.int .i64 (x.ct : Int)) (.int .i64 (x.rm : Int)) (.bool x.fr)
        refine bodyPost_ret (row_cell_tmp2 (by rfl) _ _ _ (w.heap.size + 2) _ (.int .i64 (k : Int)) (.bool true) rfl (load_pool (heap_row2 (C4.heap R2.out (by omega)) _ _) rfl) rfl rfl) rfl ⟨?_, ?_⟩
        · exact ((GA.out.mono (fun _ _ h => h.elim)).trans C4 (fun j _ (h : j = g) => by subst h; rfl)).trans (chg_row2 _ (w.heap.size + 2) (.slice a n c) (.slice (some ⟨g, 0, none⟩) m c2)) (fun j hj (h : j = w.heap.size + 2) => by omega)
        · rw [hp]
          have P := (OwnL.put HV.out k x (by rw [HM.out]; exact hlt)).chgN (chg_row2 _ (w.heap.size + 2) (.slice a n c) (.slice (some ⟨g, 0, none⟩) m c2)) (fun j h e => by simp [Value.ownBlock] at h; omega)
          exact ⟨some ⟨g, 0, none⟩, c2, by simp [HM.out], by simpa [HM.out] using P⟩
    · obtain rfl : k = m := by omega
      have hlt' : ¬ (k : Int) < (k : Int) := by omega
      have HN := hid (ffree_none fun j l h => HF.out j l (by have := (List.getElem?_eq_some_iff.mp h).1; have := HM.out; omega) h)
      by_cases hfull : k = 16
      · have hf2 : (k : Int) = 16 := by omega
        have hp : putL ls x = none := by
          unfold putL
          rw [if_neg (by rw [HN.out]; omega), if_pos (by rw [HM.out]; exact hfull)]
        have HP := hid hp
        clear hp
        go_wp2_with fail
        refine bodyPost_ret (row_cell_tmp2 (by rfl) _ _ _ (w.heap.size + 2) _ (.int .i64 0) (.bool false) rfl (load_pool (heap_row2 R2.out _ _) rfl) rfl rfl) rfl ⟨?_, ?_⟩
        · exact (GA.out.mono (fun _ _ h => h.elim)).trans (chg_row2 _ (w.heap.size + 2) (.slice none 0 0) (.slice none 0 0)) (fun j hj (h : j = w.heap.size + 2) => by omega)
        · rw [HP.out]
      · have hf2 : ¬ (k : Int) = 16 := by omega
        have hp : putL ls x = some (ls ++ [x], k) := by
          unfold putL
          rw [if_neg (by rw [HN.out]; omega), if_neg (by rw [HM.out]; exact hfull), HM.out]
        have HP := hid hp
        clear hp
        have LX := hid (OwnR.lit encL wr [x] (by simp) (Nat.le_refl wr.heap.size) #[.int .i64 (x.st : Int), .int .i64 (x.ct : Int), .int .i64 (x.rm : Int), .bool x.fr] 71 rfl rfl)
        have A2 := (Chg.refl (fun _ => False) wr).alloc (.cells #[.int .i64 (x.st : Int), .int .i64 (x.ct : Int), .int .i64 (x.rm : Int), .bool x.fr] 71)
        have HV2 := hid (HV.out.chg A2 fun _ _ _ h => h)
        have G2 := hid (GA.out.trans A2 fun _ _ h => h)
        have S0 := hid (A2.heap R0.out id)
        have S2 := hid (A2.heap R2.out id)
        have kS0 := cells_at S0.out
        have z3 : w.heap.size + 3 ≤ wr.heap.size := by have := Z3.out; omega
        clear A2
        go_wp2_with (at_builtin; refine wpList_appR encL _ rfl _ _ rfl base _ _ ls [x] rfl HV2.out rfl (LX.out.mono (Nat.zero_le _)) (by have := HM.out; simp; omega) (by simp; omega) ?_; intro a' c' w' hO hG; rw [HM.out] at hO; simp only [List.length_singleton] at hO ⊢; rw [HM.out]; have T0 := hid (hG.heap S0.out (fun e => by have := (HB.out _ e).2; omega)); have T2 := hid (hG.heap S2.out (fun e => by have := (HB.out _ e).2; omega)); have kT0 := cells_at T0.out; have fT0 := frees_at T0.out; have kT2 := cells_at T2.out; have fT2 := frees_at T2.out)
        have z4 := hG.size
        simp at z4
        have U0 := hid (heap_set (k := 1) (v := .slice a' (k + 1) c') T0.out)
        have U2 := hid (((Chg.refl (fun j => j = w.heap.size) w').setCell (p := ⟨w.heap.size, 1, none⟩) (.inl rfl) (.slice a' (k + 1) c')).heap T2.out (by omega))
        have GV := hid ((G2.out.mono (fun _ _ h => h.elim)).trans hG (fun _ _ h => h) |>.trans ((Chg.refl (fun j => j = w.heap.size) w').setCell (p := ⟨w.heap.size, 1, none⟩) (.inl rfl) (.slice a' (k + 1) c')) (fun j hj (h : j = w.heap.size) => by omega))
        have HO3 := hid (OwnR.chgN hO ((Chg.refl (fun j => j = w.heap.size) w').setCell (p := ⟨w.heap.size, 1, none⟩) (.inl rfl) (.slice a' (k + 1) c')) (fun g e (h : g = w.heap.size) => by subst h; exact apartT hO T0.out (by decide) e))
        have z5 : (w'.setCell ⟨w.heap.size, 1, none⟩ (.slice a' (k + 1) c')).heap.size = w'.heap.size := by simp
        generalize w'.setCell ⟨w.heap.size, 1, none⟩ (.slice a' (k + 1) c') = w4 at *
        have kU0 := cells_at (show w4.drew.heap[w.heap.size]? = _ from U0.out)
        have kU2 := cells_at (show w4.drew.heap[w.heap.size + 2]? = _ from U2.out)
        have fU2 := frees_at (show w4.drew.heap[w.heap.size + 2]? = _ from U2.out)
        have lU0 := cells_at U0.out
        have lU2 := cells_at U2.out
        have gU2 := frees_at U2.out
        clear kT0 fT0 kT2 fT2 hO hG z5
        go_region_held3 (fun wx => wx.cell? ⟨w.heap.size, 0, none⟩ = some (.slice a n c) ∧ wx.cell? ⟨w.heap.size, 1, none⟩ = some (.slice a' (k + 1) c')) (first | (exact ⟨by rw [kU0]; rfl, by rw [kU0]; rfl⟩) | (exact ⟨cell_at (((chg_row2 w4 (w.heap.size + 2) (.slice a n c) (.slice a' (k + 1) c')).drew).heap U0.out (by omega)), cell_at (((chg_row2 w4 (w.heap.size + 2) (.slice a n c) (.slice a' (k + 1) c')).drew).heap U0.out (by omega))⟩) | go_keep) (fail)
        go_wp2_with fail
        have hw : IntKind.i64.wrap (k : Int) = (k : Int) := by
          rw [IntKind.wrap_i64]
          omega
        refine bodyPost_ret (row_cell_tmp2 (by rfl) _ _ _ (w.heap.size + 2) _ (.int .i64 (k : Int)) (.bool true) rfl (load_pool (heap_row2 (w := w4) U2.out _ _) rfl) (by show Value.int .i64 (IntKind.i64.wrap (k : Int)) = _; rw [hw]) rfl) rfl ⟨?_, ?_⟩
        · exact (GV.out.trans (chg_row2 _ (w.heap.size + 2) (.slice a n c) (.slice a' (k + 1) c')).drew (fun j hj (h : j = w.heap.size + 2) => by omega))
        · rw [HP.out]
          have P := OwnR.chgN HO3.out (chg_row2 w4 (w.heap.size + 2) (.slice a n c) (.slice a' (k + 1) c')).drew (fun j h (e : j = w.heap.size + 2) => by subst e; exact apartT HO3.out U2.out (by decide) h)
          exact ⟨a', c', by simp [HM.out], by simpa [HM.out] using P⟩
end Go.Proofs.Ytopkehknaclhlaa
