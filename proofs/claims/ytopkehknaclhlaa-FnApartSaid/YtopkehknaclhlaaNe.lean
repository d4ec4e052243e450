/- The reference puts a lease in the first free place. Conditions: at most 16 leases. -/
import Derived.Test.YtopkehknaclhlaaMg
import Derived.Test.YtopkehknaclhlaaCk
namespace Go.Proofs.Ytopkehknaclhlaa
open Go Go.RowKit

theorem row_cell_tmp2 {fn : Func} {p u q : Tmp} {ty : TypeId} (h : fn.results = #[.cell p ty, .tmp u, .tmp q]) (tmps : Array Value) (P : Program) (w : World) (g : Nat) (cs : Array Value) (x y : Value)
    (hp : tmps.getD p undef = .pointer (some ⟨g, 0, none⟩)) (hl : (loadVar ty ⟨g, 0, none⟩).run P w = .ok (.agg cs) w) (hx : tmps.getD u undef = x) (hy : tmps.getD q undef = y) :
    (results fn tmps).run P w = .ok (.tuple #[.agg cs, x, y]) w := by
  simp only [results, h]
  simp only [Array.getD_eq_getD_getElem?] at hp hx hy
  simp [hp, hx, hy, asAddr, hl]
theorem heap_row2 {w : World} {b : Nat} {T : TypeId} {f : Nat × Nat} {a0 a1 : Value} (h : w.heap[b]? = some (.cells #[a0, a1] T f)) (v0 v1 : Value) :
    ((w.setCell ⟨b, 0, none⟩ v0).setCell ⟨b, 1, none⟩ v1).heap[b]? = some (.cells #[v0, v1] T f) := by
  have h := heap_set (k := 1) (v := v1) (heap_set (k := 0) (v := v0) h)
  simpa using h
theorem chg_row2 (w : World) (b : Nat) (v0 v1 : Value) : Chg (fun k => k = b) w ((w.setCell ⟨b, 0, none⟩ v0).setCell ⟨b, 1, none⟩ v1) :=
  ((Chg.refl (fun k => k = b) w).setCell (p := ⟨b, 0, none⟩) (.inl rfl) v0).setCell (p := ⟨b, 1, none⟩) (.inl rfl) v1
theorem load_pool {w : World} {g : Nat} {cs : Array Value} {t : TypeId} {fr : Nat × Nat} (hg : w.heap[g]? = some (.cells cs t fr)) (hs : cs.size = 2) : (loadVar 67 ⟨g, 0, none⟩).run Try.prog w = .ok (.agg cs) w :=
  run_loadVar_row w g t 67 cs fr _ hg Try.underlying67 rfl (by rw [hs]; kernel_rfl)

theorem flat_setL (x : Ls) : ∀ (ls : List Ls) (i : Nat), (ls.set i x).flatMap encL.cells = ((((ls.flatMap encL.cells).set (i * 4) (.int .i64 (x.st : Int))).set (i * 4 + 1) (.int .i64 (x.ct : Int))).set (i * 4 + 2) (.int .i64 (x.rm : Int))).set (i * 4 + 3) (.bool x.fr)
  | [], i => by simp
  | l :: ls, 0 => rfl
  | l :: ls, i + 1 => by
    rw [List.set_cons_succ, List.flatMap_cons, List.flatMap_cons, flat_setL x ls i]
    rw [show (i + 1) * 4 = i * 4 + 4 by omega, show i * 4 + 4 + 1 = i * 4 + 1 + 4 by omega, show i * 4 + 4 + 2 = i * 4 + 2 + 4 by omega, show i * 4 + 4 + 3 = i * 4 + 3 + 4 by omega]
    rfl

theorem OwnL.put {w : World} {base g n c : Nat} {ls : List Ls} (h : OwnL w base (.slice (some ⟨g, 0, none⟩) n c) ls) (i : Nat) (x : Ls) (hi : i < ls.length) :
    OwnL ((((w.setCell ⟨g, i * 4, none⟩ (.int .i64 (x.st : Int))).setCell ⟨g, i * 4 + 1, none⟩ (.int .i64 (x.ct : Int))).setCell ⟨g, i * 4 + 2, none⟩ (.int .i64 (x.rm : Int))).setCell ⟨g, i * 4 + 3, none⟩ (.bool x.fr)) base (.slice (some ⟨g, 0, none⟩) n c) (ls.set i x) := by
  obtain ⟨h1, h2⟩ := h
  rcases h2 with ⟨h2, _⟩ | ⟨g', cap, cur, hv, hg, hh, hc, hm, hs, ht⟩
  · simp at h2
  · simp at hv
    obtain ⟨rfl, rfl, rfl⟩ := hv
    refine ⟨by rw [flat_len], .inr ⟨g, c, (((cur.setIfInBounds (i * 4) (.int .i64 (x.st : Int))).setIfInBounds (i * 4 + 1) (.int .i64 (x.ct : Int))).setIfInBounds (i * 4 + 2) (.int .i64 (x.rm : Int))).setIfInBounds (i * 4 + 3) (.bool x.fr), by rw [List.length_set], hg, heap_set (heap_set (heap_set (heap_set hh))), by rw [List.length_set]; exact hc, hm, by simpa using hs, ?_⟩⟩
    rw [flat_setL, List.length_set]
    simp only [Array.toList_setIfInBounds, List.take_set]
    rw [ht]
theorem chg_row4 (w : World) (b k : Nat) (v0 v1 v2 v3 : Value) : Chg (fun j => j = b) w ((((w.setCell ⟨b, k, none⟩ v0).setCell ⟨b, k + 1, none⟩ v1).setCell ⟨b, k + 2, none⟩ v2).setCell ⟨b, k + 3, none⟩ v3) :=
  ((((Chg.refl (fun j => j = b) w).setCell (p := ⟨b, k, none⟩) (.inl rfl) v0).setCell (p := ⟨b, k + 1, none⟩) (.inl rfl) v1).setCell (p := ⟨b, k + 2, none⟩) (.inl rfl) v2).setCell (p := ⟨b, k + 3, none⟩) (.inl rfl) v3

/-- A block of another type is no block of the slice. -/
theorem apartT {β : Type} {e : Enc β} {w : World} {b g : Nat} {v : Value} {ys : List β} {cs : Array Value} {T : TypeId} {f : Nat × Nat} (h : OwnR e w b v ys) (hb : w.heap[g]? = some (.cells cs T f)) (hT : T ≠ e.E) (h2 : some g = v.ownBlock) : False := by
  rcases h.2 with ⟨rfl, _⟩ | ⟨g2, cap2, cur2, rfl, _, kk, _⟩
  · simp [Value.ownBlock] at h2
  · simp [Value.ownBlock] at h2
    subst h2
    rw [hb] at kk
    simp only [Option.some.injEq, Obj.cells.injEq] at kk
    exact hT kk.2.1

/-- The lease is put, or there is no place. -/
def RPut (w : World) (base : Nat) (s v : Value) (r : Option (List Ls × Nat)) (e : Ending) (w' : World) : Prop :=
  Chg (fun g => some g = v.ownBlock) w w' ∧ match r with
  | some r => ∃ a2 c2, e = .returned (.tuple #[.agg #[s, .slice a2 r.1.length c2], .int .i64 (r.2 : Int), .bool true]) ∧ OwnL w' base (.slice a2 r.1.length c2) r.1
  | none => e = .returned (.tuple #[.agg #[.slice none 0 0, .slice none 0 0], .int .i64 0, .bool false])

set_option maxRecDepth 100000 in
set_option maxHeartbeats 4000000 in
theorem l3Put_calls (w : World) (base : Nat) (a : Option Addr) (n c : Nat) (v : Value) (ls : List Ls) (x : Ls) (hv : OwnL w base v ls) (hb : base ≤ w.heap.size) (m16 : ls.length ≤ 16) :
    Calls Try.prog 128 #[.agg #[.slice a n c, v], .agg #[.int .i64 (x.st : Int), .int .i64 (x.ct : Int), .int .i64 (x.rm : Int), .bool x.fr]] w (RPut w base (.slice a n c) v (putL ls x)) := by
  obtain ⟨a2, c2, rfl⟩ := hv.form
  have A1 := (((Chg.refl (fun _ => False) w).alloc (.cells #[.slice a n c, .slice a2 ls.length c2] 67)).alloc (.cells #[.int .i64 (x.st : Int), .int .i64 (x.ct : Int), .int .i64 (x.rm : Int), .bool x.fr] 71)).alloc (.cells #[.slice none 0 0, .slice none 0 0] 67)
  have HV := hid (hv.chg A1 fun _ _ _ h => h)
  have HB := hid (fun g (h : some g = (Value.slice a2 ls.length c2).ownBlock) => hv.own_lt h)
  have R0 := hid (show (((w.alloc (.cells #[.slice a n c, .slice a2 ls.length c2] 67)).alloc (.cells #[.int .i64 (x.st : Int), .int .i64 (x.ct : Int), .int .i64 (x.rm : Int), .bool x.fr] 71)).alloc (.cells #[.slice none 0 0, .slice none 0 0] 67)).heap[w.heap.size]? = _ from heap_old (heap_old (heap_new w _)))
  have R1 := hid (show (((w.alloc (.cells #[.slice a n c, .slice a2 ls.length c2] 67)).alloc (.cells #[.int .i64 (x.st : Int), .int .i64 (x.ct : Int), .int .i64 (x.rm : Int), .bool x.fr] 71)).alloc (.cells #[.slice none 0 0, .slice none 0 0] 67)).heap[w.heap.size + 1]? = _ from heap_old (heap_new' (w := w.alloc _) (b := w.heap.size + 1) (by simp)))
  have R2 := hid (show (((w.alloc (.cells #[.slice a n c, .slice a2 ls.length c2] 67)).alloc (.cells #[.int .i64 (x.st : Int), .int .i64 (x.ct : Int), .int .i64 (x.rm : Int), .bool x.fr] 71)).alloc (.cells #[.slice none 0 0, .slice none 0 0] 67)).heap[w.heap.size + 2]? = _ from heap_new' (w := (w.alloc _).alloc _) (b := w.heap.size + 2) (by simp))
  have GA := hid A1
  clear A1 hv
  generalize hm : ls.length = m at *
  have HM := hid hm
  clear hm
  go_enter Try.func128, Try.ntmps128
  go_wp2_with fail
  have Z3 := hid (show (((w.alloc (.cells #[.slice a n c, .slice a2 m c2] 67)).alloc (.cells #[.int .i64 (x.st : Int), .int .i64 (x.ct : Int), .int .i64 (x.rm : Int), .bool x.fr] 71)).alloc (.cells #[.slice none 0 0, .slice none 0 0] 67)).heap.size = w.heap.size + 3 by simp)
  generalize (((w.alloc (.cells #[.slice a n c, .slice a2 m c2] 67)).alloc (.cells #[.int .i64 (x.st : Int), .int .i64 (x.ct : Int), .int .i64 (x.rm : Int), .bool x.fr] 71)).alloc (.cells #[.slice none 0 0, .slice none 0 0] 67)) = w3 at *
  have kR0 := cells_at R0.out
  have kR1 := cells_at R1.out
  have kR2 := cells_at R2.out
  have fR0 := frees_at R0.out
  have fR2 := frees_at R2.out
  go_loopw [11] (fun i wr => ∃ (k : Nat), k ≤ m ∧ i = .int .i64 (k : Int) ∧ Hid (∀ (j : Nat) (l : Ls), j < k → ls[j]? = some l → l.fr = false) ∧ wr = w3) (fun i _ => m - (intOf i).toNat)
  case atStart => exact ⟨0, by omega, rfl, hid (fun j l h => by omega), rfl⟩
  case round =>
    obtain ⟨k, hk, rfl, HF, rfl⟩ := hrel
    by_cases hlt : k < m
    · have hlt' : (k : Int) < (m : Int) := by omega
      obtain ⟨g, cc, cur, hv2, hg0, hg1, hgc, hgh, l, hlk, c0, c1, c2', c3⟩ := OwnL.lease HV.out HM.out hlt
      simp at hv2
      obtain ⟨rfl, rfl⟩ := hv2
      have hgw := (HB.out g rfl).2
      cases hf : l.fr
      · rw [hf] at c3
        have HF2 := hid (fun (j : Nat) (q : Ls) (hj : j < k + 1) (hq : ls[j]? = some q) => show q.fr = false by
          rcases (by omega : j < k ∨ j = k) with h | rfl
          · exact HF.out j q h hq
          · rw [hlk] at hq
            obtain rfl := Option.some.inj hq
            exact hf)
        clear hlk hgh hf
        go_wp2_with fail
        go_roundw
        case rel => exact ⟨k + 1, by omega, by go_num, HF2, trivial⟩
        case measure => simp [intOf]; omega
      · rw [hf] at c3
        have HK := hid (ffree_at hlk hf HF.out)
        have fg := frees_at hgh
        clear hlk hgh hf
        have n0 : g ≠ w.heap.size := by omega
        have n1 : w.heap.size ≠ g := by omega
        have n2 : g ≠ w.heap.size + 2 := by omega
        have n3 : w.heap.size + 2 ≠ g := by omega
        have n4 : g ≠ w.heap.size + 1 := by omega
        have n5 : w.heap.size + 1 ≠ g := by omega
        go_wp2_with fail
        have hp : putL ls x = some (ls.set k x, k) := by
          unfold putL
          rw [HK.out, if_pos (by rw [HM.out]; exact hlt)]
        have C4 := chg_row4 wr g (k * 4) (.int .i64 (x.st : Int)) (.int .i64 (x.ct : Int)) (.int .i64 (x.rm : Int)) (.bool x.fr)
        refine bodyPost_ret (row_cell_tmp2 (by rfl) _ _ _ (w.heap.size + 2) _ (.int .i64 (k : Int)) (.bool true) rfl (load_pool (heap_row2 (C4.heap R2.out (by omega)) _ _) rfl) rfl rfl) rfl ⟨?_, ?_⟩
        · exact ((GA.out.mono (fun _ _ h => h.elim)).trans C4 (fun j _ (h : j = g) => by subst h; rfl)).trans (chg_row2 _ (w.heap.size + 2) (.slice a n c) (.slice (some ⟨g, 0, none⟩) m c2)) (fun j hj (h : j = w.heap.size + 2) => by omega)
        · rw [hp]
          have P := (OwnL.put HV.out k x (by rw [HM.out]; exact hlt)).chgN (chg_row2 _ (w.heap.size + 2) (.slice a n c) (.slice (some ⟨g, 0, none⟩) m c2)) (fun j h e => by simp [Value.ownBlock] at h; omega)
          exact ⟨some ⟨g, 0, none⟩, c2, by simp [HM.out], by simpa [HM.out] using P⟩
    · obtain rfl : k = m := by omega
      have hlt' : ¬ (k : Int) < (k : Int) := by omega
      have HN := hid (ffree_none fun j l h => HF.out j l (by have := (List.getElem?_eq_some_iff.mp h).1; have := HM.out; omega) h)
      by_cases hfull : k = 16
      · have hf2 : (k : Int) = 16 := by omega
        have hp : putL ls x = none := by
          unfold putL
          rw [if_neg (by rw [HN.out]; omega), if_pos (by rw [HM.out]; exact hfull)]
        have HP := hid hp
        clear hp
        go_wp2_with fail
        refine bodyPost_ret (row_cell_tmp2 (by rfl) _ _ _ (w.heap.size + 2) _ (.int .i64 0) (.bool false) rfl (load_pool (heap_row2 R2.out _ _) rfl) rfl rfl) rfl ⟨?_, ?_⟩
        · exact (GA.out.mono (fun _ _ h => h.elim)).trans (chg_row2 _ (w.heap.size + 2) (.slice none 0 0) (.slice none 0 0)) (fun j hj (h : j = w.heap.size + 2) => by omega)
        · rw [HP.out]
      · have hf2 : ¬ (k : Int) = 16 := by omega
        have hp : putL ls x = some (ls ++ [x], k) := by
          unfold putL
          rw [if_neg (by rw [HN.out]; omega), if_neg (by rw [HM.out]; exact hfull), HM.out]
        have HP := hid hp
        clear hp
        have LX := hid (OwnR.lit encL wr [x] (by simp) (Nat.le_refl wr.heap.size) #[.int .i64 (x.st : Int), .int .i64 (x.ct : Int), .int .i64 (x.rm : Int), .bool x.fr] 71 rfl rfl)
        have A2 := (Chg.refl (fun _ => False) wr).alloc (.cells #[.int .i64 (x.st : Int), .int .i64 (x.ct : Int), .int .i64 (x.rm : Int), .bool x.fr] 71)
        have HV2 := hid (HV.out.chg A2 fun _ _ _ h => h)
        have G2 := hid (GA.out.trans A2 fun _ _ h => h)
        have S0 := hid (A2.heap R0.out id)
        have S2 := hid (A2.heap R2.out id)
        have kS0 := cells_at S0.out
        have z3 : w.heap.size + 3 ≤ wr.heap.size := by have := Z3.out; omega
        clear A2
        go_wp2_with (at_builtin; refine wpList_appR encL _ rfl _ _ rfl base _ _ ls [x] rfl HV2.out rfl (LX.out.mono (Nat.zero_le _)) (by have := HM.out; simp; omega) (by simp; omega) ?_; intro a' c' w' hO hG; rw [HM.out] at hO; simp only [List.length_singleton] at hO ⊢; rw [HM.out]; have T0 := hid (hG.heap S0.out (fun e => by have := (HB.out _ e).2; omega)); have T2 := hid (hG.heap S2.out (fun e => by have := (HB.out _ e).2; omega)); have kT0 := cells_at T0.out; have fT0 := frees_at T0.out; have kT2 := cells_at T2.out; have fT2 := frees_at T2.out)
        have z4 := hG.size
        simp at z4
        have U0 := hid (heap_set (k := 1) (v := .slice a' (k + 1) c') T0.out)
        have U2 := hid (((Chg.refl (fun j => j = w.heap.size) w').setCell (p := ⟨w.heap.size, 1, none⟩) (.inl rfl) (.slice a' (k + 1) c')).heap T2.out (by omega))
        have GV := hid ((G2.out.mono (fun _ _ h => h.elim)).trans hG (fun _ _ h => h) |>.trans ((Chg.refl (fun j => j = w.heap.size) w').setCell (p := ⟨w.heap.size, 1, none⟩) (.inl rfl) (.slice a' (k + 1) c')) (fun j hj (h : j = w.heap.size) => by omega))
        have HO3 := hid (OwnR.chgN hO ((Chg.refl (fun j => j = w.heap.size) w').setCell (p := ⟨w.heap.size, 1, none⟩) (.inl rfl) (.slice a' (k + 1) c')) (fun g e (h : g = w.heap.size) => by subst h; exact apartT hO T0.out (by decide) e))
        have z5 : (w'.setCell ⟨w.heap.size, 1, none⟩ (.slice a' (k + 1) c')).heap.size = w'.heap.size := by simp
        generalize w'.setCell ⟨w.heap.size, 1, none⟩ (.slice a' (k + 1) c') = w4 at *
        have kU0 := cells_at (show w4.drew.heap[w.heap.size]? = _ from U0.out)
        have kU2 := cells_at (show w4.drew.heap[w.heap.size + 2]? = _ from U2.out)
        have fU2 := frees_at (show w4.drew.heap[w.heap.size + 2]? = _ from U2.out)
        have lU0 := cells_at U0.out
        have lU2 := cells_at U2.out
        have gU2 := frees_at U2.out
        clear kT0 fT0 kT2 fT2 hO hG z5
        go_region_held3 (fun wx => wx.cell? ⟨w.heap.size, 0, none⟩ = some (.slice a n c) ∧ wx.cell? ⟨w.heap.size, 1, none⟩ = some (.slice a' (k + 1) c')) (first | (exact ⟨by rw [kU0]; rfl, by rw [kU0]; rfl⟩) | (exact ⟨cell_at (((chg_row2 w4 (w.heap.size + 2) (.slice a n c) (.slice a' (k + 1) c')).drew).heap U0.out (by omega)), cell_at (((chg_row2 w4 (w.heap.size + 2) (.slice a n c) (.slice a' (k + 1) c')).drew).heap U0.out (by omega))⟩) | go_keep) (fail)
        go_wp2_with fail
        have hw : IntKind.i64.wrap (k : Int) = (k : Int) := by
          rw [IntKind.wrap_i64]
          omega
        refine bodyPost_ret (row_cell_tmp2 (by rfl) _ _ _ (w.heap.size + 2) _ (.int .i64 (k : Int)) (.bool true) rfl (load_pool (heap_row2 (w := w4) U2.out _ _) rfl) (by show Value.int .i64 (IntKind.i64.wrap (k : Int)) = _; rw [hw]) rfl) rfl ⟨?_, ?_⟩
        · exact (GV.out.trans (chg_row2 _ (w.heap.size + 2) (.slice a n c) (.slice a' (k + 1) c')).drew (fun j hj (h : j = w.heap.size + 2) => by omega))
        · rw [HP.out]
          have P := OwnR.chgN HO3.out (chg_row2 w4 (w.heap.size + 2) (.slice a n c) (.slice a' (k + 1) c')).drew (fun j h (e : j = w.heap.size + 2) => by subst e; exact apartT HO3.out U2.out (by decide) h)
          exact ⟨a', c', by simp [HM.out], by simpa [HM.out] using P⟩
end Go.Proofs.Ytopkehknaclhlaa

/- The reference lends a room. Conditions: the pool is valid, the room is one at least. -/
namespace Go.Proofs.Ytopkehknaclhlaa
open Go Go.RowKit

/-- A pool, a number and true come back, or nothing and false. -/
def RPk (w : World) (r : Option (List (Nat × Nat) × List Ls × Nat)) (e : Ending) (w' : World) : Prop :=
  Chg (fun _ => False) w w' ∧ match r with
  | some r => ∃ a c a2 c2, e = .returned (.tuple #[.agg #[.slice a r.1.length c, .slice a2 r.2.1.length c2], .int .i64 (r.2.2 : Int), .bool true]) ∧ OwnC w' w.heap.size (.slice a r.1.length c) r.1 ∧ OwnL w' w.heap.size (.slice a2 r.2.1.length c2) r.2.1
  | none => e = .returned (.tuple #[.agg #[.slice none 0 0, .slice none 0 0], .int .i64 0, .bool false])

theorem l3Put_up (w : World) (base : Nat) (a : Option Addr) (n c : Nat) (v : Value) (ls : List Ls) (x : Ls) (q1 q2 q3 : Int) (hv : OwnL w base v ls) (hb : base ≤ w.heap.size) (m16 : ls.length ≤ 16) (h1 : q1 = (x.st : Int)) (h2 : q2 = (x.ct : Int)) (h3 : q3 = (x.rm : Int)) (h4 : x.fr = false) :
    Calls Try.prog 128 #[.agg #[.slice a n c, v], .agg #[.int .i64 q1, .int .i64 q2, .int .i64 q3, .bool false]] w (RPut w base (.slice a n c) v (putL ls x)) := by
  subst h1 h2 h3
  rw [← h4]
  exact l3Put_calls w base a n c v ls x hv hb m16

set_option maxRecDepth 100000 in
set_option maxHeartbeats 4000000 in
theorem LendRoomS_calls (w : World) (s v : Value) (xs : List (Nat × Nat)) (ls : List Ls) (room : Nat) (ho : OwnC w 0 s xs) (hv : OwnL w 0 v ls) (hp : POk xs.length ls) (hr : 1 ≤ room) (hr2 : room ≤ 1000) :
    Calls Try.prog 75 #[.agg #[s, v], .int .i64 (room : Int)] w (RPk w (lendP xs ls room)) := by
  obtain ⟨a, c, rfl⟩ := ho.form
  obtain ⟨a2, c2, rfl⟩ := hv.form
  have n256 := hp.nle
  have m16 := hp.len
  have A1 := ((Chg.refl (fun _ => False) w).alloc (.cells #[.slice a xs.length c, .slice a2 ls.length c2] 67)).alloc (.cells #[.slice none 0 0, .slice none 0 0] 67)
  have HO := hid (ho.chg A1 fun _ _ _ h => h)
  have HV := hid (hv.chg A1 fun _ _ _ h => h)
  have R0 := hid (show ((w.alloc (.cells #[.slice a xs.length c, .slice a2 ls.length c2] 67)).alloc (.cells #[.slice none 0 0, .slice none 0 0] 67)).heap[w.heap.size]? = _ from heap_old (heap_new w _))
  have R1 := hid (show ((w.alloc (.cells #[.slice a xs.length c, .slice a2 ls.length c2] 67)).alloc (.cells #[.slice none 0 0, .slice none 0 0] 67)).heap[w.heap.size + 1]? = _ from heap_new' (w := w.alloc _) (b := w.heap.size + 1) (by simp))
  have Z1 := hid (show ((w.alloc (.cells #[.slice a xs.length c, .slice a2 ls.length c2] 67)).alloc (.cells #[.slice none 0 0, .slice none 0 0] 67)).heap.size = w.heap.size + 2 by simp)
  have GA := hid A1
  have HP := hid hp
  have hCV := hid (fun i => cov_eq i hp.dj)
  have r1 : decide ((room : Int) < 1) = false := by simp; omega
  have hIs := hid (fun w ho hv => IsPoolS_calls w (.slice a xs.length c) (.slice a2 ls.length c2) xs ls ho hv hp)
  have hTk := hid (fun w ho hv => l3Taken_calls w (.slice a xs.length c) (.slice a2 ls.length c2) xs ls ho hv hp)
  have hCp := hid (fun w ho hv => l3Copy_calls w (.slice a xs.length c) (.slice a2 ls.length c2) xs ls ho hv (by omega) (by omega))
  clear A1 ho hv hp
  generalize hn : xs.length = n at *
  generalize hm : ls.length = m at *
  have HN := hid hn
  have HM := hid hm
  clear hn hm
  go_enter Try.func75, Try.ntmps75
  go_wp2_with (go_at_call 55; refine (hIs.out _ HO.out HV.out).mono ?_; rintro e w1 ⟨rfl, hG⟩; have R0b := hid (hG.heap R0.out (fun h => h)); have kR0b := cells_at R0b.out; have HO1 := hid (HO.out.chg hG fun _ _ _ h => h); have HV1 := hid (HV.out.chg hG fun _ _ _ h => h); have G1 := hid hG)
  refine (hTk.out _ HO1.out HV1.out).mono ?_
  rintro e w2 ⟨b, cb, rfl, hT, hG2⟩
  have HT := hid hT
  have R0c := hid (hG2.heap R0b.out (fun h => h))
  have R1c := hid (hG2.heap (G1.out.heap R1.out (fun h => h)) (fun h => h))
  have HOc := hid (HO1.out.chg hG2 fun _ _ _ h => h)
  have HVc := hid (HV1.out.chg hG2 fun _ _ _ h => h)
  have z2 : w.heap.size + 2 ≤ w2.heap.size := by have := Z1.out; have := G1.out.size; have := hG2.size; omega
  have GW := hid ((GA.out.trans G1.out fun _ _ h => h).trans hG2 fun _ _ h => h)
  clear hT hG2 R0b kR0b HO1 HV1 G1 Z1 GA hG hIs hTk R0 R1 HO HV
  have kR0 := cells_at R0c.out
  have kR1 := cells_at R1c.out
  have fR1 := frees_at R1c.out
  have run0 := hid (show runTo (cv ls) 0 < room from Nat.lt_of_lt_of_le Nat.zero_lt_one hr)
  go_wp2_with fail
  go_loopw [9, 28] (fun q i wr => ∃ (k : Nat), k ≤ n ∧ i = .int .i64 (k : Int) ∧ q = .int .i64 ((runTo (cv ls) k : Nat) : Int) ∧ Hid (∀ j, j ≤ k → runTo (cv ls) j < room) ∧ wr = w2) (fun _ i _ => n - (intOf i).toNat)
  case atStart => exact ⟨0, by omega, rfl, rfl, hid (fun j hj => by have e : j = 0 := (by omega); rw [e]; exact run0.out), rfl⟩
  case round =>
    obtain ⟨k, hk, rfl, rfl, HF, rfl⟩ := hrel
    obtain ⟨wo, rfl⟩ : ∃ wo : World, wo = wr := ⟨_, rfl⟩
    by_cases hlt : k < n
    · have hlt' : (k : Int) < (n : Int) := by omega
      obtain ⟨g, cc, cur, hv2, hg0, hg1, hgc, hgh, z, hz, hcz⟩ := OwnN.int HT.out (tl_len n _) hlt
      simp at hv2
      obtain ⟨rfl, rfl⟩ := hv2
      rw [tl_get n _ hlt, hCV.out k] at hz
      have hrl := runTo_le (cv ls) k
      have hlast := HF.out k (Nat.le_refl k)
      cases hc : cv ls k
      · have hz0 : ¬ (0 : Int) < z := by
          have := Option.some.inj hz
          simp [hc] at this
          omega
        have hrn : runTo (cv ls) (k + 1) = runTo (cv ls) k + 1 := by
          show (if cv ls k then 0 else runTo (cv ls) k + 1) = _
          rw [hc]
          simp
        have HRN := hid hrn
        clear hz hgh hrn hc
        generalize hq : runTo (cv ls) k = q at *
        have HQ := hid hq
        clear hq
        by_cases hrm : q + 1 = room
        · have hrm' : (q : Int) + 1 = (room : Int) := by omega
          have HA := hid (firstAt_some (fun i => decide (room ≤ runTo (cv ls) (i + 1))) n k hlt (by simp [HRN.out, hrm]) (fun i hi => by have := HF.out (i + 1) (by omega); simp; omega))
          go_wp2_with fail
          refine (hCp.out _ HOc.out HVc.out).mono ?_
          rintro e w3 ⟨a3, c3, a4, c4, rfl, hO3, hV3, hG3⟩
          rw [HN.out] at hO3
          rw [HM.out] at hV3
          rw [HN.out, HM.out]
          have zz3 := hG3.size
          have A4 := (Chg.refl (fun _ => False) w3).alloc (.cells #[.slice a3 n c3, .slice a4 m c4] 67)
          have R1d := hid (A4.heap (hG3.heap R1c.out (fun h => h)) (fun h => h))
          have R5 := hid (heap_new w3 (.cells #[.slice a3 n c3, .slice a4 m c4] 67))
          have HO4 := hid (hO3.chg A4 fun _ _ _ h => h)
          have HV4 := hid (hV3.chg A4 fun _ _ _ h => h)
          have GW4 := hid ((GW.out.trans hG3 fun _ _ h => h).trans A4 fun _ _ h => h)
          have z5 : w3.heap.size < (w3.alloc (.cells #[.slice a3 n c3, .slice a4 m c4] 67)).heap.size := by simp
          have HB3 := hid (fun g (h : some g = (Value.slice a3 n c3).ownBlock) => hO3.own_lt h)
          have HB4 := hid (fun g (h : some g = (Value.slice a4 m c4).ownBlock) => hV3.own_lt h)
          clear A4 hG3 hO3 hV3
          go_wp2_with fail
          generalize hw4 : w3.alloc (.cells #[.slice a3 n c3, .slice a4 m c4] 67) = w4 at *
          obtain ⟨pp, hpp⟩ : ∃ pp, pp + room = k + 1 := ⟨k + 1 - room, by omega⟩
          have hst : k + 1 - room = pp := by omega
          have HST := hid hst
          clear hst hw4
          have Z0 := hid (show OwnC w4 wo.heap.size (.slice a3 n c3) (zeroed xs pp 0) by rw [zeroed_zero]; exact HO4.out)
          go_loopw [12] (fun i wx => ∃ (r : Nat), r ≤ room ∧ i = .int .i64 ((pp + r : Nat) : Int) ∧ Hid (OwnC wx wo.heap.size (.slice a3 n c3) (zeroed xs pp r)) ∧ Hid (OwnL wx wo.heap.size (.slice a4 m c4) ls) ∧ Hid (wx.heap[w3.heap.size]? = some (.cells #[.slice a3 n c3, .slice a4 m c4] 67 (0, 0))) ∧ Hid (wx.heap[w.heap.size + 1]? = some (.cells #[.slice none 0 0, .slice none 0 0] 67 (0, 0))) ∧ Hid (Chg (fun _ => False) w wx)) (fun i _ => room + pp - (intOf i).toNat)
          case atStart => exact ⟨0, by omega, by go_num, Z0, HV4, R5, R1d, GW4⟩
          case round =>
            obtain ⟨r, hr3, rfl, IO, IV, I5, I1, IG⟩ := hrel
            have kI5 := cells_at I5.out
            by_cases hl2 : r < room
            · have hl2' : ((pp + r : Nat) : Int) ≤ (k : Int) := by omega
              obtain ⟨g3, cc3, cur3, hv3, hg30, hg31, hgc3, hgh3, hcl3⟩ := IO.out.at2 (n := n) (by rw [zeroed_len]; exact HN.out) (by omega)
              simp at hv3
              obtain ⟨rfl, rfl⟩ := hv3
              have fg := frees_at hgh3
              have jc : wr.cell? ⟨g3, pp + r, none⟩ = some (cx ((zeroed xs pp r).getD (pp + r) (0, 0))) := by rw [cell_at hgh3, hcl3 _ (by omega)]
              have i1 : ((pp + r : Nat) : Int) < (n : Int) := by omega
              have PO := hid (show OwnC (wr.setCell ⟨g3, pp + r, none⟩ (cx (0, 0))) wo.heap.size (.slice (some ⟨g3, 0, none⟩) n c3) (zeroed xs pp (r + 1)) by
                rw [← zeroed_succ]
                exact IO.out.put _ (by rw [zeroed_len, HN.out]; omega) _)
              have hB3 := HB3.out g3 rfl
              have C1 := (Chg.refl (fun j => j = g3) wr).setCell (p := ⟨g3, pp + r, none⟩) (.inl rfl) (cx (0, 0))
              have PV := hid (IV.out.chgN C1 (fun g e1 e2 => by
                subst e2
                exact apartC (by decide) IO.out IV.out rfl e1))
              have P5 := hid (C1.heap I5.out (by omega))
              have P1 := hid (C1.heap I1.out (by omega))
              have PG := hid (IG.out.trans C1 (fun j hj (e : j = g3) => by omega))
              clear C1 hgh3 hg31 hcl3
              go_wp2_with fail
              go_roundw
              case rel => exact ⟨r + 1, by omega, by go_num, PO, PV, P5, P1, PG⟩
              case measure => simp [intOf]; omega
            · obtain rfl : r = room := by omega
              have hl2' : ¬ ((pp + r : Nat) : Int) ≤ (k : Int) := by omega
              have z6 := IG.out.size
              have hup := fun w5 hV5 hb5 q1 q2 q3 e1 e2 e3 => l3Put_up w5 wo.heap.size a3 n c3 (.slice a4 m c4) ls (lendX k r) q1 q2 q3 hV5 hb5 (by rw [HM.out]; exact m16) e1 e2 e3 rfl
              clear kI5
              have kI5 := cells_at I5.out
              go_wp2_with fail
              refine (hup _ IV.out (by have := heap_lt I5.out; omega) _ _ _ (by show (k : Int) - (r : Int) + 1 = ((k + 1 - r : Nat) : Int); omega) rfl rfl).mono ?_
              rintro e w5 ⟨hG5, hr5⟩
              have Q1 := hid (hG5.heap I1.out (fun e => by have := (HB4.out _ e).1; omega))
              have kQ1 := cells_at Q1.out
              have fQ1 := frees_at Q1.out
              have hO5 := hid (IO.out.chgN hG5 (fun g e1 e2 => apartC (by decide) IO.out IV.out e1 e2))
              have QG := hid (IG.out.trans hG5 (fun j hj e => by have := (HB4.out _ e).1; omega))
              have hlp : lendP xs ls r = (putL ls (lendX k r)).map fun q => (zeroed xs pp r, q.1, q.2) := by
                unfold lendP runAt
                rw [HN.out, HA.out]
                show (putL ls (lendX k r)).map (fun q => (zeroed xs (k + 1 - r) r, q.1, q.2)) = _
                rw [HST.out]
              cases hput : putL ls (lendX k r) with
              | none =>
                rw [hput] at hr5 hlp
                obtain rfl := hr5
                have HLP := hid hlp
                clear hlp hput hG5
                go_wp2_with fail
                refine bodyPost_ret (row_cell_tmp2 (by rfl) _ _ _ (w.heap.size + 1) _ (.int .i64 0) (.bool false) rfl (load_pool (heap_row2 Q1.out _ _) rfl) rfl rfl) rfl ⟨?_, ?_⟩
                · exact QG.out.trans (chg_row2 _ (w.heap.size + 1) (.slice none 0 0) (.slice none 0 0)) (fun j hj (h : j = w.heap.size + 1) => by omega)
                · rw [HLP.out]; rfl
              | some qq =>
                rw [hput] at hr5 hlp
                obtain ⟨a5, c5, rfl, O5⟩ := hr5
                have HLP := hid hlp
                have HO5 := hid O5
                clear hlp hput hG5 O5
                go_wp2_with fail
                refine bodyPost_ret (row_cell_tmp2 (by rfl) _ _ _ (w.heap.size + 1) _ (.int .i64 (qq.2 : Int)) (.bool true) rfl (load_pool (heap_row2 Q1.out _ _) rfl) rfl rfl) rfl ⟨?_, ?_⟩
                · exact QG.out.trans (chg_row2 _ (w.heap.size + 1) (.slice a3 n c3) (.slice a5 qq.1.length c5)) (fun j hj (h : j = w.heap.size + 1) => by omega)
                · rw [HLP.out]
                  have CR := chg_row2 w5 (w.heap.size + 1) (.slice a3 n c3) (.slice a5 qq.1.length c5)
                  have o1 := hO5.out.chgN CR (fun g e1 (e2 : g = w.heap.size + 1) => by have := (HB3.out _ e1).1; omega)
                  have o2 := OwnR.chgN HO5.out CR (fun g e1 (e2 : g = w.heap.size + 1) => by subst e2; exact apartT HO5.out Q1.out (by decide) e1)
                  exact ⟨a3, c3, a5, c5, by simp [zeroed_len, HN.out], by simpa [zeroed_len, HN.out] using o1.mono (by omega), OwnR.mono o2 (by omega)⟩
        · have hrm' : ¬ (q : Int) + 1 = (room : Int) := by omega
          have HF2 := hid (fun j (hj : j ≤ k + 1) => show runTo (cv ls) j < room by
            rcases (by omega : j ≤ k ∨ j = k + 1) with h | rfl
            · exact HF.out j h
            · rw [HRN.out]; omega)
          --DEV sorry
          go_wp2_with fail
          go_roundw
          case rel => exact ⟨k + 1, by omega, by go_num, by rw [HRN.out]; go_num, HF2, trivial⟩
          case measure => simp [intOf]; omega
          --END
      · have hz0 : (0 : Int) < z := by
          have := Option.some.inj hz
          simp [hc] at this
          omega
        have hrn : runTo (cv ls) (k + 1) = 0 := by
          show (if cv ls k then 0 else runTo (cv ls) k + 1) = _
          rw [hc]
          simp
        have HRN := hid hrn
        clear hz hgh hrn hc
        have hrm' : ¬ (0 : Int) = (room : Int) := by omega
        have HF2 := hid (fun j (hj : j ≤ k + 1) => show runTo (cv ls) j < room by
            rcases (by omega : j ≤ k ∨ j = k + 1) with h | rfl
            · exact HF.out j h
            · rw [HRN.out]; omega)
        --DEV sorry
        go_wp2_with fail
        go_roundw
        case rel => exact ⟨k + 1, by omega, by go_num, by rw [HRN.out]; rfl, HF2, trivial⟩
        case measure => simp [intOf]; omega
        --END
    · obtain rfl : k = n := by omega
      have hlt' : ¬ (k : Int) < (k : Int) := by omega
      have hno : lendP xs ls room = none := by
        unfold lendP runAt
        rw [HN.out, firstAt_none _ k fun i hi => by have := HF.out (i + 1) (by omega); simp; omega]
      have HNo := hid hno
      clear hno
      --DEV sorry
      go_wp2_with fail
      refine bodyPost_ret (row_cell_tmp2 (by rfl) _ _ _ (w.heap.size + 1) _ (.int .i64 0) (.bool false) rfl (load_pool (heap_row2 R1c.out _ _) rfl) rfl rfl) rfl ⟨?_, ?_⟩
      · exact GW.out.trans (chg_row2 _ (w.heap.size + 1) (.slice none 0 0) (.slice none 0 0)) (fun j hj (h : j = w.heap.size + 1) => by omega)
      · rw [HNo.out]
      --END
end Go.Proofs.Ytopkehknaclhlaa
