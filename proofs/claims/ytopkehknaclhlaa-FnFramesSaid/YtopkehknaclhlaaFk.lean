/- Frames are sealed, tested, turned back. No condition. -/
import Derived.Test.YtopkehknaclhlaaFj
import Derived.RegionTactic
import Derived.ChangeAlike
namespace Go.Proofs.Ytopkehknaclhlaa
open Go Go.RowKit

theorem run_arithAny {P : Program} (w : World) (op : BinOp) (hop : op = .add ∨ op = .sub ∨ op = .mul ∨ op = .quo) (k : FloatKind) (x y : Nat) :
    (Op.Complex.arith op k x y).run P w = .ok (fbin op k x y w) (w.drewN (fask op k x y).toNat) := by
  unfold Op.Complex.arith
  rw [Sem.run_bind, run_fbinAny w op hop k x y]
  rfl
@[go_sem] theorem run_csub {P : Program} (w : World) (t : TypeId) (k : FloatKind) (a b c d : Nat) : (binOp .sub t (.complex k a b) (.complex k c d)).run P w =
    .ok (.complex k (fbin .sub k a c w) (fbin .sub k b d (w.drewN (fask .sub k a c).toNat))) ((w.drewN (fask .sub k a c).toNat).drewN (fask .sub k b d).toNat) := by
  have h1 := run_arithAny (P := P) w .sub (by simp) k a c
  have h2 := run_arithAny (P := P) (w.drewN (fask .sub k a c).toNat) .sub (by simp) k b d
  simp [binOp, Op.complexOp, h1, h2]

/-- A frame with its seal. -/
def sl (f : Fr8) (x y : Nat) : Fr8 := fun j => if j = 7 then (Op.negFloat .f32 x, Op.negFloat .f32 y) else f j
/-- A sealed frame comes back. -/
def RSF (w : World) (f : Fr8) (e : Ending) (w' : World) : Prop := ∃ x y, SumK (fun j => (f j).1) 7 x ∧ SumK (fun j => (f j).2) 7 y ∧ e = .returned (.agg (FA (sl f x y))) ∧ Chg (fun _ => False) w w'

set_option maxRecDepth 100000 in
set_option maxHeartbeats 2000000 in
theorem SealFrame_calls (w : World) (f : Fr8) : Calls Try.prog 50 #[.agg (FA f)] w (RSF w f) := by
  have H0 := hid (heap_old (o' := .cells (FA Z8) 59) (heap_new w (.cells (FA f) 59)))
  have R0 := hid (heap_new' (w := w.alloc (.cells (FA f) 59)) (o := .cells (FA Z8) 59) (b := w.heap.size + 1) (by simp))
  have G0 := hid (((Chg.refl (fun _ => False) w).alloc (.cells (FA f) 59)).alloc (.cells (FA Z8) 59))
  go_enter Try.func50, Try.ntmps50
  go_wp2_with fail
  refine (seal_calls _ f).mono ?_
  rintro e w1 ⟨x, y, hx, hy, rfl, g1⟩
  have H1 := hid (g1.heap H0.out id)
  have R1 := hid (g1.heap R0.out id)
  have G1 := hid (G0.out.trans g1 fun _ _ h => h)
  have HX := hid hx
  have HY := hid hy
  have lz1 := g1.size
  simp at lz1
  have kh := cells_at H1.out
  have fh := frees_at H1.out
  have kr := cells_at R1.out
  have fr := frees_at R1.out
  clear H0 R0 G0 g1 hx hy
  go_wp2_with fail
  have GA := (Chg.refl (fun q => q = w.heap.size) w1).setCell (p := ⟨w.heap.size, 7, none⟩) (.inl rfl) (.complex .f32 (Op.negFloat .f32 x) (Op.negFloat .f32 y))
  have GB := (GA.mono (S := fun q => q = w.heap.size ∨ q = w.heap.size + 1) fun _ _ h => .inl h).trans (chg_row8 _ (w.heap.size + 1) (.complex .f32 (f 0).1 (f 0).2) (.complex .f32 (f 1).1 (f 1).2) (.complex .f32 (f 2).1 (f 2).2) (.complex .f32 (f 3).1 (f 3).2) (.complex .f32 (f 4).1 (f 4).2) (.complex .f32 (f 5).1 (f 5).2) (.complex .f32 (f 6).1 (f 6).2) (.complex .f32 (Op.negFloat .f32 x) (Op.negFloat .f32 y))) fun _ _ h => .inr h
  refine bodyPost_ret (results_row1 (by rfl) _ _ _ (w.heap.size + 1) _ rfl (load_frame (heap_row8 (GA.heap R1.out (by omega)) _ _ _ _ _ _ _ _) rfl)) rfl ⟨x, y, HX.out, HY.out, rfl, ?_⟩
  exact G1.out.trans GB (fun n h e => by omega)

/-- A frame that is sealed by numbers is told as sealed. -/
def RIsS (w : World) (x y : Nat) (e : Ending) (w' : World) : Prop := ∃ b : Bool, (isN .f32 x = false → isN .f32 y = false → b = true) ∧ e = .returned (.bool b) ∧ Chg (fun _ => False) w w'

theorem sealed_law {f : Fr8} {x y x' y' : Nat} (hx : SumK (fun j => (f j).1) 7 x) (hy : SumK (fun j => (f j).2) 7 y) (hx' : SumK (fun j => (sl f x y j).1) 7 x') (hy' : SumK (fun j => (sl f x y j).2) 7 y') (n1 : isN .f32 x = false) (n2 : isN .f32 y = false) :
    eqC ((sl f x y 7).1, (sl f x y 7).2) (Op.negFloat .f32 x', Op.negFloat .f32 y') = true := by
  have e1 := sumK_same hx (sumK_congr (h := fun j => (f j).1) (fun j hj => by unfold sl; rw [if_neg (by omega)]) hx') n1
  have e2 := sumK_same hy (sumK_congr (h := fun j => (f j).2) (fun j hj => by unfold sl; rw [if_neg (by omega)]) hy') n2
  subst e1
  subst e2
  rw [eqC_iff]
  unfold sl
  simp only [if_true]
  rw [eqW_iff, eqW_iff, isN_neg, isN_neg]
  exact ⟨⟨n1, n1, rfl⟩, n2, n2, rfl⟩

set_option maxRecDepth 100000 in
set_option maxHeartbeats 2000000 in
theorem IsSealed_calls (w : World) (f : Fr8) (x y : Nat) (hx : SumK (fun j => (f j).1) 7 x) (hy : SumK (fun j => (f j).2) 7 y) : Calls Try.prog 51 #[.agg (FA (sl f x y))] w (RIsS w x y) := by
  have HX := hid hx
  have HY := hid hy
  clear hx hy
  have LAW := hid (fun x' y' => sealed_law (x' := x') (y' := y') HX.out HY.out)
  generalize sl f x y = s at *
  have H0 := hid (heap_new w (.cells (FA s) 59))
  have G0 := hid ((Chg.refl (fun _ => False) w).alloc (.cells (FA s) 59))
  have k0 := cells_at H0.out
  go_enter Try.func51, Try.ntmps51
  go_wp2_with fail
  go_region_with (first
    | (go_at_call 104; refine (seal_calls _ s).mono ?_; rintro e w1 ⟨x', y', hx', hy', rfl, g1⟩; have HS := hid (LAW.out x' y' hx' hy'); have k1 := cells_at (g1.heap H0.out id); have GX := hid g1; clear hx' hy' g1)
    | (go_at_call 102; refine (EqualPoints_calls _ _ _ _ _).mono ?_; rintro e w2 ⟨rfl, rfl⟩))
  all_goals
    go_wp2_with fail
    go_ret
    exact ⟨_, HS.out, rfl, (((Chg.refl (fun _ => False) w).alloc _).drew.trans GX.out fun _ _ h => h)⟩

/-- A frame whose outer samples are exchanged. -/
def rv (f : Fr8) (i j : Nat) : Fr8 := fun q => if q < i ∨ j < q then f (7 - q) else f q
theorem rv_step (f : Fr8) {i j : Nat} (h : i + j = 7) (hij : i < j) : FA (fun q => if q = j then ((rv f i j i).1, (rv f i j i).2) else if q = i then ((rv f i j j).1, (rv f i j j).2) else rv f i j q) = FA (rv f (i + 1) (j - 1)) := by
  have hc : i = 0 ∧ j = 7 ∨ i = 1 ∧ j = 6 ∨ i = 2 ∧ j = 5 ∨ i = 3 ∧ j = 4 := by omega
  rcases hc with ⟨rfl, rfl⟩ | ⟨rfl, rfl⟩ | ⟨rfl, rfl⟩ | ⟨rfl, rfl⟩ <;> rfl

set_option maxRecDepth 100000 in
set_option maxHeartbeats 4000000 in
theorem Reverse_calls (w : World) (b : Nat) (f : Fr8) (hb : w.heap[b]? = some (.cells (FA f) 59 (0, 0))) : Calls Try.prog 103 #[.slice (some ⟨b, 0, none⟩) 8 8] w (fun e w' => e = .returned (.tuple #[]) ∧ w'.heap[b]? = some (.cells (FA (fun q => f (7 - q))) 59 (0, 0)) ∧ Chg (fun k => k = b) w w') := by
  have H0 := hid hb
  clear hb
  go_enter Try.func103, Try.ntmps103
  go_wp2_with fail
  go_loopw [2, 3] (fun s t wr => ∃ (i j : Nat), i + j = 7 ∧ i ≤ 4 ∧ s = .int .i64 (i : Int) ∧ t = .int .i64 (j : Int) ∧ Hid (wr.heap[b]? = some (.cells (FA (rv f i j)) 59 (0, 0))) ∧ Hid (Chg (fun k => k = b) w wr)) (fun s _ _ => 8 - (intOf s).toNat)
  case atStart => exact ⟨0, 7, by omega, by omega, rfl, rfl, H0, hid (Chg.refl _ w)⟩
  case round =>
    obtain ⟨i, j, hij, hi4, rfl, rfl, H, G⟩ := hrel
    clear H0
    by_cases hlt : i < j
    · have hlt' : (i : Int) < (j : Int) := by omega
      have c1 : wr.cell? ⟨b, i, none⟩ = some (.complex .f32 (rv f i j i).1 (rv f i j i).2) := (cell_at H.out).trans (FA_get _ (by omega))
      have c2 : wr.cell? ⟨b, j, none⟩ = some (.complex .f32 (rv f i j j).1 (rv f i j j).2) := (cell_at H.out).trans (FA_get _ (by omega))
      have ff := frees_at H.out
      have i8 : (i : Int) < 8 := by omega
      have j8 : (j : Int) < 8 := by omega
      have hne : i ≠ j := by omega
      have hne' : j ≠ i := by omega
      have E1 := hid (show ((FA (rv f i j)).setIfInBounds i (.complex .f32 (rv f i j j).1 (rv f i j j).2)).setIfInBounds j (.complex .f32 (rv f i j i).1 (rv f i j i).2) = FA (rv f (i + 1) (j - 1)) by
        rw [FA_set _ (by omega), FA_set _ (by omega)]; exact rv_step f hij hlt)
      have E2 := hid (show ((FA (rv f i j)).setIfInBounds j (.complex .f32 (rv f i j i).1 (rv f i j i).2)).setIfInBounds i (.complex .f32 (rv f i j j).1 (rv f i j j).2) = FA (rv f (i + 1) (j - 1)) by
        rw [Array.setIfInBounds_comm _ _ hne']; exact E1.out)
      generalize (rv f i j i).1 = p1 at *
      generalize (rv f i j i).2 = p2 at *
      generalize (rv f i j j).1 = q1 at *
      generalize (rv f i j j).2 = q2 at *
      have HA := hid (heap_set (v := .complex .f32 p1 p2) (k := j) (heap_set (v := .complex .f32 q1 q2) (k := i) H.out))
      have HB := hid (heap_set (v := .complex .f32 q1 q2) (k := i) (heap_set (v := .complex .f32 p1 p2) (k := j) H.out))
      rw [E1.out] at HA
      go_wp2_with fail
      go_region
      all_goals
        go_wp2_with fail
        go_roundw
        case rel =>
          exact ⟨i + 1, j - 1, by omega, by omega, by go_num, by rw [show ((j - 1 : Nat) : Int) = (j : Int) - 1 by omega], hid HA.out, hid (((G.out.setCell (p := ⟨b, i, none⟩) (.inl rfl) _).setCell (p := ⟨b, j, none⟩) (.inl rfl) _).drew)⟩
        case measure => simp [intOf]; omega
    · have hlt' : ¬ (i : Int) < (j : Int) := by omega
      obtain rfl : i = 4 := by omega
      obtain rfl : j = 3 := by omega
      go_wp2_with fail
      go_end0
      exact ⟨rfl, H.out, G.out⟩

set_option maxRecDepth 100000 in
set_option maxHeartbeats 2000000 in
theorem TurnBack_calls (w : World) (f : Fr8) : Calls Try.prog 49 #[.agg (FA f)] w (fun e w' => e = .returned (.agg (FA (fun q => f (7 - q)))) ∧ Chg (fun _ => False) w w') := by
  have H0 := hid (heap_old (o' := .cells (FA Z8) 59) (heap_new w (.cells (FA f) 59)))
  have R0 := hid (heap_new' (w := w.alloc (.cells (FA f) 59)) (o := .cells (FA Z8) 59) (b := w.heap.size + 1) (by simp))
  have G0 := hid (((Chg.refl (fun _ => False) w).alloc (.cells (FA f) 59)).alloc (.cells (FA Z8) 59))
  go_enter Try.func49, Try.ntmps49
  go_wp2_with fail
  refine (Reverse_calls _ w.heap.size f H0.out).mono ?_
  rintro e w1 ⟨rfl, h1, g1⟩
  have H1 := hid h1
  have R1 := hid (g1.heap R0.out (by omega))
  have lz1 := g1.size
  simp at lz1
  have kh := cells_at H1.out
  have kr := cells_at R1.out
  have fr := frees_at R1.out
  clear H0 R0 h1
  go_wp2_with fail
  refine bodyPost_ret (results_row1 (by rfl) _ _ _ (w.heap.size + 1) _ rfl (load_frame (heap_row8 R1.out _ _ _ _ _ _ _ _) rfl)) rfl ⟨rfl, ?_⟩
  exact (G0.out.trans g1 (fun n h e => by omega)).trans (chg_row8 w1 (w.heap.size + 1) _ _ _ _ _ _ _ _) (fun n h e => by omega)

/-- A frame turned back. -/
def tb (f : Fr8) : Fr8 := fun q => f (7 - q)
theorem TurnBack_one (w : World) (f : Fr8) : Calls Try.prog 49 #[.agg (FA f)] w (fun e w' => e = .returned (.agg (FA (tb f))) ∧ Chg (fun _ => False) w w') := TurnBack_calls w f
theorem TurnBack_two (w : World) (f : Fr8) : Calls Try.prog 49 #[.agg (FA (tb f))] w (fun e w' => e = .returned (.agg (FA f)) ∧ Chg (fun _ => False) w w') := TurnBack_calls w (tb f)
end Go.Proofs.Ytopkehknaclhlaa
