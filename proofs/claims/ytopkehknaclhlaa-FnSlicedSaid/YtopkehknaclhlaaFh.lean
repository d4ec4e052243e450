/- Frames of samples, samples of frames. Conditions: at most 1000 samples or frames. -/
import Derived.Test.YtopkehknaclhlaaFc
import Derived.Test.YtopkehknaclhlaaMd
namespace Go.Proofs.Ytopkehknaclhlaa
open Go Go.RowKit

/-- A frame's samples. -/
def smp (f : Fr8) : List (Nat × Nat) := [f 0, f 1, f 2, f 3, f 4, f 5, f 6, f 7]
theorem smp_len (f : Fr8) : (smp f).length = 8 := rfl

theorem run_arrayAt (w : World) (a : Option Addr) (n c : Nat) (h : 8 ≤ n) : (Instr.arrayAt 59 (.slice a n c)).run Try.prog w = .ok (.pointer a) w := by
  have hn : ¬ n < 8 := by omega
  simp [Instr.arrayAt, run_underlying (Try.underlying59), hn]

/-- Frames and the rest come back. -/
def RFramesOf (w : World) (xs : List (Nat × Nat)) (e : Ending) (w' : World) : Prop :=
  ∃ a c fs a2 c2 ys, e = .returned (.tuple #[.slice a fs.length c, .slice a2 ys.length c2]) ∧ fs.flatMap smp ++ ys = xs ∧ ys.length < 8 ∧ fs.length ≤ xs.length ∧ OwnF w' w.heap.size (.slice a fs.length c) fs ∧ OwnC w' w.heap.size (.slice a2 ys.length c2) ys ∧ Chg (fun _ => False) w w'

theorem smp_flat_len (fs : List Fr8) : (fs.flatMap smp).length = 8 * fs.length := by
  induction fs with
  | nil => rfl
  | cons f fs ih => rw [List.flatMap_cons, List.length_append, ih, smp_len, List.length_cons]; omega

/-- The frame that begins a list. -/
def hd8 (ys : List (Nat × Nat)) : Fr8 := fun j => ys.getD j (0, 0)
theorem hd8_smp (ys : List (Nat × Nat)) (h : 8 ≤ ys.length) : smp (hd8 ys) = ys.take 8 := by
  match ys, h with
  | a :: b :: c :: d :: e :: f :: g :: i :: r, _ => rfl
  | [], h => simp at h
  | [_], h => simp at h
  | [_, _], h => simp at h
  | [_, _, _], h => simp at h
  | [_, _, _, _], h => simp at h
  | [_, _, _, _, _], h => simp at h
  | [_, _, _, _, _, _], h => simp at h
  | [_, _, _, _, _, _, _], h => simp at h

set_option maxRecDepth 100000 in
set_option maxHeartbeats 4000000 in
theorem FramesOf_calls (w : World) (v : Value) (xs : List (Nat × Nat)) (hl : xs.length ≤ 1000) (ho : OwnC w 0 v xs) : Calls Try.prog 41 #[v] w (RFramesOf w xs) := by
  have HR0 := hid ((RdC.of_own ho).chg ((Chg.refl (fun _ => False) w).alloc (.cells #[] 59)) fun _ _ h => h)
  obtain ⟨a, c, rfl⟩ := ho.form
  have O0 := hid (OwnR.lit encF w [] (by simp) (Nat.le_refl w.heap.size) #[] 59 rfl rfl)
  have G0 := hid ((Chg.refl (fun _ => False) w).alloc (.cells #[] 59))
  have HB0 := hid (fun g (h : some g = (Value.slice a xs.length c).ownBlock) => (ho.own_lt h).2)
  clear ho
  go_enter Try.func41, Try.ntmps41
  go_wp2_with fail
  go_loopw [0, 4] (fun t s wr => ∃ (fs : List Fr8) (ys : List (Nat × Nat)) (aF : Option Addr) (cF : Nat), fs.length ≤ 1000 ∧ Hid (fs.flatMap smp ++ ys = xs) ∧ s = .slice aF fs.length cF ∧ Hid (OwnF wr w.heap.size (.slice aF fs.length cF) fs) ∧ Hid (RdC wr t ys) ∧ Hid (∀ g, some g = t.ownBlock → g < w.heap.size) ∧ Hid (Chg (fun _ => False) w wr)) (fun t _ _ => match t with | .slice _ n _ => n | _ => 0)
  case atStart => exact ⟨[], xs, _, _, by simp, hid (by simp), rfl, O0, HR0, HB0, G0⟩
  case round =>
    obtain ⟨fs, ys, aF, cF, hfl, HL, rfl, HO, HR, HB, G⟩ := hrel
    clear HR0 O0 HB0 G0
    have lz := G.out.size
    by_cases h8 : 8 ≤ ys.length
    · rcases HR.out with ⟨rfl, rfl⟩ | ⟨g, off, C, rfl, hg, h1, h2, hc⟩
      · simp at h8
      have hcx : ∀ j, j < 8 → wr.cell? ⟨g, off + j, none⟩ = some (.complex .f32 (hd8 ys j).1 (hd8 ys j).2) := fun j hj => by
        rw [hc j (by omega)]
        unfold hd8 cx
        rw [List.getD_eq_getElem?_getD, List.getElem?_eq_getElem (by omega)]
        rfl
      have c0 := hcx 0 (by omega)
      have c1 := hcx 1 (by omega)
      have c2 := hcx 2 (by omega)
      have c3 := hcx 3 (by omega)
      have c4 := hcx 4 (by omega)
      have c5 := hcx 5 (by omega)
      have c6 := hcx 6 (by omega)
      have c7 := hcx 7 (by omega)
      simp only [Nat.add_zero] at c0
      have HF := hid (hd8_smp ys h8)
      have HC := hid (fun j z (h : ys[j]? = some z) => show wr.cell? ⟨g, off + j, none⟩ = some (cx z) from by
        obtain ⟨hj, rfl⟩ := List.getElem?_eq_some_iff.mp h
        exact hc j hj)
      have lb := HB.out g rfl
      clear hcx hc HR HB
      generalize hd8 ys = f at *
      generalize hm : ys.length = m at *
      have h8' : (8 : Int) ≤ (m : Int) := by omega
      have hat := fun w a c => run_arrayAt w a m c h8
      have hC8' : (8 : Int) ≤ (C : Int) := by omega
      have HMM := hid hm
      have HO4 := hid (HO.out.chg ((Chg.refl (fun _ => False) wr).alloc (.cells (FA f) 59)) (fun _ _ _ h => h))
      have L4 := hid (OwnR.lit encF wr [f] (by simp) (Nat.zero_le _) (FA f) 59 rfl rfl)
      clear hm
      have hfl2 : 8 * fs.length + m ≤ 1000 := by
        have e := congrArg List.length HL.out
        rw [List.length_append, smp_flat_len, HMM.out] at e
        omega
      by_cases hC : C = 8
      · have hC' : (C : Int) = 8 := by omega
        subst hC
        obtain rfl : m = 8 := by omega
        go_wp2_with (at_builtin; refine wpList_appR encF _ rfl _ _ rfl w.heap.size _ _ fs [f] rfl HO4.out rfl L4.out (by simp; omega) (by simp; omega) ?_)
        intro a' c' w' hO hG
        have GT := hid (((Chg.refl (fun n => some n = (Value.slice aF fs.length cF).ownBlock) wr).alloc (.cells (FA f) 59)).trans hG (fun _ _ h => h))
        have HO5 := hid hO
        have HRD := hid (show RdC w' (.slice (some ⟨g, off, none⟩) 0 (0)) (ys.drop 8) from .inr ⟨g, off, 0, by rw [List.length_drop, HMM.out], Nat.lt_of_lt_of_le hg GT.out.size, by rw [List.length_drop, HMM.out]; omega, by omega, fun j hj => by
          rw [List.length_drop, HMM.out] at hj
          refine GT.out.cell ?_ (fun e => by have := (HO.out.own_lt (n := g) e).1; omega)
          have hj2 : 8 + j < ys.length := by have := HMM.out; omega
          have e := HC.out (8 + j) (ys[8 + j]) (List.getElem?_eq_getElem hj2)
          rw [List.getElem_drop]
          omega⟩)
        have GE := hid (G.out.trans GT.out (fun n h1 h2 => by have := HO.out.own_lt h2; omega))
        have HL2 := hid (show (fs ++ [f]).flatMap smp ++ ys.drop 8 = xs by
          rw [List.flatMap_append, List.append_assoc, show [f].flatMap smp = smp f by simp, HF.out, List.take_append_drop]
          exact HL.out)
        clear c0 c1 c2 c3 c4 c5 c6 c7 hO hG HO4 L4 GT HO HL G HF HC
        go_wp2
        go_roundw
        case rel => exact ⟨fs ++ [f], ys.drop 8, a', c', by simp; omega, HL2, by simp, by simpa using HO5, HRD, hid (fun g1 h1 => by simp [Value.ownBlock] at h1; omega), GE⟩
        case measure => first | (simp; done) | (simp; omega)
      · have hC' : ¬ (C : Int) = 8 := by omega
        go_wp2_with (at_builtin; refine wpList_appR encF _ rfl _ _ rfl w.heap.size _ _ fs [f] rfl HO4.out rfl L4.out (by simp; omega) (by simp; omega) ?_)
        intro a' c' w' hO hG
        have GT := hid (((Chg.refl (fun n => some n = (Value.slice aF fs.length cF).ownBlock) wr).alloc (.cells (FA f) 59)).trans hG (fun _ _ h => h))
        have HO5 := hid hO
        have HRD := hid (show RdC w' (.slice (some ⟨g, off + 8, none⟩) (m - 8) (C - 8)) (ys.drop 8) from .inr ⟨g, off + 8, C - 8, by rw [List.length_drop, HMM.out], Nat.lt_of_lt_of_le hg GT.out.size, by rw [List.length_drop, HMM.out]; omega, by omega, fun j hj => by
          rw [List.length_drop, HMM.out] at hj
          refine GT.out.cell ?_ (fun e => by have := (HO.out.own_lt (n := g) e).1; omega)
          have hj2 : 8 + j < ys.length := by have := HMM.out; omega
          have e := HC.out (8 + j) (ys[8 + j]) (List.getElem?_eq_getElem hj2)
          rw [List.getElem_drop]
          rw [Nat.add_assoc]; exact e⟩)
        have GE := hid (G.out.trans GT.out (fun n h1 h2 => by have := HO.out.own_lt h2; omega))
        have HL2 := hid (show (fs ++ [f]).flatMap smp ++ ys.drop 8 = xs by
          rw [List.flatMap_append, List.append_assoc, show [f].flatMap smp = smp f by simp, HF.out, List.take_append_drop]
          exact HL.out)
        clear c0 c1 c2 c3 c4 c5 c6 c7 hO hG HO4 L4 GT HO HL G HF HC
        go_wp2
        go_roundw
        case rel => exact ⟨fs ++ [f], ys.drop 8, a', c', by simp; omega, HL2, by simp, by simpa using HO5, HRD, hid (fun g1 h1 => by simp [Value.ownBlock] at h1; omega), GE⟩
        case measure => first | (simp; done) | (simp; omega)
    · have h8' : ¬ (8 : Int) ≤ (ys.length : Int) := by omega
      obtain ⟨at0, ct0, rfl⟩ := HR.out.form
      have hyl : ys.length ≤ 1000 := by omega
      have hfl2 : 8 * fs.length + ys.length = xs.length := by
        have e := congrArg List.length HL.out
        rw [List.length_append, smp_flat_len] at e
        omega
      go_wp2_with fail
      refine (CloneRd_calls _ _ ys (by omega) HR.out).mono ?_
      rintro e w1 ⟨a2, c2, rfl, oy, g1⟩
      go_wp2_with fail
      go_ret2
      exact ⟨_, _, fs, _, _, ys, rfl, HL.out, by omega, by omega, HO.out.chg g1 fun _ _ _ h => h, oy.mono lz, G.out.trans g1 fun _ _ h => h⟩

/-- The samples of the frames come back. -/
def RSamplesOf (w : World) (fs : List Fr8) (e : Ending) (w' : World) : Prop :=
  ∃ a c, e = .returned (.slice a (fs.flatMap smp).length c) ∧ OwnC w' w.heap.size (.slice a (fs.flatMap smp).length c) (fs.flatMap smp) ∧ Chg (fun _ => False) w w'

set_option maxRecDepth 100000 in
set_option maxHeartbeats 4000000 in
theorem SamplesOf_calls (w : World) (v : Value) (fs : List Fr8) (hl : fs.length ≤ 1000) (ho : OwnF w 0 v fs) : Calls Try.prog 43 #[v] w (RSamplesOf w fs) := by
  have HO0 := hid (ho.chg ((Chg.refl (fun _ => False) w).alloc (.cells #[] 33)) fun _ _ _ h => h)
  obtain ⟨a, c, rfl⟩ := ho.form
  have O0 := hid (OwnC.lit w [] 33 rfl (by simp) (Nat.le_refl w.heap.size) #[] rfl)
  have G0 := hid ((Chg.refl (fun _ => False) w).alloc (.cells #[] 33))
  have HB := hid (fun g (h : some g = (Value.slice a fs.length c).ownBlock) => (ho.own_lt h).2)
  clear ho
  generalize hn : fs.length = n at *
  have HN := hid hn
  clear hn
  go_enter Try.func43, Try.ntmps43
  go_wp2_with fail
  go_loopw [3, 9] (fun s i wr => ∃ (k : Nat) (xs : List (Nat × Nat)) (a' : Option Addr) (c' : Nat), k ≤ n ∧ i = .int .i64 (k : Int) ∧ s = .slice a' xs.length c' ∧ Hid (xs = (fs.take k).flatMap smp) ∧ Hid (OwnC wr w.heap.size (.slice a' xs.length c') xs) ∧ Hid (OwnF wr 0 (.slice a n c) fs) ∧ Hid (Chg (fun _ => False) w wr)) (fun _ i _ => n - (intOf i).toNat)
  case atStart => exact ⟨0, [], _, _, by omega, rfl, rfl, hid (by simp), O0, HO0, G0⟩
  case round =>
    obtain ⟨k, xs, a', c', hk, rfl, rfl, HX, HC, HO, G⟩ := hrel
    clear O0 HO0 G0
    have lz := G.out.size
    have hxl : xs.length ≤ 8 * k := by rw [HX.out, smp_flat_len, List.length_take, HN.out]; omega
    by_cases hlt : k < n
    · have hlt' : (k : Int) < (n : Int) := by omega
      obtain ⟨g, cc, hv, hg0, hg1, hgc, f, hxk, hcells⟩ := HO.out.frame HN.out hlt
      simp at hv
      obtain ⟨rfl, rfl⟩ := hv
      have HXK := hid (show (fs.take (k + 1)).flatMap smp = xs ++ smp f by
        rw [List.take_add_one, hxk, Option.toList_some, List.flatMap_append, HX.out]
        simp)
      have c0 := hcells 0 (by omega)
      have c1 := hcells 1 (by omega)
      have c2 := hcells 2 (by omega)
      have c3 := hcells 3 (by omega)
      have c4 := hcells 4 (by omega)
      have c5 := hcells 5 (by omega)
      have c6 := hcells 6 (by omega)
      have c7 := hcells 7 (by omega)
      simp only [Nat.add_zero] at c0
      have HG := hid (HB.out g rfl)
      clear hcells hxk HX
      have HC1 := hid (HC.out.chg ((Chg.refl (fun _ => False) wr).alloc (.cells (FA f) 59)) (fun _ _ _ h => h))
      have HO1 := hid (HO.out.chg ((Chg.refl (fun _ => False) wr).alloc (.cells (FA f) 59)) (fun _ _ _ h => h))
      have HRD := hid (show RdC (wr.alloc (.cells (FA f) 59)) (.slice (some ⟨wr.heap.size, 0, none⟩) 8 8) (smp f) from .inr ⟨wr.heap.size, 0, 8, rfl, by simp, by rw [smp_len]; omega, by unfold maxLen; omega, fun j hj => by
        rw [smp_len] at hj
        rw [Nat.zero_add, cell_at (heap_new wr _), FA_get f hj]
        rcases (by omega : j = 0 ∨ j = 1 ∨ j = 2 ∨ j = 3 ∨ j = 4 ∨ j = 5 ∨ j = 6 ∨ j = 7) with rfl | rfl | rfl | rfl | rfl | rfl | rfl | rfl <;> rfl⟩)
      go_wp2_with (at_builtin; refine wpList_appRd _ rfl _ _ rfl w.heap.size _ _ xs (smp f) rfl HC1.out rfl HRD.out (by rw [smp_len]; omega) (by simp; omega) ?_)
      intro a2 c2' w' hO hG
      have HO5 := hid hO
      have HO6 := hid (HO1.out.chgN hG (fun q h1 h2 => by have := HC.out.own_lt h2; simp [Value.ownBlock] at h1; have := HG.out; omega))
      have GE := hid ((G.out.alloc (.cells (FA f) 59)).trans hG (fun q h1 h2 => by have := HC.out.own_lt h2; omega))
      clear c0 c1 c2 c3 c4 c5 c6 c7 hO hG HC1 HO1 HRD HC HO G
      go_wp2
      go_roundw
      case rel => exact ⟨k + 1, xs ++ smp f, a2, c2', by omega, by go_num, by rw [List.length_append], hid HXK.out.symm, by rw [List.length_append]; exact HO5, HO6, GE⟩
      case measure => simp [intOf]; omega
    · obtain rfl : k = n := by omega
      have hlt' : ¬ (k : Int) < (k : Int) := by omega
      go_wp2
      go_ret
      have e : fs.flatMap smp = xs := by rw [HX.out, ← HN.out, List.take_length]
      exact ⟨a', c', by rw [e]; rfl, by rw [e]; exact HC.out, G.out⟩
end Go.Proofs.Ytopkehknaclhlaa
