/- Frames are drawn. Conditions: none but the cursor. -/
import Derived.Test.YtopkehknaclhlaaFb
namespace Go.Proofs.Ytopkehknaclhlaa
open Go Go.RowKit

theorem set_row8 (a0 a1 a2 a3 a4 a5 a6 a7 v0 v1 v2 v3 v4 v5 v6 v7 : Value) : ((((((((#[a0, a1, a2, a3, a4, a5, a6, a7].setIfInBounds 0 v0).setIfInBounds 1 v1).setIfInBounds 2 v2).setIfInBounds 3 v3).setIfInBounds 4 v4).setIfInBounds 5 v5).setIfInBounds 6 v6).setIfInBounds 7 v7) = #[v0, v1, v2, v3, v4, v5, v6, v7] := by simp
theorem heap_row8 {w : World} {b : Nat} {T : TypeId} {f : Nat × Nat} {a0 a1 a2 a3 a4 a5 a6 a7 : Value} (h : w.heap[b]? = some (.cells #[a0, a1, a2, a3, a4, a5, a6, a7] T f)) (v0 v1 v2 v3 v4 v5 v6 v7 : Value) :
    ((((((((w.setCell ⟨b, 0, none⟩ v0).setCell ⟨b, 1, none⟩ v1).setCell ⟨b, 2, none⟩ v2).setCell ⟨b, 3, none⟩ v3).setCell ⟨b, 4, none⟩ v4).setCell ⟨b, 5, none⟩ v5).setCell ⟨b, 6, none⟩ v6).setCell ⟨b, 7, none⟩ v7).heap[b]? = some (.cells #[v0, v1, v2, v3, v4, v5, v6, v7] T f) := by
  have e := heap_set (v := v7) (k := 7) (heap_set (v := v6) (k := 6) (heap_set (v := v5) (k := 5) (heap_set (v := v4) (k := 4) (heap_set (v := v3) (k := 3) (heap_set (v := v2) (k := 2) (heap_set (v := v1) (k := 1) (heap_set (v := v0) (k := 0) (h))))))))
  rw [set_row8] at e
  exact e
theorem chg_row8 (w : World) (b : Nat) (v0 v1 v2 v3 v4 v5 v6 v7 : Value) : Chg (fun k => k = b) w ((((((((w.setCell ⟨b, 0, none⟩ v0).setCell ⟨b, 1, none⟩ v1).setCell ⟨b, 2, none⟩ v2).setCell ⟨b, 3, none⟩ v3).setCell ⟨b, 4, none⟩ v4).setCell ⟨b, 5, none⟩ v5).setCell ⟨b, 6, none⟩ v6).setCell ⟨b, 7, none⟩ v7) := by
  repeat (first | (with_reducible exact Chg.refl _ _) | (with_reducible refine Chg.setCell ?_ ?_ _; rotate_left; exact .inl rfl))

theorem FA_set (g : Fr8) {k : Nat} (h : k < 8) (x y : Nat) : (FA g).setIfInBounds k (.complex .f32 x y) = FA (fun j => if j = k then (x, y) else g j) := by
  rcases (by omega : k = 0 ∨ k = 1 ∨ k = 2 ∨ k = 3 ∨ k = 4 ∨ k = 5 ∨ k = 6 ∨ k = 7) with rfl | rfl | rfl | rfl | rfl | rfl | rfl | rfl <;> rfl

/-- A frame's variable, read whole. -/
theorem load_frame {w : World} {g : Nat} {cs : Array Value} {t : TypeId} {fr : Nat × Nat} (hg : w.heap[g]? = some (.cells cs t fr)) (hs : cs.size = 8) : (loadVar 59 ⟨g, 0, none⟩).run Try.prog w = .ok (.agg cs) w :=
  run_loadVar_row w g t 59 cs fr _ hg Try.underlying59 rfl (by rw [hs]; kernel_rfl)
theorem results_row1 {fn : Func} {p : Tmp} {ty : TypeId} (h : fn.results = #[.cell p ty]) (tmps : Array Value) (P : Program) (w : World) (g : Nat) (cs : Array Value)
    (hp : tmps.getD p undef = .pointer (some ⟨g, 0, none⟩)) (hl : (loadVar ty ⟨g, 0, none⟩).run P w = .ok (.agg cs) w) :
    (results fn tmps).run P w = .ok (.agg cs) w := by
  simp only [Array.getD_eq_getD_getElem?] at hp
  simp [results, h, hp, asAddr, hl]

/-- A frame comes back; the cursor moves. -/
def RFrame (w : World) (c : Nat) (e : Ending) (w' : World) : Prop := ∃ f : Fr8, e = .returned (.agg (FA f)) ∧ Cur w' c ∧ Chg (fun k => k = c) w w'

abbrev Z8 : Fr8 := fun _ => (0, 0)

set_option maxRecDepth 100000 in
set_option maxHeartbeats 4000000 in
theorem l4Frame_calls (w : World) (c : Nat) (hc : Cur w c) : Calls Try.prog 139 #[.pointer (some ⟨c, 0, none⟩)] w (RFrame w c) := by
  have HC := hid hc
  have ltc := hc.lt
  clear hc
  have R0 := hid (heap_old (o' := .cells (FA Z8) 59) (heap_new w (.cells (FA Z8) 59)))
  have V0 := hid (heap_new' (w := w.alloc (.cells (FA Z8) 59)) (o := .cells (FA Z8) 59) (b := w.heap.size + 1) (by simp))
  have C0 := hid ((HC.out.alloc (.cells (FA Z8) 59)).alloc (.cells (FA Z8) 59))
  have G0 := hid (((Chg.refl (fun k => k = c) w).alloc (.cells (FA Z8) 59)).alloc (.cells (FA Z8) 59))
  go_enter Try.func139, Try.ntmps139
  go_wp2_with fail
  go_loopw [4] (fun i wr => ∃ (k : Nat) (g : Fr8), k ≤ 8 ∧ i = .int .i64 (k : Int) ∧ Hid (wr.heap[w.heap.size]? = some (.cells (FA Z8) 59 (0, 0))) ∧ Hid (wr.heap[w.heap.size + 1]? = some (.cells (FA g) 59 (0, 0))) ∧ Hid (Cur wr c) ∧ Hid (Chg (fun k => k = c) w wr)) (fun i _ => 8 - (intOf i).toNat)
  case atStart => exact ⟨0, Z8, by omega, rfl, R0, V0, C0, G0⟩
  case round =>
    obtain ⟨k, g, hk, rfl, HR, HV, HC, G⟩ := hrel
    clear R0 V0 C0 G0
    have lz := G.out.size
    have lv := heap_lt HV.out
    by_cases hlt : k < 8
    · have hlt' : (k : Int) < 8 := by omega
      go_wp2_with fail
      refine (l01Below_calls _ c HC.out 2 (by omega) (by omega)).mono ?_
      rintro e w1 ⟨x, x0, x1, rfl, hc1, g1⟩
      have lz1 := g1.size
      have HR1 := hid (g1.heap HR.out (by omega))
      have HV1 := hid (g1.heap HV.out (by omega))
      have HC1 := hid hc1
      have G1 := hid (G.out.trans g1 fun _ _ h => h)
      have cv : w1.cell? ⟨w.heap.size + 1, k, none⟩ = some (.complex .f32 (g k).1 (g k).2) := (cell_at HV1.out).trans (FA_get g hlt)
      have fv := frees_at HV1.out
      have HVS := hid ((heap_set (v := .complex .f32 (floatOfInt .f32 x) 0) (k := k) HV1.out).trans (by rw [FA_set g hlt]))
      have GS := hid ((Chg.refl (fun q => q = w.heap.size + 1) w1).setCell (p := ⟨w.heap.size + 1, k, none⟩) (.inl rfl) (.complex .f32 (floatOfInt .f32 x) 0))
      have HRS := hid (GS.out.heap HR1.out (by omega))
      have HCS := hid (HC1.out.chg GS.out (fun n h e => by omega))
      have G1S := hid (G1.out.trans GS.out (fun n h e => by omega))
      clear hc1 g1 HR HV HC G HR1 HV1 HC1 G1 x0 x1
      go_wp2_with fail
      refine (l01Once_calls _ c HCS.out 20 (by omega) (by omega)).mono ?_
      rintro e w2 ⟨b, rfl, hc2, g2⟩
      have HR2 := hid (g2.heap HRS.out (by omega))
      have HV2 := hid (g2.heap HVS.out (by omega))
      have HC2 := hid hc2
      have G2 := hid (G1S.out.trans g2 fun _ _ h => h)
      clear cv fv hc2 g2 HRS HVS HCS G1S GS
      generalize (fun j => if j = k then ((floatOfInt .f32 x), 0) else g j) = g' at *
      cases b
      · go_wp2_with fail
        go_roundw
        case rel => exact ⟨k + 1, g', by omega, by go_num, HR2, HV2, HC2, G2⟩
        case measure => simp [intOf]; omega
      · go_wp2_with fail
        refine (l2Any_calls _ c HC2.out).mono ?_
        rintro e w3 ⟨p, q, _, _, rfl, hc3, g3⟩
        have lz3 := g3.size
        have HR3 := hid (g3.heap HR2.out (by omega))
        have HV3 := hid (g3.heap HV2.out (by omega))
        have HC3 := hid hc3
        have G3 := hid (G2.out.trans g3 fun _ _ h => h)
        have cv : w3.cell? ⟨w.heap.size + 1, k, none⟩ = some (.complex .f32 (g' k).1 (g' k).2) := (cell_at HV3.out).trans (FA_get g' hlt)
        have fv := frees_at HV3.out
        have HVS := hid ((heap_set (v := .complex .f32 p q) (k := k) HV3.out).trans (by rw [FA_set g' hlt]))
        have GS := hid ((Chg.refl (fun q => q = w.heap.size + 1) w3).setCell (p := ⟨w.heap.size + 1, k, none⟩) (.inl rfl) (.complex .f32 p q))
        clear hc3 g3 HR2 HV2 HC2 G2
        go_wp2_with fail
        go_roundw
        case rel => exact ⟨k + 1, _, by omega, by go_num, hid (GS.out.heap HR3.out (by omega)), HVS, hid (HC3.out.chg GS.out (fun n h e => by omega)), hid (G3.out.trans GS.out (fun n h e => by omega))⟩
        case measure => simp [intOf]; omega
    · obtain rfl : k = 8 := by omega
      have hlt' : ¬ ((8 : Nat) : Int) < 8 := by omega
      go_wp2_with fail
      refine (l01Once_calls _ c HC.out 2 (by omega) (by omega)).mono ?_
      rintro e w1 ⟨b, rfl, hc1, g1⟩
      have lz1 := g1.size
      have HR1 := hid (g1.heap HR.out (by omega))
      have HV1 := hid (g1.heap HV.out (by omega))
      have HC1 := hid hc1
      have G1 := hid (G.out.trans g1 fun _ _ h => h)
      have kv := cells_at HV1.out
      have fv := frees_at HV1.out
      have kr := cells_at HR1.out
      have fr := frees_at HR1.out
      clear hc1 g1 HR HV HC G
      cases b
      · go_wp2_with fail
        refine bodyPost_ret (results_row1 (by rfl) _ _ _ w.heap.size _ rfl (load_frame (heap_row8 HR1.out _ _ _ _ _ _ _ _) rfl)) rfl ⟨g, rfl, ?_, ?_⟩
        · exact HC1.out.chg (chg_row8 w1 w.heap.size _ _ _ _ _ _ _ _) (fun n h e => by omega)
        · exact G1.out.trans (chg_row8 w1 w.heap.size _ _ _ _ _ _ _ _) (fun n h e => by omega)
      · go_wp2_with fail
        have GA := chg_row8 w1 (w.heap.size + 1) (.complex .f32 (g 0).1 (g 0).2) (.complex .f32 (g 0).1 (g 0).2) (.complex .f32 (g 1).1 (g 1).2) (.complex .f32 0 0) (.complex .f32 0 0) (.complex .f32 0 0) (.complex .f32 0 0) (.complex .f32 0 0)
        have GB := (GA.mono (S := fun q => q = w.heap.size ∨ q = w.heap.size + 1) fun _ _ h => .inr h).trans (chg_row8 _ w.heap.size (.complex .f32 (g 0).1 (g 0).2) (.complex .f32 (g 0).1 (g 0).2) (.complex .f32 (g 1).1 (g 1).2) (.complex .f32 0 0) (.complex .f32 0 0) (.complex .f32 0 0) (.complex .f32 0 0) (.complex .f32 0 0)) fun _ _ h => .inl h
        refine bodyPost_ret (results_row1 (by rfl) _ _ _ w.heap.size _ rfl (load_frame (heap_row8 (GA.heap HR1.out (by omega)) _ _ _ _ _ _ _ _) rfl)) rfl ⟨fun j => [g 0, g 0, g 1].getD j (0, 0), rfl, ?_, ?_⟩
        · exact HC1.out.chg GB (fun n h e => by omega)
        · exact G1.out.trans GB (fun n h e => by omega)

/-- Frames come back; the cursor moves. -/
def RFrames (w : World) (c : Nat) (e : Ending) (w' : World) : Prop :=
  ∃ a cap fs, fs.length ≤ 7 ∧ e = .returned (.slice a fs.length cap) ∧ OwnF w' w.heap.size (.slice a fs.length cap) fs ∧ Chg (fun k => k = c) w w'

set_option maxRecDepth 100000 in
set_option maxHeartbeats 2000000 in
theorem l4Frames_calls (w : World) (c : Nat) (hc : Cur w c) : Calls Try.prog 99 #[.pointer (some ⟨c, 0, none⟩)] w (RFrames w c) := by
  have HC := hid hc
  have ltc := hc.lt
  clear hc
  go_enter Try.func99, Try.ntmps99
  go_wp2_with fail
  refine (l01Below_calls _ c (HC.out.alloc _) 8 (by omega) (by omega)).mono ?_
  rintro e w1 ⟨x, x0, x1, rfl, hc1, g1⟩
  have HC1 := hid hc1
  have O1 := hid ((OwnR.lit encF w [] (by simp) (Nat.le_refl w.heap.size) #[] 59 rfl rfl).chg g1 (fun n h1 _ e => by omega))
  have lz1 := g1.size
  simp at lz1
  obtain ⟨m, rfl⟩ := Int.eq_ofNat_of_zero_le x0
  have G1 := hid (((Chg.refl (fun k => k = c) w).alloc (.cells #[] 59)).trans g1 fun _ _ h => h)
  clear g1 hc1
  go_wp2_with fail
  go_loopw [3, 4] (fun s i wr => ∃ (a : Option Addr) (cap k : Nat) (fs : List Fr8), k + fs.length ≤ 7 ∧ i = .int .i64 (k : Int) ∧ s = .slice a fs.length cap ∧ Hid (OwnF wr w.heap.size (.slice a fs.length cap) fs) ∧ Hid (Cur wr c) ∧ Hid (Chg (fun k => k = c) w wr)) (fun _ i _ => (intOf i).toNat)
  case atStart => exact ⟨_, _, m, [], by simp; omega, rfl, rfl, O1, HC1, G1⟩
  case round =>
    obtain ⟨a, cap, k, fs, hk, rfl, rfl, HO, HW, G⟩ := hrel
    clear O1 HC1 G1 HC
    have lz0 := G.out.size
    by_cases hlt : 0 < k
    · have hlt' : (0 : Int) < (k : Int) := by omega
      go_wp2_with fail
      refine (l4Frame_calls _ c HW.out).mono ?_
      rintro e w2 ⟨f, rfl, hc2, g2⟩
      have HC3 := hid hc2
      have HO3 := hid (HO.out.chg g2 (fun n h1 _ e => by omega))
      have G3 := hid (G.out.trans g2 fun _ _ h => h)
      clear hc2 g2 HW HO G
      have lz3 := G3.out.size
      have HO4 := hid (HO3.out.chg ((Chg.refl (fun _ => False) w2).alloc (.cells (FA f) 59)) (fun _ _ _ h => h))
      have L4 := hid (OwnR.lit encF w2 [f] (by simp) (Nat.zero_le _) (FA f) 59 rfl rfl)
      go_wp2_with (at_builtin; refine wpList_appR encF _ rfl _ _ rfl w.heap.size _ _ fs [f] rfl HO4.out rfl L4.out (by simp; omega) (by simp; omega) ?_)
      intro a' c' w' hO hG
      have HO5 := hid hO
      have GT := ((Chg.refl (fun n => some n = (Value.slice a fs.length cap).ownBlock) w2).alloc (.cells (FA f) 59)).trans hG (fun _ _ h => h)
      have G5 := hid (G3.out.trans GT (fun n h1 h2 => absurd h1 (by have := (HO3.out.own_lt h2); omega)))
      have HC5 := hid (HC3.out.chg GT (fun n h1 h2 => by have := (HO3.out.own_lt h2); omega))
      clear hO hG GT HO4 HO3 HC3 G3 L4
      go_wp2
      go_roundw
      case rel => exact ⟨a', c', k - 1, fs ++ [f], by simp; omega, by go_num, by simp, by simpa using HO5, HC5, G5⟩
      case measure => simp [intOf]; omega
    · obtain rfl : k = 0 := by omega
      go_wp2
      go_ret
      exact ⟨_, _, fs, by omega, rfl, HO.out, G.out⟩

def RMkF (w : World) (e : Ending) (w' : World) : Prop :=
  ∃ a cap fs, fs.length ≤ 7 ∧ e = .returned (.slice a fs.length cap) ∧ OwnF w' w.heap.size (.slice a fs.length cap) fs ∧ Chg (fun _ => False) w w'

set_option maxHeartbeats 1000000 in
theorem MakeFrames_calls (w : World) (a : Option Addr) (len cap : Nat) (hy : Bytes w w.heap.size a len cap) : Calls Try.prog 44 #[.slice a len cap] w (RMkF w) := by
  have HY := hid hy
  clear hy
  go_enter Try.func44, Try.ntmps44
  go_wp2_with fail
  refine (l01New_calls _ _ _ _ HY.out).mono ?_
  rintro e w1 ⟨c, hc, rfl, hc1, g1⟩
  have HC1 := hid hc1
  clear hc1
  go_wp2_with fail
  refine (l4Frames_calls _ c HC1.out).mono ?_
  rintro e w2 ⟨a2, cap2, fs, hl, rfl, ho, g2⟩
  have HO := hid ho
  clear ho
  have lz1 := g1.size
  go_wp2_with fail
  go_ret
  exact ⟨_, _, fs, hl, rfl, HO.out.mono lz1, g1.trans g2 fun n hn e => by omega⟩
end Go.Proofs.Ytopkehknaclhlaa
