/- The reference's pools. Conditions: a cursor. (Printed by gen_po.py.) -/
import Derived.Test.YtopkehknaclhlaaPn
import Derived.Test.YtopkehknaclhlaaFc
namespace Go.Proofs.Ytopkehknaclhlaa
open Go Go.RowKit

theorem apartTC {w : World} {b g : Nat} {v : Value} {xs : List (Nat × Nat)} {cs : Array Value} {T : TypeId} {f : Nat × Nat} (h : OwnC w b v xs) (hb : w.heap[g]? = some (.cells cs T f)) (hT : T ≠ 33) (h2 : some g = v.ownBlock) : False := by
  rcases h.block with ⟨rfl, _⟩ | ⟨g2, cap2, cur2, rfl, _, kk, _⟩
  · simp [Value.ownBlock] at h2
  · simp [Value.ownBlock] at h2
    subst h2
    rw [hb] at kk
    simp only [Option.some.injEq, Obj.cells.injEq] at kk
    exact hT kk.2.1

/-- What an operation gave: a pool (valid and owned, if told so), perhaps a number, and whether. -/
def RUni (w : World) (s1 v1 : Value) (b1 : Bool) (w' : World) : Prop :=
  b1 = true → ∃ xs ls a c1 a2 c2, s1 = .slice a xs.length c1 ∧ v1 = .slice a2 ls.length c2 ∧ POk xs.length ls ∧ OwnC w' w.heap.size (.slice a xs.length c1) xs ∧ OwnL w' w.heap.size (.slice a2 ls.length c2) ls
theorem RPk.uni {w w' : World} {r : Option (List (Nat × Nat) × List Ls × Nat)} {e : Ending} (h : RPk w r e w') (hok : ∀ q, r = some q → POk q.1.length q.2.1) :
    ∃ sa sn sc va vn vc i1 b1, e = .returned (.tuple #[.agg #[.slice sa sn sc, .slice va vn vc], .int .i64 i1, .bool b1]) ∧ Chg (fun _ => False) w w' ∧ RUni w (.slice sa sn sc) (.slice va vn vc) b1 w' := by
  obtain ⟨hG, hr⟩ := h
  cases r with
  | none => exact ⟨_, _, _, _, _, _, _, _, hr, hG, fun h => by cases h⟩
  | some q =>
    obtain ⟨a, c, a2, c2, he, ho, hv⟩ := hr
    exact ⟨_, _, _, _, _, _, _, _, he, hG, fun _ => ⟨_, _, _, _, _, _, rfl, rfl, hok q rfl, ho, hv⟩⟩
theorem RPb.uni {w w' : World} {r : Option (List (Nat × Nat) × List Ls)} {e : Ending} (h : RPb w r e w') (hok : ∀ q, r = some q → POk q.1.length q.2) :
    ∃ sa sn sc va vn vc b1, e = .returned (.tuple #[.agg #[.slice sa sn sc, .slice va vn vc], .bool b1]) ∧ Chg (fun _ => False) w w' ∧ RUni w (.slice sa sn sc) (.slice va vn vc) b1 w' := by
  obtain ⟨hG, hr⟩ := h
  cases r with
  | none => exact ⟨_, _, _, _, _, _, _, hr, hG, fun h => by cases h⟩
  | some q =>
    obtain ⟨a, c, a2, c2, he, ho, hv⟩ := hr
    exact ⟨_, _, _, _, _, _, _, he, hG, fun _ => ⟨_, _, _, _, _, _, rfl, rfl, hok q rfl, ho, hv⟩⟩
theorem RUni.up {w w2 w' w3 : World} {s1 v1 : Value} {b1 : Bool} {S : Nat → Prop} (h : RUni w s1 v1 b1 w') (hb : w2.heap.size ≤ w.heap.size) (G : Chg S w' w3) (B : Nat) (hS : ∀ j, S j → j = B) (cs : Array Value) (f : Nat × Nat) (hB : w'.heap[B]? = some (.cells cs 67 f)) : RUni w2 s1 v1 b1 w3 := by
  intro e
  obtain ⟨xs, ls, a, c1, a2, c2, h1, h2, h3, h4, h5⟩ := h e
  exact ⟨xs, ls, a, c1, a2, c2, h1, h2, h3, (h4.chgN G (fun j e1 e2 => by rw [hS j e2] at e1; exact apartTC h4 hB (by decide) e1)).mono hb, OwnR.mono (OwnR.chgN h5 G (fun j e1 e2 => by rw [hS j e2] at e1; exact apartT h5 hB (by decide) e1)) hb⟩

theorem LendRoomS_up (w : World) (s v : Value) (xs : List (Nat × Nat)) (ls : List Ls) (room : Nat) (q : Int) (hq : q = (room : Int)) (ho : OwnC w 0 s xs) (hv : OwnL w 0 v ls) (hp : POk xs.length ls) (hr : 1 ≤ room) (hr2 : room ≤ 1000) :
    Calls Try.prog 75 #[.agg #[s, v], .int .i64 q] w (RPk w (lendP xs ls room)) := by
  subst hq
  exact LendRoomS_calls w s v xs ls room ho hv hp hr hr2
theorem CutLeaseS_up (w : World) (s v : Value) (xs : List (Nat × Nat)) (ls : List Ls) (id cut : Nat) (q : Int) (hq : q = (cut : Int)) (ho : OwnC w 0 s xs) (hv : OwnL w 0 v ls) (hp : POk xs.length ls) (hc9 : cut ≤ 1000) :
    Calls Try.prog 78 #[.agg #[s, v], .int .i64 (id : Int), .int .i64 q] w (RPk w (cutP xs ls id cut)) := by
  subst hq
  exact CutLeaseS_calls w s v xs ls id cut ho hv hp hc9

/-- A valid pool comes back; the cursor moves. -/
def RPool (w : World) (c : Nat) (e : Ending) (w' : World) : Prop :=
  ∃ xs ls a c1 a2 c2, e = .returned (.agg #[.slice a xs.length c1, .slice a2 ls.length c2]) ∧ POk xs.length ls ∧ OwnC w' w.heap.size (.slice a xs.length c1) xs ∧ OwnL w' w.heap.size (.slice a2 ls.length c2) ls ∧ Chg (fun j => j = c) w w'

set_option maxRecDepth 100000 in
set_option maxHeartbeats 4000000 in
theorem l3Pool_calls (w : World) (c : Nat) (hc : Cur w c) : Calls Try.prog 105 #[.pointer (some ⟨c, 0, none⟩)] w (RPool w c) := by
  have HC := hid hc
  have ltc := hc.lt
  clear hc
  have R2a := hid (show ((w.alloc (.cells #[.slice none 0 0, .slice none 0 0] 67)).alloc (.cells #[.int .i64 0, .int .i64 1, .int .i64 8, .int .i64 20, .int .i64 40, .int .i64 256] 3)).heap[w.heap.size]? = _ from heap_old (heap_new w _))
  have RIa := hid (show ((w.alloc (.cells #[.slice none 0 0, .slice none 0 0] 67)).alloc (.cells #[.int .i64 0, .int .i64 1, .int .i64 8, .int .i64 20, .int .i64 40, .int .i64 256] 3)).heap[w.heap.size + 1]? = some (.cells (([0, 1, 8, 20, 40, 256] : List Int).map (Value.int .i64)).toArray 3 (0, 0)) from heap_new' (w := w.alloc _) (b := w.heap.size + 1) (by simp))
  have HCa := hid ((HC.out.alloc (.cells #[.slice none 0 0, .slice none 0 0] 67)).alloc (.cells #[.int .i64 0, .int .i64 1, .int .i64 8, .int .i64 20, .int .i64 40, .int .i64 256] 3))
  have GAa := hid (((Chg.refl (fun j => j = c) w).alloc (.cells #[.slice none 0 0, .slice none 0 0] 67)).alloc (.cells #[.int .i64 0, .int .i64 1, .int .i64 8, .int .i64 20, .int .i64 40, .int .i64 256] 3))
  go_enter Try.func105, Try.ntmps105
  go_wp2_with fail
  refine (l01Int_calls _ c HCa.out (w.heap.size + 1) [0, 1, 8, 20, 40, 256] _ RIa.out (by omega) (by simp) (by simp)).mono ?_
  rintro e w1 ⟨x, hx, rfl, hc1, g1⟩
  obtain ⟨n, rfl, hn9⟩ : ∃ n : Nat, x = (n : Int) ∧ n ≤ 256 := by
    simp at hx
    rcases hx with rfl | rfl | rfl | rfl | rfl | rfl
    · exact ⟨0, rfl, by omega⟩
    · exact ⟨1, rfl, by omega⟩
    · exact ⟨8, rfl, by omega⟩
    · exact ⟨20, rfl, by omega⟩
    · exact ⟨40, rfl, by omega⟩
    · exact ⟨256, rfl, by omega⟩
  clear hx
  have R2b := hid (g1.heap R2a.out (by omega))
  have GAb := hid (GAa.out.trans g1 fun _ _ h => h)
  have HCb := hid hc1
  have lz1 := g1.size
  simp at lz1
  clear g1 hc1 R2a RIa HCa GAa HC
  go_wp2_with fail
  refine (NewPoolS_calls _ n hn9).mono ?_
  rintro e w2 ⟨a0, c0, rfl, hO2, g2⟩
  have A2 := (Chg.refl (fun _ => False) w2).alloc (.cells #[.slice a0 n c0, .slice none 0 0] 67)
  have R2c := hid (A2.heap (g2.heap R2b.out (fun h => h)) (fun h => h))
  have R3c := hid (heap_new w2 (.cells #[.slice a0 n c0, .slice none 0 0] 67))
  have HO2 := hid ((hO2.chg A2 fun _ _ _ h => h).mono (show w.heap.size ≤ w1.heap.size by omega))
  have HV2 := hid (OwnR.nil encL (w2.alloc (.cells #[.slice a0 n c0, .slice none 0 0] 67)) w.heap.size)
  have GAc := hid ((GAb.out.trans g2 fun _ _ h => h.elim).trans A2 fun _ _ h => h.elim)
  have HCc := hid ((HCb.out.chg g2 fun _ _ h => h).chg A2 fun _ _ h => h)
  have lz2 := g2.size
  have lz3 : w2.heap.size < (w2.alloc (.cells #[.slice a0 n c0, .slice none 0 0] 67)).heap.size := by simp
  clear A2 g2 hO2 GAb HCb R2b
  go_upto_region 2 with fail
  generalize w2.alloc (.cells #[.slice a0 n c0, .slice none 0 0] 67) = w3 at *
  generalize hB3 : w2.heap.size = B3 at *
  clear hB3
  go_wp2_with fail
  refine (l01Below_calls _ c HCc.out 14 (by omega) (by omega)).mono ?_
  rintro e w4 ⟨x, x0, x1, rfl, hc1, g1⟩
  obtain ⟨kk, rfl⟩ := Int.eq_ofNat_of_zero_le x0
  have R2d := hid (g1.heap R2c.out (by omega))
  have R3d := hid (g1.heap R3c.out (by omega))
  have HO4 := hid (HO2.out.chg g1 (fun j h1 _ e => by omega))
  have HV4 := hid (OwnR.nil encL w4 w.heap.size)
  have GAd := hid (GAc.out.trans g1 fun _ _ h => h)
  have HCd := hid hc1
  have hp0 : POk n [] := ⟨hn9, by simp, by simp, List.Pairwise.nil⟩
  have HP0 := hid hp0
  clear hp0 g1 hc1 R2c R3c HO2 HV2 GAc HCc
  go_wp2_with fail
  go_loopw [5] (fun i wr => ∃ (k : Nat) (xs : List (Nat × Nat)) (ls : List Ls) (a a2 : Option Addr) (c1 c2 : Nat), k ≤ 13 ∧ i = .int .i64 (k : Int) ∧ Hid (POk xs.length ls) ∧ Hid (OwnC wr w.heap.size (.slice a xs.length c1) xs) ∧ Hid (OwnL wr w.heap.size (.slice a2 ls.length c2) ls) ∧ Hid (wr.heap[B3]? = some (.cells #[.slice a xs.length c1, .slice a2 ls.length c2] 67 (0, 0))) ∧ Hid (wr.heap[w.heap.size]? = some (.cells #[.slice none 0 0, .slice none 0 0] 67 (0, 0))) ∧ Hid (Cur wr c) ∧ Hid (Chg (fun j => j = c) w wr)) (fun i _ => (intOf i).toNat)
  case atStart => exact ⟨kk, List.replicate n (0, 0), [], a0, none, c0, 0, by omega, rfl, by rw [List.length_replicate]; exact HP0, by rw [List.length_replicate]; exact HO4, HV4, by rw [List.length_replicate]; exact R3d, R2d, HCd, GAd⟩
  case round =>
    obtain ⟨k, xs, ls, a, a2, c1, c2, hk, rfl, HP, HO, HV, R3, R2, HC, G⟩ := hrel
    obtain ⟨wo, rfl⟩ : ∃ wo : World, wo = wr := ⟨_, rfl⟩
    clear HP0 HO4 HV4 R3d R2d HCd GAd
    have n256 := HP.out.nle
    have m16 := HP.out.len
    have lz4 := G.out.size
    have ltb := heap_lt R3.out
    by_cases hlt : 0 < k
    · have hlt' : (0 : Int) < (k : Int) := by omega
      have kR3 := cells_at R3.out
      go_wp2_with fail
      refine (l01Below_calls _ c HC.out ((ls.length : Int) + 1) (by omega) (by omega)).mono ?_
      rintro e w5 ⟨x, x0, x1, rfl, hc5, g5⟩
      obtain ⟨id, rfl⟩ := Int.eq_ofNat_of_zero_le x0
      have A6 := (Chg.refl (fun _ => False) w5).alloc (.cells #[.slice a xs.length c1, .slice a2 ls.length c2] 67)
      have ltb5 : B3 < w5.heap.size := by have := g5.size; omega
      have lt6 : w5.heap.size < (w5.alloc (.cells #[.slice a xs.length c1, .slice a2 ls.length c2] 67)).heap.size := by simp
      have X3 := hid (A6.heap (g5.heap R3.out (by omega)) (fun h => h))
      have X2 := hid (A6.heap (g5.heap R2.out (by omega)) (fun h => h))
      have X7 := hid (heap_new w5 (.cells #[.slice a xs.length c1, .slice a2 ls.length c2] 67))
      have XO := hid ((HO.out.chg g5 (fun j h1 _ e => by omega)).chg A6 fun _ _ _ h => h)
      have XV := hid ((HV.out.chg g5 (fun j h1 _ e => by omega)).chg A6 fun _ _ _ h => h)
      have XG := hid ((G.out.trans g5 fun _ _ h => h).trans A6 fun _ _ h => h.elim)
      have XC := hid (hc5.chg A6 fun _ _ h => h)
      have k5 := cells_at (g5.heap R3.out (show B3 ≠ c by omega))
      clear A6 g5 hc5 R3 R2 HO HV HC G kR3
      go_upto_region 7 with fail
      clear k5
      generalize w5.alloc (.cells #[.slice a xs.length c1, .slice a2 ls.length c2] 67) = w6 at *
      generalize hB7 : w5.heap.size = B7 at *
      clear hB7
      go_wp2_with fail
      refine (l01Below_calls _ c XC.out 6 (by omega) (by omega)).mono ?_
      rintro e w7 ⟨y, y0, y1, rfl, hc7, g7⟩
      obtain ⟨sw, rfl⟩ := Int.eq_ofNat_of_zero_le y0
      have Y3 := hid (g7.heap X3.out (by omega))
      have Y2 := hid (g7.heap X2.out (by omega))
      have Y7 := hid (g7.heap X7.out (by omega))
      have YO := hid (XO.out.chg g7 (fun j h1 _ e => by omega))
      have YV := hid (XV.out.chg g7 (fun j h1 _ e => by omega))
      have YG := hid (XG.out.trans g7 fun _ _ h => h)
      have YC := hid hc7
      have lt7 : B7 < w7.heap.size := by have := g7.size; omega
      clear g7 hc7 X3 X2 X7 XO XV XG XC
      have kY3 := cells_at Y3.out
      rcases (by omega : sw = 2 ∨ sw = 0 ∨ sw = 1 ∨ sw = 3 ∨ sw = 4 ∨ sw = 5) with rfl | rfl | rfl | rfl | rfl | rfl
      · go_wp2_with fail
        refine (GiveBackS_calls _ _ _ xs ls id (YO.out.mono (Nat.zero_le _)) (OwnR.mono YV.out (Nat.zero_le _)) HP.out).mono ?_
        intro e wz hz
        obtain ⟨sa, sn, sc, va, vn, vc, b1, rfl, gz, hu⟩ := RPb.uni hz (fun q hq => (giveP_ok HP.out hq).1)
        have kz7 := cells_at (gz.heap Y7.out (fun h => h))
        have fz7 := frees_at (gz.heap Y7.out (fun h => h))
        have CZ := chg_row2 wz B7 (.slice sa sn sc) (.slice va vn vc)
        have U3 := hid (CZ.heap (gz.heap Y3.out (fun h => h)) (by omega))
        have U2 := hid (CZ.heap (gz.heap Y2.out (fun h => h)) (by omega))
        have U7 := hid (heap_row2 (gz.heap Y7.out (fun h => h)) (.slice sa sn sc) (.slice va vn vc))
        have UO := hid ((YO.out.chg gz fun _ _ _ h => h).chgN CZ (fun j e1 (e2 : j = B7) => by subst e2; exact apartTC (YO.out.chg gz fun _ _ _ h => h) (gz.heap Y7.out (fun h => h)) (by decide) e1))
        have UV := hid (OwnR.chgN (YV.out.chg gz fun _ _ _ h => h) CZ (fun j e1 (e2 : j = B7) => by subst e2; exact apartT (YV.out.chg gz fun _ _ _ h => h) (gz.heap Y7.out (fun h => h)) (by decide) e1))
        have UC := hid ((YC.out.chg gz fun _ _ h => h).chg CZ (fun j h1 (e : j = B7) => by omega))
        have UG := hid ((YG.out.trans gz fun _ _ h => h.elim).trans CZ (fun j hj (e : j = B7) => by omega))
        have UU := hid (hu.up (w2 := w) (by have := YG.out.size; omega) CZ B7 (fun j h => h) _ _ (gz.heap Y7.out (fun h => h)))
        have uz := gz.size
        clear CZ hz gz hu kY3
        go_upto_region 22 with fail
        clear Y3 Y2 Y7 YO YV YG YC kz7 fz7
        generalize (wz.setCell ⟨B7, 0, none⟩ (.slice sa sn sc)).setCell ⟨B7, 1, none⟩ (.slice va vn vc) = wy at *
        have kU7 := cells_at U7.out
        have kU3 := cells_at U3.out
        have fU3 := frees_at U3.out
        cases b1
        · go_wp2_with fail
          go_roundw
          case rel => exact ⟨k - 1, xs, ls, a, a2, c1, c2, by omega, by go_num, HP, UO, UV, U3, U2, UC, UG⟩
          case measure => simp [intOf]; omega
        · obtain ⟨xs', ls', a', c1', a2', c2', q1, q2, hP', hO', hV'⟩ := UU.out rfl
          simp only [Value.slice.injEq] at q1 q2
          obtain ⟨rfl, rfl, rfl⟩ := q1
          obtain ⟨rfl, rfl, rfl⟩ := q2
          have HP' := hid hP'
          have HO' := hid hO'
          have HV' := hid hV'
          clear hP' hO' hV' UU
          go_wp2_with fail
          go_roundw
          case rel =>
            have CR := chg_row2 wy B3 (.slice sa xs'.length sc) (.slice va ls'.length vc)
            exact ⟨k - 1, xs', ls', sa, va, sc, vc, by omega, by go_num, HP', hid (HO'.out.chgN CR (fun j e1 (e2 : j = B3) => by subst e2; exact apartTC HO'.out U3.out (by decide) e1)), hid (OwnR.chgN HV'.out CR (fun j e1 (e2 : j = B3) => by subst e2; exact apartT HV'.out U3.out (by decide) e1)), hid (heap_row2 U3.out _ _), hid (CR.heap U2.out (by omega)), hid (UC.out.chg CR (fun j h1 (e : j = B3) => by omega)), hid (UG.out.trans CR (fun j hj (e : j = B3) => by omega))⟩
          case measure => simp [intOf]; omega
      · have h0a : w7.drew.cell? ⟨B3, 0, none⟩ = some (.slice a xs.length c1) := cell_at (((Chg.refl (fun _ => False) w7).drew).heap Y3.out (fun h => h))
        have h0b : w7.drew.cell? ⟨B3, 1, none⟩ = some (.slice a2 ls.length c2) := cell_at (((Chg.refl (fun _ => False) w7).drew).heap Y3.out (fun h => h))
        go_wp2_with fail
        go_region_held3 (fun wx => wx.cell? ⟨B3, 0, none⟩ = some (.slice a xs.length c1) ∧ wx.cell? ⟨B3, 1, none⟩ = some (.slice a2 ls.length c2)) (first | (refine ⟨?_, ?_⟩ <;> with_reducible assumption) | go_keep) (first | (go_at_call 124; refine (l01Below_calls _ c (YC.out.chg ((Chg.refl (fun _ => False) w7).drew) (fun _ _ h => h)) 9 (by omega) (by omega)).mono ?_; rintro e w8 ⟨rq, rq0, rq1, rfl, hc8, g8⟩; obtain ⟨rm, rfl⟩ := Int.eq_ofNat_of_zero_le rq0; have g8' := ((Chg.refl (fun j => j = c) w7).drew).trans g8 (fun _ _ h => h); have V3 := hid (g8'.heap Y3.out (by omega)); have V2 := hid (g8'.heap Y2.out (by omega)); have V7 := hid (g8'.heap Y7.out (by omega)); have VO := hid (YO.out.chg g8' (fun j h1 _ e => by omega)); have VV := hid (YV.out.chg g8' (fun j h1 _ e => by omega)); have VG := hid (YG.out.trans g8' fun _ _ h => h); have VC := hid hc8; have lt8 := g8'.size; have h8a : w8.cell? ⟨B3, 0, none⟩ = some (.slice a xs.length c1) := cell_at V3.out; have h8b : w8.cell? ⟨B3, 1, none⟩ = some (.slice a2 ls.length c2) := cell_at V3.out) | (go_at_call 75; refine (LendRoomS_up _ _ _ xs ls (1 + rm) _ (by rw [IntKind.wrap_i64]; omega) (VO.out.mono (Nat.zero_le _)) (OwnR.mono VV.out (Nat.zero_le _)) HP.out (by omega) (by omega)).mono ?_; intro e wz hz; obtain ⟨sa, sn, sc, va, vn, vc, iz, b1, rfl, gz, hu⟩ := RPk.uni hz (fun q hq => (lendP_ok HP.out (by omega) hq).1); have kz7 := cells_at (gz.heap V7.out (fun h => h)); have fz7 := frees_at (gz.heap V7.out (fun h => h)); have Zz := gz.heap V3.out (fun h => h); have hza : wz.cell? ⟨B3, 0, none⟩ = some (.slice a xs.length c1) := cell_at Zz; have hzb : wz.cell? ⟨B3, 1, none⟩ = some (.slice a2 ls.length c2) := cell_at Zz; have Zy := (chg_row2 wz B7 (.slice sa sn sc) (.slice va vn vc)).heap Zz (show B3 ≠ B7 by omega); have hya : ((wz.setCell ⟨B7, 0, none⟩ (.slice sa sn sc)).setCell ⟨B7, 1, none⟩ (.slice va vn vc)).cell? ⟨B3, 0, none⟩ = some (.slice a xs.length c1) := cell_at Zy; have hyb : ((wz.setCell ⟨B7, 0, none⟩ (.slice sa sn sc)).setCell ⟨B7, 1, none⟩ (.slice va vn vc)).cell? ⟨B3, 1, none⟩ = some (.slice a2 ls.length c2) := cell_at Zy; clear Zz Zy))
        clear kY3 g8 hc8 g8' h0a h0b h8a h8b hza hzb hya hyb
        have kz7 := cells_at (gz.heap V7.out (fun h => h))
        have fz7 := frees_at (gz.heap V7.out (fun h => h))
        have CZ := chg_row2 wz B7 (.slice sa sn sc) (.slice va vn vc)
        have U3 := hid (CZ.heap (gz.heap V3.out (fun h => h)) (by omega))
        have U2 := hid (CZ.heap (gz.heap V2.out (fun h => h)) (by omega))
        have U7 := hid (heap_row2 (gz.heap V7.out (fun h => h)) (.slice sa sn sc) (.slice va vn vc))
        have UO := hid ((VO.out.chg gz fun _ _ _ h => h).chgN CZ (fun j e1 (e2 : j = B7) => by subst e2; exact apartTC (VO.out.chg gz fun _ _ _ h => h) (gz.heap V7.out (fun h => h)) (by decide) e1))
        have UV := hid (OwnR.chgN (VV.out.chg gz fun _ _ _ h => h) CZ (fun j e1 (e2 : j = B7) => by subst e2; exact apartT (VV.out.chg gz fun _ _ _ h => h) (gz.heap V7.out (fun h => h)) (by decide) e1))
        have UC := hid ((VC.out.chg gz fun _ _ h => h).chg CZ (fun j h1 (e : j = B7) => by omega))
        have UG := hid ((VG.out.trans gz fun _ _ h => h.elim).trans CZ (fun j hj (e : j = B7) => by omega))
        have UU := hid (hu.up (w2 := w) (by have := VG.out.size; omega) CZ B7 (fun j h => h) _ _ (gz.heap V7.out (fun h => h)))
        have uz := gz.size
        clear CZ hz gz hu
        go_upto_region 22 with fail
        clear V3 V2 V7 VO VV VG VC Y3 Y2 Y7 YO YV YG YC kz7 fz7
        generalize (wz.setCell ⟨B7, 0, none⟩ (.slice sa sn sc)).setCell ⟨B7, 1, none⟩ (.slice va vn vc) = wy at *
        have kU7 := cells_at U7.out
        have kU3 := cells_at U3.out
        have fU3 := frees_at U3.out
        cases b1
        · go_wp2_with fail
          go_roundw
          case rel => exact ⟨k - 1, xs, ls, a, a2, c1, c2, by omega, by go_num, HP, UO, UV, U3, U2, UC, UG⟩
          case measure => simp [intOf]; omega
        · obtain ⟨xs', ls', a', c1', a2', c2', q1, q2, hP', hO', hV'⟩ := UU.out rfl
          simp only [Value.slice.injEq] at q1 q2
          obtain ⟨rfl, rfl, rfl⟩ := q1
          obtain ⟨rfl, rfl, rfl⟩ := q2
          have HP' := hid hP'
          have HO' := hid hO'
          have HV' := hid hV'
          clear hP' hO' hV' UU
          go_wp2_with fail
          go_roundw
          case rel =>
            have CR := chg_row2 wy B3 (.slice sa xs'.length sc) (.slice va ls'.length vc)
            exact ⟨k - 1, xs', ls', sa, va, sc, vc, by omega, by go_num, HP', hid (HO'.out.chgN CR (fun j e1 (e2 : j = B3) => by subst e2; exact apartTC HO'.out U3.out (by decide) e1)), hid (OwnR.chgN HV'.out CR (fun j e1 (e2 : j = B3) => by subst e2; exact apartT HV'.out U3.out (by decide) e1)), hid (heap_row2 U3.out _ _), hid (CR.heap U2.out (by omega)), hid (UC.out.chg CR (fun j h1 (e : j = B3) => by omega)), hid (UG.out.trans CR (fun j hj (e : j = B3) => by omega))⟩
          case measure => simp [intOf]; omega
      · have h0a : w7.drew.cell? ⟨B3, 0, none⟩ = some (.slice a xs.length c1) := cell_at (((Chg.refl (fun _ => False) w7).drew).heap Y3.out (fun h => h))
        have h0b : w7.drew.cell? ⟨B3, 1, none⟩ = some (.slice a2 ls.length c2) := cell_at (((Chg.refl (fun _ => False) w7).drew).heap Y3.out (fun h => h))
        go_wp2_with fail
        go_region_held3 (fun wx => wx.cell? ⟨B3, 0, none⟩ = some (.slice a xs.length c1) ∧ wx.cell? ⟨B3, 1, none⟩ = some (.slice a2 ls.length c2)) (first | (refine ⟨?_, ?_⟩ <;> with_reducible assumption) | go_keep) (first | (go_at_call 124; refine (l01Below_calls _ c (YC.out.chg ((Chg.refl (fun _ => False) w7).drew) (fun _ _ h => h)) 9 (by omega) (by omega)).mono ?_; rintro e w8 ⟨rq, rq0, rq1, rfl, hc8, g8⟩; obtain ⟨rm, rfl⟩ := Int.eq_ofNat_of_zero_le rq0; have g8' := ((Chg.refl (fun j => j = c) w7).drew).trans g8 (fun _ _ h => h); have V3 := hid (g8'.heap Y3.out (by omega)); have V2 := hid (g8'.heap Y2.out (by omega)); have V7 := hid (g8'.heap Y7.out (by omega)); have VO := hid (YO.out.chg g8' (fun j h1 _ e => by omega)); have VV := hid (YV.out.chg g8' (fun j h1 _ e => by omega)); have VG := hid (YG.out.trans g8' fun _ _ h => h); have VC := hid hc8; have lt8 := g8'.size; have h8a : w8.cell? ⟨B3, 0, none⟩ = some (.slice a xs.length c1) := cell_at V3.out; have h8b : w8.cell? ⟨B3, 1, none⟩ = some (.slice a2 ls.length c2) := cell_at V3.out) | (go_at_call 75; refine (LendRoomS_up _ _ _ xs ls (1 + rm) _ (by rw [IntKind.wrap_i64]; omega) (VO.out.mono (Nat.zero_le _)) (OwnR.mono VV.out (Nat.zero_le _)) HP.out (by omega) (by omega)).mono ?_; intro e wz hz; obtain ⟨sa, sn, sc, va, vn, vc, iz, b1, rfl, gz, hu⟩ := RPk.uni hz (fun q hq => (lendP_ok HP.out (by omega) hq).1); have kz7 := cells_at (gz.heap V7.out (fun h => h)); have fz7 := frees_at (gz.heap V7.out (fun h => h)); have Zz := gz.heap V3.out (fun h => h); have hza : wz.cell? ⟨B3, 0, none⟩ = some (.slice a xs.length c1) := cell_at Zz; have hzb : wz.cell? ⟨B3, 1, none⟩ = some (.slice a2 ls.length c2) := cell_at Zz; have Zy := (chg_row2 wz B7 (.slice sa sn sc) (.slice va vn vc)).heap Zz (show B3 ≠ B7 by omega); have hya : ((wz.setCell ⟨B7, 0, none⟩ (.slice sa sn sc)).setCell ⟨B7, 1, none⟩ (.slice va vn vc)).cell? ⟨B3, 0, none⟩ = some (.slice a xs.length c1) := cell_at Zy; have hyb : ((wz.setCell ⟨B7, 0, none⟩ (.slice sa sn sc)).setCell ⟨B7, 1, none⟩ (.slice va vn vc)).cell? ⟨B3, 1, none⟩ = some (.slice a2 ls.length c2) := cell_at Zy; clear Zz Zy))
        clear kY3 g8 hc8 g8' h0a h0b h8a h8b hza hzb hya hyb
        have kz7 := cells_at (gz.heap V7.out (fun h => h))
        have fz7 := frees_at (gz.heap V7.out (fun h => h))
        have CZ := chg_row2 wz B7 (.slice sa sn sc) (.slice va vn vc)
        have U3 := hid (CZ.heap (gz.heap V3.out (fun h => h)) (by omega))
        have U2 := hid (CZ.heap (gz.heap V2.out (fun h => h)) (by omega))
        have U7 := hid (heap_row2 (gz.heap V7.out (fun h => h)) (.slice sa sn sc) (.slice va vn vc))
        have UO := hid ((VO.out.chg gz fun _ _ _ h => h).chgN CZ (fun j e1 (e2 : j = B7) => by subst e2; exact apartTC (VO.out.chg gz fun _ _ _ h => h) (gz.heap V7.out (fun h => h)) (by decide) e1))
        have UV := hid (OwnR.chgN (VV.out.chg gz fun _ _ _ h => h) CZ (fun j e1 (e2 : j = B7) => by subst e2; exact apartT (VV.out.chg gz fun _ _ _ h => h) (gz.heap V7.out (fun h => h)) (by decide) e1))
        have UC := hid ((VC.out.chg gz fun _ _ h => h).chg CZ (fun j h1 (e : j = B7) => by omega))
        have UG := hid ((VG.out.trans gz fun _ _ h => h.elim).trans CZ (fun j hj (e : j = B7) => by omega))
        have UU := hid (hu.up (w2 := w) (by have := VG.out.size; omega) CZ B7 (fun j h => h) _ _ (gz.heap V7.out (fun h => h)))
        have uz := gz.size
        clear CZ hz gz hu
        go_upto_region 22 with fail
        clear V3 V2 V7 VO VV VG VC Y3 Y2 Y7 YO YV YG YC kz7 fz7
        generalize (wz.setCell ⟨B7, 0, none⟩ (.slice sa sn sc)).setCell ⟨B7, 1, none⟩ (.slice va vn vc) = wy at *
        have kU7 := cells_at U7.out
        have kU3 := cells_at U3.out
        have fU3 := frees_at U3.out
        cases b1
        · go_wp2_with fail
          go_roundw
          case rel => exact ⟨k - 1, xs, ls, a, a2, c1, c2, by omega, by go_num, HP, UO, UV, U3, U2, UC, UG⟩
          case measure => simp [intOf]; omega
        · obtain ⟨xs', ls', a', c1', a2', c2', q1, q2, hP', hO', hV'⟩ := UU.out rfl
          simp only [Value.slice.injEq] at q1 q2
          obtain ⟨rfl, rfl, rfl⟩ := q1
          obtain ⟨rfl, rfl, rfl⟩ := q2
          have HP' := hid hP'
          have HO' := hid hO'
          have HV' := hid hV'
          clear hP' hO' hV' UU
          go_wp2_with fail
          go_roundw
          case rel =>
            have CR := chg_row2 wy B3 (.slice sa xs'.length sc) (.slice va ls'.length vc)
            exact ⟨k - 1, xs', ls', sa, va, sc, vc, by omega, by go_num, HP', hid (HO'.out.chgN CR (fun j e1 (e2 : j = B3) => by subst e2; exact apartTC HO'.out U3.out (by decide) e1)), hid (OwnR.chgN HV'.out CR (fun j e1 (e2 : j = B3) => by subst e2; exact apartT HV'.out U3.out (by decide) e1)), hid (heap_row2 U3.out _ _), hid (CR.heap U2.out (by omega)), hid (UC.out.chg CR (fun j h1 (e : j = B3) => by omega)), hid (UG.out.trans CR (fun j hj (e : j = B3) => by omega))⟩
          case measure => simp [intOf]; omega
      · have h0a : w7.drew.cell? ⟨B3, 0, none⟩ = some (.slice a xs.length c1) := cell_at (((Chg.refl (fun _ => False) w7).drew).heap Y3.out (fun h => h))
        have h0b : w7.drew.cell? ⟨B3, 1, none⟩ = some (.slice a2 ls.length c2) := cell_at (((Chg.refl (fun _ => False) w7).drew).heap Y3.out (fun h => h))
        go_wp2_with fail
        go_region_held3 (fun wx => wx.cell? ⟨B3, 0, none⟩ = some (.slice a xs.length c1) ∧ wx.cell? ⟨B3, 1, none⟩ = some (.slice a2 ls.length c2)) (first | (refine ⟨?_, ?_⟩ <;> with_reducible assumption) | go_keep) (first | (go_at_call 124; refine (l01Below_calls _ c (YC.out.chg ((Chg.refl (fun _ => False) w7).drew) (fun _ _ h => h)) 4 (by omega) (by omega)).mono ?_; rintro e w8 ⟨rq, rq0, rq1, rfl, hc8, g8⟩; obtain ⟨rm, rfl⟩ := Int.eq_ofNat_of_zero_le rq0; have g8' := ((Chg.refl (fun j => j = c) w7).drew).trans g8 (fun _ _ h => h); have V3 := hid (g8'.heap Y3.out (by omega)); have V2 := hid (g8'.heap Y2.out (by omega)); have V7 := hid (g8'.heap Y7.out (by omega)); have VO := hid (YO.out.chg g8' (fun j h1 _ e => by omega)); have VV := hid (YV.out.chg g8' (fun j h1 _ e => by omega)); have VG := hid (YG.out.trans g8' fun _ _ h => h); have VC := hid hc8; have lt8 := g8'.size; have h8a : w8.cell? ⟨B3, 0, none⟩ = some (.slice a xs.length c1) := cell_at V3.out; have h8b : w8.cell? ⟨B3, 1, none⟩ = some (.slice a2 ls.length c2) := cell_at V3.out) | (go_at_call 78; refine (CutLeaseS_up _ _ _ xs ls id (1 + rm) _ (by rw [IntKind.wrap_i64]; omega) (VO.out.mono (Nat.zero_le _)) (OwnR.mono VV.out (Nat.zero_le _)) HP.out (by omega)).mono ?_; intro e wz hz; obtain ⟨sa, sn, sc, va, vn, vc, iz, b1, rfl, gz, hu⟩ := RPk.uni hz (fun q hq => (cutP_ok HP.out hq).1); have kz7 := cells_at (gz.heap V7.out (fun h => h)); have fz7 := frees_at (gz.heap V7.out (fun h => h)); have Zz := gz.heap V3.out (fun h => h); have hza : wz.cell? ⟨B3, 0, none⟩ = some (.slice a xs.length c1) := cell_at Zz; have hzb : wz.cell? ⟨B3, 1, none⟩ = some (.slice a2 ls.length c2) := cell_at Zz; have Zy := (chg_row2 wz B7 (.slice sa sn sc) (.slice va vn vc)).heap Zz (show B3 ≠ B7 by omega); have hya : ((wz.setCell ⟨B7, 0, none⟩ (.slice sa sn sc)).setCell ⟨B7, 1, none⟩ (.slice va vn vc)).cell? ⟨B3, 0, none⟩ = some (.slice a xs.length c1) := cell_at Zy; have hyb : ((wz.setCell ⟨B7, 0, none⟩ (.slice sa sn sc)).setCell ⟨B7, 1, none⟩ (.slice va vn vc)).cell? ⟨B3, 1, none⟩ = some (.slice a2 ls.length c2) := cell_at Zy; clear Zz Zy))
        clear kY3 g8 hc8 g8' h0a h0b h8a h8b hza hzb hya hyb
        have kz7 := cells_at (gz.heap V7.out (fun h => h))
        have fz7 := frees_at (gz.heap V7.out (fun h => h))
        have CZ := chg_row2 wz B7 (.slice sa sn sc) (.slice va vn vc)
        have U3 := hid (CZ.heap (gz.heap V3.out (fun h => h)) (by omega))
        have U2 := hid (CZ.heap (gz.heap V2.out (fun h => h)) (by omega))
        have U7 := hid (heap_row2 (gz.heap V7.out (fun h => h)) (.slice sa sn sc) (.slice va vn vc))
        have UO := hid ((VO.out.chg gz fun _ _ _ h => h).chgN CZ (fun j e1 (e2 : j = B7) => by subst e2; exact apartTC (VO.out.chg gz fun _ _ _ h => h) (gz.heap V7.out (fun h => h)) (by decide) e1))
        have UV := hid (OwnR.chgN (VV.out.chg gz fun _ _ _ h => h) CZ (fun j e1 (e2 : j = B7) => by subst e2; exact apartT (VV.out.chg gz fun _ _ _ h => h) (gz.heap V7.out (fun h => h)) (by decide) e1))
        have UC := hid ((VC.out.chg gz fun _ _ h => h).chg CZ (fun j h1 (e : j = B7) => by omega))
        have UG := hid ((VG.out.trans gz fun _ _ h => h.elim).trans CZ (fun j hj (e : j = B7) => by omega))
        have UU := hid (hu.up (w2 := w) (by have := VG.out.size; omega) CZ B7 (fun j h => h) _ _ (gz.heap V7.out (fun h => h)))
        have uz := gz.size
        clear CZ hz gz hu
        go_upto_region 22 with fail
        clear V3 V2 V7 VO VV VG VC Y3 Y2 Y7 YO YV YG YC kz7 fz7
        generalize (wz.setCell ⟨B7, 0, none⟩ (.slice sa sn sc)).setCell ⟨B7, 1, none⟩ (.slice va vn vc) = wy at *
        have kU7 := cells_at U7.out
        have kU3 := cells_at U3.out
        have fU3 := frees_at U3.out
        cases b1
        · go_wp2_with fail
          go_roundw
          case rel => exact ⟨k - 1, xs, ls, a, a2, c1, c2, by omega, by go_num, HP, UO, UV, U3, U2, UC, UG⟩
          case measure => simp [intOf]; omega
        · obtain ⟨xs', ls', a', c1', a2', c2', q1, q2, hP', hO', hV'⟩ := UU.out rfl
          simp only [Value.slice.injEq] at q1 q2
          obtain ⟨rfl, rfl, rfl⟩ := q1
          obtain ⟨rfl, rfl, rfl⟩ := q2
          have HP' := hid hP'
          have HO' := hid hO'
          have HV' := hid hV'
          clear hP' hO' hV' UU
          go_wp2_with fail
          go_roundw
          case rel =>
            have CR := chg_row2 wy B3 (.slice sa xs'.length sc) (.slice va ls'.length vc)
            exact ⟨k - 1, xs', ls', sa, va, sc, vc, by omega, by go_num, HP', hid (HO'.out.chgN CR (fun j e1 (e2 : j = B3) => by subst e2; exact apartTC HO'.out U3.out (by decide) e1)), hid (OwnR.chgN HV'.out CR (fun j e1 (e2 : j = B3) => by subst e2; exact apartT HV'.out U3.out (by decide) e1)), hid (heap_row2 U3.out _ _), hid (CR.heap U2.out (by omega)), hid (UC.out.chg CR (fun j h1 (e : j = B3) => by omega)), hid (UG.out.trans CR (fun j hj (e : j = B3) => by omega))⟩
          case measure => simp [intOf]; omega
      all_goals
        have L0 := hid (OwnC.lit w7 [] 33 rfl (by simp) (Nat.le_refl w7.heap.size) #[] rfl)
        go_wp2_with fail
        refine (l01Below_calls _ c (YC.out.alloc _) 5 (by omega) (by omega)).mono ?_
        rintro e w8 ⟨rq, rq0, rq1, rfl, hc8, g8⟩
        obtain ⟨mm, rfl⟩ := Int.eq_ofNat_of_zero_le rq0
        have L1 := hid (L0.out.chg g8 (fun j h1 _ e => by omega))
        have G8 := hid (((Chg.refl (fun j => j = c) w7).alloc (.cells #[] 33)).trans g8 fun _ _ h => h)
        have HC8 := hid hc8
        clear g8 hc8 L0 kY3
        go_wp2_with fail
        go_loopw [9, 10] (fun s i wr => ∃ (a9 : Option Addr) (c9 m9 : Nat) (ys : List (Nat × Nat)), m9 + ys.length ≤ 4 ∧ i = .int .i64 (m9 : Int) ∧ s = .slice a9 ys.length c9 ∧ Hid (OwnC wr w7.heap.size (.slice a9 ys.length c9) ys) ∧ Hid (Cur wr c) ∧ Hid (Chg (fun j => j = c) w7 wr)) (fun _ i _ => (intOf i).toNat)
        case atStart => exact ⟨_, _, mm, [], by simp; omega, rfl, rfl, L1, HC8, G8⟩
        case round =>
          obtain ⟨a9, c9, m9, ys, hm9, rfl, rfl, IO, IC, IG⟩ := hrel
          obtain ⟨wl, rfl⟩ : ∃ wl : World, wl = wr := ⟨_, rfl⟩
          clear L1 HC8 G8
          have lzl := IG.out.size
          by_cases hl9 : 0 < m9
          · have hl9' : (0 : Int) < (m9 : Int) := by omega
            go_wp2_with fail
            refine (l2Any_calls _ c IC.out).mono ?_
            rintro e w9 ⟨z1, z2, _, _, rfl, hc9, g9⟩
            have IO2 := hid ((IO.out.chg g9 (fun j h1 _ e => by omega)).chg ((Chg.refl (fun _ => False) w9).alloc (.cells #[.complex .f32 z1 z2] 33)) fun _ _ _ h => h)
            have IC2 := hid (hc9.alloc (.cells #[.complex .f32 z1 z2] 33))
            have IG2 := hid ((IG.out.trans g9 fun _ _ h => h).alloc (.cells #[.complex .f32 z1 z2] 33))
            have L4 := hid (OwnC.lit w9 [(z1, z2)] 33 rfl (by simp) (Nat.zero_le _) #[.complex .f32 z1 z2] rfl)
            have lz9 := IG2.out.size
            simp at lz9
            clear g9 hc9 IO IC IG
            go_wp2_with (at_builtin; refine wpList_app _ rfl _ _ rfl w7.heap.size _ _ ys [(z1, z2)] rfl IO2.out rfl L4.out (by simp; omega) (by simp; omega) ?_)
            intro a' c' w' hO hG
            have HO5 := hid hO
            have G5 := hid (IG2.out.trans hG (fun j h1 h2 => absurd h1 (by have := (IO2.out.own_lt h2); omega)))
            have HC5 := hid (IC2.out.chg hG (fun j h1 h2 => by have := (IO2.out.own_lt h2); omega))
            clear hO hG IO2 IG2 IC2 L4
            go_wp2_with fail
            go_roundw
            case rel => exact ⟨a', c', m9 - 1, ys ++ [(z1, z2)], by simp; omega, by go_num, by simp, by simpa using HO5, HC5, G5⟩
            case measure => simp [intOf]; omega
          · obtain rfl : m9 = 0 := by omega
            have V3 := hid (IG.out.heap Y3.out (by omega))
            have V2 := hid (IG.out.heap Y2.out (by omega))
            have V7 := hid (IG.out.heap Y7.out (by omega))
            have VO := hid (YO.out.chg IG.out (fun j h1 _ e => by omega))
            have VV := hid (YV.out.chg IG.out (fun j h1 _ e => by omega))
            have VG := hid (YG.out.trans IG.out fun _ _ h => h)
            have VC := hid IC.out
            have kV3 := cells_at V3.out
            have hap := hid (AppendToS_calls wl (.slice a xs.length c1) (.slice a2 ls.length c2) (.slice a9 ys.length c9) xs ys ls id (VO.out.mono (Nat.zero_le _)) (OwnR.mono VV.out (Nat.zero_le _)) (IO.out.mono (Nat.zero_le _)) HP.out (by omega))
            have hlen : ys.length ≤ 4 := by omega
            go_wp2_with fail
            refine hap.out.mono ?_
            intro e wz hz
            obtain ⟨sa, sn, sc, va, vn, vc, b1, rfl, gz, hu⟩ := RPb.uni hz (fun q hq => (appP_ok HP.out hq).1)
            clear kV3 hap
            have kz7 := cells_at (gz.heap V7.out (fun h => h))
            have fz7 := frees_at (gz.heap V7.out (fun h => h))
            have CZ := chg_row2 wz B7 (.slice sa sn sc) (.slice va vn vc)
            have U3 := hid (CZ.heap (gz.heap V3.out (fun h => h)) (by omega))
            have U2 := hid (CZ.heap (gz.heap V2.out (fun h => h)) (by omega))
            have U7 := hid (heap_row2 (gz.heap V7.out (fun h => h)) (.slice sa sn sc) (.slice va vn vc))
            have UO := hid ((VO.out.chg gz fun _ _ _ h => h).chgN CZ (fun j e1 (e2 : j = B7) => by subst e2; exact apartTC (VO.out.chg gz fun _ _ _ h => h) (gz.heap V7.out (fun h => h)) (by decide) e1))
            have UV := hid (OwnR.chgN (VV.out.chg gz fun _ _ _ h => h) CZ (fun j e1 (e2 : j = B7) => by subst e2; exact apartT (VV.out.chg gz fun _ _ _ h => h) (gz.heap V7.out (fun h => h)) (by decide) e1))
            have UC := hid ((VC.out.chg gz fun _ _ h => h).chg CZ (fun j h1 (e : j = B7) => by omega))
            have UG := hid ((VG.out.trans gz fun _ _ h => h.elim).trans CZ (fun j hj (e : j = B7) => by omega))
            have UU := hid (hu.up (w2 := w) (by have := VG.out.size; omega) CZ B7 (fun j h => h) _ _ (gz.heap V7.out (fun h => h)))
            have uz := gz.size
            clear CZ hz gz hu
            go_upto_region 22 with fail
            clear V3 V2 V7 VO VV VG VC Y3 Y2 Y7 YO YV YG YC kz7 fz7
            generalize (wz.setCell ⟨B7, 0, none⟩ (.slice sa sn sc)).setCell ⟨B7, 1, none⟩ (.slice va vn vc) = wy at *
            have kU7 := cells_at U7.out
            have kU3 := cells_at U3.out
            have fU3 := frees_at U3.out
            cases b1
            · go_wp2_with fail
              go_roundw
              case rel => exact ⟨k - 1, xs, ls, a, a2, c1, c2, by omega, by go_num, HP, UO, UV, U3, U2, UC, UG⟩
              case measure => simp [intOf]; omega
            · obtain ⟨xs', ls', a', c1', a2', c2', q1, q2, hP', hO', hV'⟩ := UU.out rfl
              simp only [Value.slice.injEq] at q1 q2
              obtain ⟨rfl, rfl, rfl⟩ := q1
              obtain ⟨rfl, rfl, rfl⟩ := q2
              have HP' := hid hP'
              have HO' := hid hO'
              have HV' := hid hV'
              clear hP' hO' hV' UU
              go_wp2_with fail
              go_roundw
              case rel =>
                have CR := chg_row2 wy B3 (.slice sa xs'.length sc) (.slice va ls'.length vc)
                exact ⟨k - 1, xs', ls', sa, va, sc, vc, by omega, by go_num, HP', hid (HO'.out.chgN CR (fun j e1 (e2 : j = B3) => by subst e2; exact apartTC HO'.out U3.out (by decide) e1)), hid (OwnR.chgN HV'.out CR (fun j e1 (e2 : j = B3) => by subst e2; exact apartT HV'.out U3.out (by decide) e1)), hid (heap_row2 U3.out _ _), hid (CR.heap U2.out (by omega)), hid (UC.out.chg CR (fun j h1 (e : j = B3) => by omega)), hid (UG.out.trans CR (fun j hj (e : j = B3) => by omega))⟩
              case measure => simp [intOf]; omega
    · obtain rfl : k = 0 := by omega
      have kR3 := cells_at R3.out
      have kR2 := cells_at R2.out
      have fR2 := frees_at R2.out
      have hB : w.heap.size ≠ B3 := by omega
      have hB' : B3 ≠ w.heap.size := by omega
      go_wp2_with fail
      refine bodyPost_ret (results_row1 (by rfl) _ _ _ w.heap.size _ rfl (load_pool (heap_row2 R2.out _ _) rfl)) rfl ⟨xs, ls, a, c1, a2, c2, rfl, HP.out, ?_, ?_, ?_⟩
      · exact HO.out.chgN (chg_row2 wo w.heap.size _ _) (fun j e1 (e2 : j = w.heap.size) => by subst e2; exact apartTC HO.out R2.out (by decide) e1)
      · exact OwnR.chgN HV.out (chg_row2 wo w.heap.size _ _) (fun j e1 (e2 : j = w.heap.size) => by subst e2; exact apartT HV.out R2.out (by decide) e1)
      · exact G.out.trans (chg_row2 wo w.heap.size _ _) (fun j hj (e : j = w.heap.size) => by omega)
end Go.Proofs.Ytopkehknaclhlaa
