/- The reference's drawn table. Conditions: a cursor; at most 2^20 bytes. (Printed by gen_vh.py.) -/
import Derived.Test.YtopkehknaclhlaaVg
import Derived.Test.YtopkehknaclhlaaGen
import Derived.Test.YtopkehknaclhlaaFc
namespace Go.Proofs.Ytopkehknaclhlaa
open Go Go.RowKit

theorem TOk.nil : TOk [] := ⟨by simp, by simp, by simp, fun i j h1 h2 => by simp at h2⟩
theorem GridTable_calls1 (w : World) (s : Nat) (h : (s : Int) ≤ 2) :
    Calls Try.prog 83 #[.int .i64 (1 + (s : Int))] w (RGr w (s + 1)) := by
  have := GridTable_calls w (s + 1) (by omega) (by omega)
  rwa [show ((s + 1 : Nat) : Int) = 1 + (s : Int) by omega] at this
/-- Where the table that is made stands. -/
structure TbMid (w wr : World) (c : Nat) (a : Option Addr) (c1 : Nat) (a2 : Option Addr) (c2 : Nat) (xs : List (Nat × Nat)) (zs : List Int) : Prop where
  lc : c < w.heap.size
  T : TOk xs
  L : zs.length = xs.length
  O : OwnC wr w.heap.size (.slice a xs.length c1) xs
  V : OwnN wr w.heap.size (.slice a2 xs.length c2) zs
  R1 : wr.heap[w.heap.size + 1]? = some (.cells #[.slice a xs.length c1, .slice a2 xs.length c2] 36 (0, 0))
  R0 : wr.heap[w.heap.size]? = some (.cells #[.slice none 0 0, .slice none 0 0] 36 (0, 0))
  C : Cur wr c
  G : Chg (fun j => j = c) w wr
theorem TbMid.cur {w wr w' : World} {c : Nat} {a : Option Addr} {c1 : Nat} {a2 : Option Addr} {c2 : Nat} {xs : List (Nat × Nat)} {zs : List Int} (h : TbMid w wr c a c1 a2 c2 xs zs) (hc : Cur w' c) (g : Chg (fun j => j = c) wr w') : TbMid w w' c a c1 a2 c2 xs zs :=
  ⟨h.lc, h.T, h.L, h.O.chg g (fun q h1 _ e => by have := h.lc; omega), OwnR.chg h.V g (fun q h1 _ e => by have := h.lc; omega), g.heap h.R1 (by have := h.lc; omega), g.heap h.R0 (by have := h.lc; omega), hc, h.G.trans g fun _ _ h => h⟩
theorem TbMid.lt1 {w wr : World} {c : Nat} {a : Option Addr} {c1 : Nat} {a2 : Option Addr} {c2 : Nat} {xs : List (Nat × Nat)} {zs : List Int} (h : TbMid w wr c a c1 a2 c2 xs zs) : w.heap.size + 1 < wr.heap.size := heap_lt h.R1
theorem TbMid.alc {w wr : World} {c : Nat} {a : Option Addr} {c1 : Nat} {a2 : Option Addr} {c2 : Nat} {xs : List (Nat × Nat)} {zs : List Int} (h : TbMid w wr c a c1 a2 c2 xs zs) (o : Obj) : TbMid w (wr.alloc o) c a c1 a2 c2 xs zs :=
  h.cur (h.C.alloc o) ((Chg.refl _ wr).alloc o)
theorem TbMid.box {w wr w' : World} {c B : Nat} {a : Option Addr} {c1 : Nat} {a2 : Option Addr} {c2 : Nat} {xs : List (Nat × Nat)} {zs : List Int} {cs : Array Value} {f : Nat × Nat} (h : TbMid w wr c a c1 a2 c2 xs zs) (g : Chg (fun j => j = B) wr w') (hB : wr.heap[B]? = some (.cells cs 36 f)) (lB : w.heap.size + 1 < B) : TbMid w w' c a c1 a2 c2 xs zs :=
  ⟨h.lc, h.T, h.L, h.O.chgN g (fun q e1 (e2 : q = B) => by subst e2; exact apTC h.O hB (by decide) e1), OwnR.chgN h.V g (fun q e1 (e2 : q = B) => by subst e2; exact apT h.V hB (by decide) e1), g.heap h.R1 (by show ¬ (w.heap.size + 1 = B); omega), g.heap h.R0 (by show ¬ (w.heap.size = B); omega), h.C.chg g (fun j h1 (e : j = B) => by have := h.lc; omega), h.G.trans g fun j hj (e : j = B) => by omega⟩
/-- A new variable that holds what putting gave. -/
structure TbOut (w wx : World) (b : Bool) (bq : Nat) (a3 : Option Addr) (c3 : Nat) (a4 : Option Addr) (c4 : Nat) (xs' : List (Nat × Nat)) (zs' : List Int) : Prop where
  ok : b = true → TOk xs' ∧ zs'.length = xs'.length
  R : wx.heap[bq]? = some (.cells #[.slice a3 xs'.length c3, .slice a4 zs'.length c4] 36 (0, 0))
  O : OwnC wx w.heap.size (.slice a3 xs'.length c3) xs'
  V : OwnN wx w.heap.size (.slice a4 zs'.length c4) zs'
/-- A table comes back; the cursor moves. -/
def RDTab (w : World) (c : Nat) (e : Ending) (w' : World) : Prop :=
  ∃ a c1 a2 c2 xs zs, e = .returned (.agg #[.slice a xs.length c1, .slice a2 xs.length c2]) ∧ TOk xs ∧ zs.length = xs.length ∧ OwnC w' w.heap.size (.slice a xs.length c1) xs ∧ OwnN w' w.heap.size (.slice a2 xs.length c2) zs ∧ Chg (fun j => j = c) w w'

set_option maxRecDepth 100000 in
set_option maxHeartbeats 4000000 in
theorem l2Table_calls (w : World) (c : Nat) (hc : Cur w c) :
    Calls Try.prog 129 #[.pointer (some ⟨c, 0, none⟩)] w (RDTab w c) := by
  have HC := hid hc
  have lc := hc.lt
  clear hc
  have A1 := ((Chg.refl (fun j => j = c) w).alloc (.cells #[.slice none 0 0, .slice none 0 0] 36)).alloc (.cells #[.slice none 0 0, .slice none 0 0] 36)
  have R0 := hid (show ((w.alloc (.cells #[.slice none 0 0, .slice none 0 0] 36)).alloc (.cells #[.slice none 0 0, .slice none 0 0] 36)).heap[w.heap.size]? = _ from heap_old (heap_new w _))
  have R1 := hid (show ((w.alloc (.cells #[.slice none 0 0, .slice none 0 0] 36)).alloc (.cells #[.slice none 0 0, .slice none 0 0] 36)).heap[w.heap.size + 1]? = _ from heap_new' (w := w.alloc _) (b := w.heap.size + 1) (by simp))
  have HO := hid (OwnC.nil ((w.alloc (.cells #[.slice none 0 0, .slice none 0 0] 36)).alloc (.cells #[.slice none 0 0, .slice none 0 0] 36)) w.heap.size)
  have HV := hid (OwnR.nil encN ((w.alloc (.cells #[.slice none 0 0, .slice none 0 0] 36)).alloc (.cells #[.slice none 0 0, .slice none 0 0] 36)) w.heap.size)
  have HG := hid A1
  replace HC := hid ((HC.out.alloc (.cells #[.slice none 0 0, .slice none 0 0] 36)).alloc (.cells #[.slice none 0 0, .slice none 0 0] 36))
  have Z1 : ((w.alloc (.cells #[.slice none 0 0, .slice none 0 0] 36)).alloc (.cells #[.slice none 0 0, .slice none 0 0] 36)).heap.size = w.heap.size + 2 := by simp
  clear A1
  go_enter Try.func129, Try.ntmps129
  go_upto_region 2 with fail
  generalize (w.alloc (.cells #[.slice none 0 0, .slice none 0 0] 36)).alloc (.cells #[.slice none 0 0, .slice none 0 0] 36) = w1 at *
  go_wp2_with fail
  refine (l01Once_calls _ c HC.out 4 (by omega) (by omega)).mono ?_
  rintro e w2 ⟨b, rfl, hc2, g2⟩
  have zw2 := g2.size
  replace HC := hid hc2
  replace R0 := hid (g2.heap R0.out (by omega))
  replace R1 := hid (g2.heap R1.out (by omega))
  replace HO := hid (HO.out.chg g2 (fun q h1 _ e => by omega))
  replace HV := hid (HV.out.chg g2 (fun q h1 _ e => by omega))
  replace HG := hid (HG.out.trans g2 fun _ _ h => h)
  clear hc2 g2
  go_upto_if 10 with fail
  go_cut [] (fun wr => ∃ (a : Option Addr) (c1 : Nat) (a2 : Option Addr) (c2 : Nat) (xs : List (Nat × Nat)) (zs : List Int), Hid (TbMid w wr c a c1 a2 c2 xs zs))
  case first =>
    cases b with
    | false =>
      go_wp2_with fail
      go_meet
      exact ⟨none, 0, none, 0, [], [], hid ⟨lc, TOk.nil, rfl, HO.out, HV.out, R1.out, R0.out, HC.out, HG.out⟩⟩
    | true =>
      go_wp2_with fail
      refine (l01Below_calls _ c HC.out 3 (by omega) (by omega)).mono ?_
      rintro e w3 ⟨x, x0, x1, rfl, hc3, g3⟩
      obtain ⟨s, rfl⟩ := Int.eq_ofNat_of_zero_le x0
      have zw3 := g3.size
      replace HC := hid hc3
      replace R0 := hid (g3.heap R0.out (by omega))
      replace R1 := hid (g3.heap R1.out (by omega))
      replace HG := hid (HG.out.trans g3 fun _ _ h => h)
      clear hc3 g3 HO HV
      go_wp2_with fail
      refine (GridTable_calls1 _ s (by omega)).mono ?_
      rintro e w4 ⟨a, c1, a2, c2, rfl, hO, hV, hG⟩
      have HOK := hid (gridP_ok (s + 1) (by omega) (by omega))
      have HLP := hid (gridP_len (s + 1) ((s + 1) * (s + 1)))
      have HLL := hid (gridL_len ((s + 1) * (s + 1)))
      have HO := hid hO
      have HV := hid hV
      have zw4 := hG.size
      replace HC := hid (HC.out.chg hG fun _ _ h => h)
      replace R0 := hid (hG.heap R0.out (fun h => h))
      replace R1 := hid (hG.heap R1.out (fun h => h))
      replace HG := hid (HG.out.trans hG fun _ _ h => h.elim)
      clear hO hV hG
      generalize (s + 1) * (s + 1) = n at *
      generalize gridP (s + 1) n = xs at *
      generalize gridL n = zs at *
      have fR1 := frees_at R1.out
      have kR1 := cells_at R1.out
      go_wp2_with fail
      have CR := chg_r2 w4 (w.heap.size + 1) (.slice a n c1) (.slice a2 n c2)
      have HO' := HO.out.chgN CR (fun q e1 (e2 : q = w.heap.size + 1) => by subst e2; exact apTC HO.out R1.out (by decide) e1)
      have HV' := OwnR.chgN HV.out CR (fun q e1 (e2 : q = w.heap.size + 1) => by subst e2; exact apT HV.out R1.out (by decide) e1)
      go_meet
      refine ⟨a, c1, a2, c2, xs, zs, hid ⟨lc, HOK.out, by rw [HLP.out, HLL.out], ?_, ?_, ?_, ?_, ?_, ?_⟩⟩
      · rw [HLP.out]; exact HO'.mono (by omega)
      · rw [HLP.out]; exact OwnR.mono HV' (by omega)
      · rw [HLP.out]; exact heap_r2 R1.out _ _
      · exact CR.heap R0.out (by show ¬ (w.heap.size = w.heap.size + 1); omega)
      · exact HC.out.chg CR (fun j h1 (e : j = w.heap.size + 1) => by omega)
      · exact HG.out.trans CR (fun j hj (e : j = w.heap.size + 1) => by omega)
  case rest =>
    clear HO HV R1 R0 HG HC
    obtain ⟨a, c1, a2, c2, xs, zs, HM⟩ := hcut
    go_wp2_with fail
    refine (l01Below_calls _ c HM.out.C 7 (by omega) (by omega)).mono ?_
    rintro e w3 ⟨k, k0, k1, rfl, hc3, g3⟩
    obtain ⟨k, rfl⟩ := Int.eq_ofNat_of_zero_le k0
    have HM3 := hid (HM.out.cur hc3 g3)
    clear hc3 g3 HM
    go_wp2_with fail
    go_loopw [4] (fun x wr => ∃ (k : Nat) (a : Option Addr) (c1 : Nat) (a2 : Option Addr) (c2 : Nat) (xs : List (Nat × Nat)) (zs : List Int), k ≤ 6 ∧ x = .int .i64 (k : Int) ∧ Hid (TbMid w wr c a c1 a2 c2 xs zs)) (fun x _ => (intOf x).toNat)
    case atStart => exact ⟨k, a, c1, a2, c2, xs, zs, by omega, rfl, HM3⟩
    case round =>
      clear HM3
      clear a c1 a2 c2 xs zs k0 k1
      obtain ⟨k, a, c1, a2, c2, xs, zs, hk, rfl, HM⟩ := hrel
      obtain ⟨w5, rfl⟩ : ∃ w2 : World, w2 = wr := ⟨_, rfl⟩
      by_cases hlt : 0 < k
      · have hlt' : (0 : Int) < (k : Int) := by omega
        go_wp2_with fail
        refine (l2Small_calls _ c HM.out.C).mono ?_
        rintro e w6 ⟨x, y, h1, h2, h3, h4, rfl, hc6, g6⟩
        replace HM := hid (HM.out.cur hc6 g6)
        have HPQ := hid (show floatOfInt .f32 x < 4294967296 ∧ floatOfInt .f32 y < 4294967296 from ⟨(f7 (by omega) (by omega)).1, (f7 (by omega) (by omega)).1⟩)
        clear h1 h2 h3 h4 hc6 g6
        generalize floatOfInt .f32 x = p at *
        generalize floatOfInt .f32 y = q at *
        go_wp2_with fail
        refine (l01Once_calls _ c HM.out.C 6 (by omega) (by omega)).mono ?_
        rintro e w7 ⟨b, rfl, hc7, g7⟩
        replace HM := hid (HM.out.cur hc7 g7)
        clear hc7 g7
        go_upto_if 27 with fail
        go_cut [5] (fun r5 wx => ∃ p q, r5 = .complex .f32 p q ∧ Hid (p < 4294967296 ∧ q < 4294967296) ∧ Hid (TbMid w wx c a c1 a2 c2 xs zs))
        case first =>
          cases b with
          | false =>
            go_wp2_with fail
            go_meet
            exact ⟨p, q, rfl, HPQ, HM⟩
          | true =>
            go_wp2_with fail
            refine (l2Any_calls _ c HM.out.C).mono ?_
            rintro e w8 ⟨p8, q8, hp, hq, rfl, hc8, g8⟩
            replace HM := hid (HM.out.cur hc8 g8)
            have HXY := hid (show p8 < 4294967296 ∧ q8 < 4294967296 from ⟨hp, hq⟩)
            clear hp hq hc8 g8
            go_wp2_with fail
            go_meet
            exact ⟨p8, q8, rfl, HXY, HM⟩
        case rest =>
          clear HM HPQ p q b
          obtain ⟨p, q, rfl, HPQ, HM⟩ := hcut
          have kR1 := hid (And.intro (cell_at (k := 0) HM.out.R1) (cell_at (k := 1) HM.out.R1))
          go_upto_region 10 with fail
          go_cut [6, 7] (fun r6 r7 wx => ∃ bq b a3 c3 a4 c4 xs' zs', r6 = .pointer (some ⟨bq, 0, none⟩) ∧ r7 = .bool b ∧ Hid (TbOut w wx b bq a3 c3 a4 c4 xs' zs') ∧ Hid (TbMid w wx c a c1 a2 c2 xs zs))
          case first =>
            as_aux_lemma =>
              refine wp_region_held_drew (S := fun wx => TbMid w wx c a c1 a2 c2 xs zs) (by kernel_rfl) (HM.out.cur (HM.out.C.chg ((Chg.refl (fun _ => False) wc).drew) (fun _ _ h => h)) (Chg.refl _ wc).drew) (fun hH => ?_)
              generalize wc.drew = wd at *
              clear kR1
              refine wpAnyH_take (i := 0) (v := ?_) (oi := { dst := some 31, op := Op.load 36 (Operand.tmp 3), type := _, pos := _, after := _, guard := none }) rfl (by kernel_rfl) (by kernel_rfl) (by kernel_rfl) (fun _ _ _ h => h) (Or.inl ⟨by kernel_rfl, ?_⟩) (by assumption) ?_
              rotate_left
              · (intro wx hSw; (try dsimp only at hSw); have y0 : wx.cell? ⟨w.heap.size + 1, 0, none⟩ = some (.slice a xs.length c1) := cell_at hSw.R1; have y1 : wx.cell? ⟨w.heap.size + 1, 1, none⟩ = some (.slice a2 xs.length c2) := cell_at hSw.R1; go_simp) <;> with_reducible rfl
              try simp only [Act.put, List.setIfInBounds_toArray, List.set_cons_zero, List.set_cons_succ, List.getElem_toArray, List.getElem_cons_zero, List.getElem_cons_succ]
              refine wpAnyH_take (i := 1) (v := ?_) (oi := { dst := some 32, op := Op.move (Operand.tmp 5), type := _, pos := _, after := _, guard := none }) rfl (by kernel_rfl) (by kernel_rfl) (by kernel_rfl) (fun _ _ _ h => h) (Or.inl ⟨by kernel_rfl, ?_⟩) (by assumption) ?_
              rotate_left
              · (intro wx hSw; (try dsimp only at hSw); go_simp) <;> with_reducible rfl
              try simp only [Act.put, List.setIfInBounds_toArray, List.set_cons_zero, List.set_cons_succ, List.getElem_toArray, List.getElem_cons_zero, List.getElem_cons_succ]
              refine wpAnyH_take (i := 2) (v := ?_) (oi := { dst := some 33, op := Op.move (Operand.tmp 0), type := _, pos := _, after := _, guard := none }) rfl (by kernel_rfl) (by kernel_rfl) (by kernel_rfl) (fun _ _ _ h => h) (Or.inl ⟨by kernel_rfl, ?_⟩) (by assumption) ?_
              rotate_left
              · (intro wx hSw; (try dsimp only at hSw); go_simp) <;> with_reducible rfl
              try simp only [Act.put, List.setIfInBounds_toArray, List.set_cons_zero, List.set_cons_succ, List.getElem_toArray, List.getElem_cons_zero, List.getElem_cons_succ]
              refine wpAnyH_ready (rs := [3, 9]) (by kernel_rfl) (by simp) ?_
              refine (AllReadyH.cons rfl (fun K hK => ?_) (AllReadyH.cons rfl (fun K hK => ?_) AllReadyH.nil))
              · go_simp
                refine (l01Below_calls _ c hH.C 6 (by omega) (by omega)).mono ?_
                rintro e wdB ⟨x, x0, x1, rfl, hcB, gB⟩
                obtain ⟨rm, rfl⟩ := Int.eq_ofNat_of_zero_le x0
                go_wp2_with fail
                refine hK.out _ _ (hH.cur hcB gB) (fun hHB => ?_)
                clear hK K
                try simp only [Act.put, List.setIfInBounds_toArray, List.set_cons_zero, List.set_cons_succ, List.getElem_toArray, List.getElem_cons_zero, List.getElem_cons_succ]
                have zB := gB.size
                clear hcB gB
                refine wpAnyH_take (i := 4) (v := ?_) (oi := { dst := some 35, op := Op.binOp BinOp.sub 3 (Operand.tmp 34) (Operand.const (Value.int IntKind.i64 2)) 3, type := _, pos := _, after := _, guard := none }) rfl (by kernel_rfl) (by kernel_rfl) (by kernel_rfl) (fun _ _ _ h => h) (Or.inl ⟨by kernel_rfl, ?_⟩) (by assumption) ?_
                rotate_left
                · (intro wx hSw; (try dsimp only at hSw); go_simp) <;> with_reducible rfl
                try simp only [Act.put, List.setIfInBounds_toArray, List.set_cons_zero, List.set_cons_succ, List.getElem_toArray, List.getElem_cons_zero, List.getElem_cons_succ]
                refine wpAnyH_ready (rs := [5, 9]) (by kernel_rfl) (by simp) ?_
                refine (AllReadyH.cons rfl (fun K hK => ?_) (AllReadyH.cons rfl (fun K hK => ?_) AllReadyH.nil))
                · go_simp
                  refine (PutPoint_calls _ _ _ xs zs p q _ (hHB.O.mono (Nat.zero_le _)) (OwnR.mono hHB.V (Nat.zero_le _)) hHB.T hHB.L HPQ.out).mono ?_
                  rintro e wdBP ⟨a3, c3, a4, c4, b, xs', zs', rfl, hok, hO5, hV5, hG5⟩
                  go_wp2_with fail
                  refine hK.out _ _ (hHB.cur (hHB.C.chg hG5 fun _ _ h => h) ((Chg.refl (fun j => j = c) _).trans hG5 fun _ _ h => h.elim)) (fun hHBP => ?_)
                  clear hK K
                  try simp only [Act.put, List.setIfInBounds_toArray, List.set_cons_zero, List.set_cons_succ, List.getElem_toArray, List.getElem_cons_zero, List.getElem_cons_succ]
                  have zP := hG5.size
                  have zW := hHB.G.size
                  have HO5 := hid (hO5.mono (show w.heap.size ≤ _ from zW))
                  have HV5 := hid (OwnR.mono hV5 (show w.heap.size ≤ _ from zW))
                  have HOK := hid hok
                  clear hok hO5 hV5 hG5
                  refine wpAnyH_take (i := 6) (v := ?_) (oi := { dst := some 30, op := Op.move (Operand.tmp 36), type := _, pos := _, after := _, guard := none }) rfl (by kernel_rfl) (by kernel_rfl) (by kernel_rfl) (fun _ _ _ h => h) (Or.inl ⟨by kernel_rfl, ?_⟩) (by assumption) ?_
                  rotate_left
                  · (intro wx hSw; (try dsimp only at hSw); go_simp) <;> with_reducible rfl
                  try simp only [Act.put, List.setIfInBounds_toArray, List.set_cons_zero, List.set_cons_succ, List.getElem_toArray, List.getElem_cons_zero, List.getElem_cons_succ]
                  refine wpAnyH_take (i := 7) (v := ?_) (oi := { dst := some 37, op := Op.extract (Operand.tmp 30) 0, type := _, pos := _, after := _, guard := none }) rfl (by kernel_rfl) (by kernel_rfl) (by kernel_rfl) (fun _ _ _ h => h) (Or.inl ⟨by kernel_rfl, ?_⟩) (by assumption) ?_
                  rotate_left
                  · (intro wx hSw; (try dsimp only at hSw); go_simp) <;> with_reducible rfl
                  try simp only [Act.put, List.setIfInBounds_toArray, List.set_cons_zero, List.set_cons_succ, List.getElem_toArray, List.getElem_cons_zero, List.getElem_cons_succ]
                  refine wpAnyH_take (i := 8) (v := ?_) (oi := { dst := some 38, op := Op.extract (Operand.tmp 30) 1, type := _, pos := _, after := _, guard := none }) rfl (by kernel_rfl) (by kernel_rfl) (by kernel_rfl) (fun _ _ _ h => h) (Or.inl ⟨by kernel_rfl, ?_⟩) (by assumption) ?_
                  rotate_left
                  · (intro wx hSw; (try dsimp only at hSw); go_simp) <;> with_reducible rfl
                  try simp only [Act.put, List.setIfInBounds_toArray, List.set_cons_zero, List.set_cons_succ, List.getElem_toArray, List.getElem_cons_zero, List.getElem_cons_succ]
                  refine wpAnyH_ready (rs := [9]) (by kernel_rfl) (by simp) ?_
                  refine (AllReadyH.cons rfl (fun K hK => ?_) AllReadyH.nil)
                  go_simp
                  have lA := hHBP.lt1
                  refine hK.out _ _ (hHBP.alc _) (fun hHBPA => ?_)
                  clear hK K
                  try simp only [Act.put, List.setIfInBounds_toArray, List.set_cons_zero, List.set_cons_succ, List.getElem_toArray, List.getElem_cons_zero, List.getElem_cons_succ]
                  have RP := hid (heap_new wdBP (.cells #[.slice none 0 0, .slice none 0 0] 36))
                  have zA : wdBP.heap.size < (wdBP.alloc (.cells #[.slice none 0 0, .slice none 0 0] 36)).heap.size := by simp
                  replace HO5 := hid (HO5.out.chg ((Chg.refl (fun _ => False) wdBP).alloc (.cells #[.slice none 0 0, .slice none 0 0] 36)) fun _ _ _ h => h)
                  replace HV5 := hid (HV5.out.chg ((Chg.refl (fun _ => False) wdBP).alloc (.cells #[.slice none 0 0, .slice none 0 0] 36)) fun _ _ _ h => h)
                  generalize wdBP.alloc (.cells #[.slice none 0 0, .slice none 0 0] 36) = wdBPA at *
                  generalize wdBP.heap.size = bq at *
                  refine wpAnyH_ready (rs := [10]) (by kernel_rfl) (by simp) ?_
                  refine (AllReadyH.cons rfl (fun K hK => ?_) AllReadyH.nil)
                  have kP := cells_at RP.out
                  have fP := frees_at RP.out
                  have CV := chg_r2 wdBPA bq (.slice a3 xs'.length c3) (.slice a4 zs'.length c4)
                  go_simp
                  refine hK.out _ _ (hHBPA.box CV RP.out lA) (fun hH9 => ?_)
                  clear hK K
                  try simp only [Act.put, List.setIfInBounds_toArray, List.set_cons_zero, List.set_cons_succ, List.getElem_toArray, List.getElem_cons_zero, List.getElem_cons_succ]
                  replace HO5 := hid (HO5.out.chgN CV (fun g e1 (e2 : g = bq) => by subst e2; exact apTC HO5.out RP.out (by decide) e1))
                  replace HV5 := hid (OwnR.chgN HV5.out CV (fun g e1 (e2 : g = bq) => by subst e2; exact apT HV5.out RP.out (by decide) e1))
                  replace RP := hid (heap_r2 RP.out (.slice a3 xs'.length c3) (.slice a4 zs'.length c4))
                  clear CV kP fP
                  generalize (wdBPA.setCell ⟨bq, 0, none⟩ (.slice a3 xs'.length c3)).setCell ⟨bq, 1, none⟩ (.slice a4 zs'.length c4) = W9 at *
                  refine wpAnyH_take (i := 11) (v := ?_) (oi := { dst := some 7, op := Op.assign (Operand.tmp 38), type := _, pos := _, after := _, guard := none }) rfl (by kernel_rfl) (by kernel_rfl) (by kernel_rfl) (fun _ _ _ h => h) (Or.inl ⟨by kernel_rfl, ?_⟩) (by assumption) ?_
                  rotate_left
                  · (intro wx hSw; (try dsimp only at hSw); go_simp) <;> with_reducible rfl
                  try simp only [Act.put, List.setIfInBounds_toArray, List.set_cons_zero, List.set_cons_succ, List.getElem_toArray, List.getElem_cons_zero, List.getElem_cons_succ]
                  refine wpAnyH_done (by kernel_rfl) ?_ _
                  go_wp2_with fail
                  go_meet
                  exact ⟨bq, b, a3, c3, a4, c4, xs', zs', rfl, rfl, hid ⟨HOK.out, RP.out, HO5.out, HV5.out⟩, hid hH9⟩
                · go_simp
                  have lA := hHB.lt1
                  refine hK.out _ _ (hHB.alc _) (fun hHBA => ?_)
                  clear hK K
                  try simp only [Act.put, List.setIfInBounds_toArray, List.set_cons_zero, List.set_cons_succ, List.getElem_toArray, List.getElem_cons_zero, List.getElem_cons_succ]
                  have RP := hid (heap_new wdB (.cells #[.slice none 0 0, .slice none 0 0] 36))
                  have zA : wdB.heap.size < (wdB.alloc (.cells #[.slice none 0 0, .slice none 0 0] 36)).heap.size := by simp
                  generalize wdB.alloc (.cells #[.slice none 0 0, .slice none 0 0] 36) = wdBA at *
                  generalize wdB.heap.size = bq at *
                  refine wpAnyH_ready (rs := [5]) (by kernel_rfl) (by simp) ?_
                  refine (AllReadyH.cons rfl (fun K hK => ?_) AllReadyH.nil)
                  go_simp
                  refine (PutPoint_calls _ _ _ xs zs p q _ (hHBA.O.mono (Nat.zero_le _)) (OwnR.mono hHBA.V (Nat.zero_le _)) hHBA.T hHBA.L HPQ.out).mono ?_
                  rintro e wdBAP ⟨a3, c3, a4, c4, b, xs', zs', rfl, hok, hO5, hV5, hG5⟩
                  go_wp2_with fail
                  refine hK.out _ _ (hHBA.cur (hHBA.C.chg hG5 fun _ _ h => h) ((Chg.refl (fun j => j = c) _).trans hG5 fun _ _ h => h.elim)) (fun hHBAP => ?_)
                  clear hK K
                  try simp only [Act.put, List.setIfInBounds_toArray, List.set_cons_zero, List.set_cons_succ, List.getElem_toArray, List.getElem_cons_zero, List.getElem_cons_succ]
                  have zP := hG5.size
                  have zW := hHBA.G.size
                  have HO5 := hid (hO5.mono (show w.heap.size ≤ _ from zW))
                  have HV5 := hid (OwnR.mono hV5 (show w.heap.size ≤ _ from zW))
                  have HOK := hid hok
                  replace RP := hid (hG5.heap RP.out (fun h => h))
                  clear hok hO5 hV5 hG5
                  refine wpAnyH_take (i := 6) (v := ?_) (oi := { dst := some 30, op := Op.move (Operand.tmp 36), type := _, pos := _, after := _, guard := none }) rfl (by kernel_rfl) (by kernel_rfl) (by kernel_rfl) (fun _ _ _ h => h) (Or.inl ⟨by kernel_rfl, ?_⟩) (by assumption) ?_
                  rotate_left
                  · (intro wx hSw; (try dsimp only at hSw); go_simp) <;> with_reducible rfl
                  try simp only [Act.put, List.setIfInBounds_toArray, List.set_cons_zero, List.set_cons_succ, List.getElem_toArray, List.getElem_cons_zero, List.getElem_cons_succ]
                  refine wpAnyH_take (i := 7) (v := ?_) (oi := { dst := some 37, op := Op.extract (Operand.tmp 30) 0, type := _, pos := _, after := _, guard := none }) rfl (by kernel_rfl) (by kernel_rfl) (by kernel_rfl) (fun _ _ _ h => h) (Or.inl ⟨by kernel_rfl, ?_⟩) (by assumption) ?_
                  rotate_left
                  · (intro wx hSw; (try dsimp only at hSw); go_simp) <;> with_reducible rfl
                  try simp only [Act.put, List.setIfInBounds_toArray, List.set_cons_zero, List.set_cons_succ, List.getElem_toArray, List.getElem_cons_zero, List.getElem_cons_succ]
                  refine wpAnyH_take (i := 8) (v := ?_) (oi := { dst := some 38, op := Op.extract (Operand.tmp 30) 1, type := _, pos := _, after := _, guard := none }) rfl (by kernel_rfl) (by kernel_rfl) (by kernel_rfl) (fun _ _ _ h => h) (Or.inl ⟨by kernel_rfl, ?_⟩) (by assumption) ?_
                  rotate_left
                  · (intro wx hSw; (try dsimp only at hSw); go_simp) <;> with_reducible rfl
                  try simp only [Act.put, List.setIfInBounds_toArray, List.set_cons_zero, List.set_cons_succ, List.getElem_toArray, List.getElem_cons_zero, List.getElem_cons_succ]
                  refine wpAnyH_ready (rs := [10]) (by kernel_rfl) (by simp) ?_
                  refine (AllReadyH.cons rfl (fun K hK => ?_) AllReadyH.nil)
                  have kP := cells_at RP.out
                  have fP := frees_at RP.out
                  have CV := chg_r2 wdBAP bq (.slice a3 xs'.length c3) (.slice a4 zs'.length c4)
                  go_simp
                  refine hK.out _ _ (hHBAP.box CV RP.out lA) (fun hH9 => ?_)
                  clear hK K
                  try simp only [Act.put, List.setIfInBounds_toArray, List.set_cons_zero, List.set_cons_succ, List.getElem_toArray, List.getElem_cons_zero, List.getElem_cons_succ]
                  replace HO5 := hid (HO5.out.chgN CV (fun g e1 (e2 : g = bq) => by subst e2; exact apTC HO5.out RP.out (by decide) e1))
                  replace HV5 := hid (OwnR.chgN HV5.out CV (fun g e1 (e2 : g = bq) => by subst e2; exact apT HV5.out RP.out (by decide) e1))
                  replace RP := hid (heap_r2 RP.out (.slice a3 xs'.length c3) (.slice a4 zs'.length c4))
                  clear CV kP fP
                  generalize (wdBAP.setCell ⟨bq, 0, none⟩ (.slice a3 xs'.length c3)).setCell ⟨bq, 1, none⟩ (.slice a4 zs'.length c4) = W9 at *
                  refine wpAnyH_take (i := 11) (v := ?_) (oi := { dst := some 7, op := Op.assign (Operand.tmp 38), type := _, pos := _, after := _, guard := none }) rfl (by kernel_rfl) (by kernel_rfl) (by kernel_rfl) (fun _ _ _ h => h) (Or.inl ⟨by kernel_rfl, ?_⟩) (by assumption) ?_
                  rotate_left
                  · (intro wx hSw; (try dsimp only at hSw); go_simp) <;> with_reducible rfl
                  try simp only [Act.put, List.setIfInBounds_toArray, List.set_cons_zero, List.set_cons_succ, List.getElem_toArray, List.getElem_cons_zero, List.getElem_cons_succ]
                  refine wpAnyH_done (by kernel_rfl) ?_ _
                  go_wp2_with fail
                  go_meet
                  exact ⟨bq, b, a3, c3, a4, c4, xs', zs', rfl, rfl, hid ⟨HOK.out, RP.out, HO5.out, HV5.out⟩, hid hH9⟩
              · go_simp
                have lA := hH.lt1
                refine hK.out _ _ (hH.alc _) (fun hHA => ?_)
                clear hK K
                try simp only [Act.put, List.setIfInBounds_toArray, List.set_cons_zero, List.set_cons_succ, List.getElem_toArray, List.getElem_cons_zero, List.getElem_cons_succ]
                have RP := hid (heap_new wd (.cells #[.slice none 0 0, .slice none 0 0] 36))
                have zA : wd.heap.size < (wd.alloc (.cells #[.slice none 0 0, .slice none 0 0] 36)).heap.size := by simp
                generalize wd.alloc (.cells #[.slice none 0 0, .slice none 0 0] 36) = wdA at *
                generalize wd.heap.size = bq at *
                refine wpAnyH_ready (rs := [3]) (by kernel_rfl) (by simp) ?_
                refine (AllReadyH.cons rfl (fun K hK => ?_) AllReadyH.nil)
                go_simp
                refine (l01Below_calls _ c hHA.C 6 (by omega) (by omega)).mono ?_
                rintro e wdAB ⟨x, x0, x1, rfl, hcB, gB⟩
                obtain ⟨rm, rfl⟩ := Int.eq_ofNat_of_zero_le x0
                go_wp2_with fail
                refine hK.out _ _ (hHA.cur hcB gB) (fun hHAB => ?_)
                clear hK K
                try simp only [Act.put, List.setIfInBounds_toArray, List.set_cons_zero, List.set_cons_succ, List.getElem_toArray, List.getElem_cons_zero, List.getElem_cons_succ]
                have zB := gB.size
                replace RP := hid (gB.heap RP.out (by omega))
                clear hcB gB
                refine wpAnyH_take (i := 4) (v := ?_) (oi := { dst := some 35, op := Op.binOp BinOp.sub 3 (Operand.tmp 34) (Operand.const (Value.int IntKind.i64 2)) 3, type := _, pos := _, after := _, guard := none }) rfl (by kernel_rfl) (by kernel_rfl) (by kernel_rfl) (fun _ _ _ h => h) (Or.inl ⟨by kernel_rfl, ?_⟩) (by assumption) ?_
                rotate_left
                · (intro wx hSw; (try dsimp only at hSw); go_simp) <;> with_reducible rfl
                try simp only [Act.put, List.setIfInBounds_toArray, List.set_cons_zero, List.set_cons_succ, List.getElem_toArray, List.getElem_cons_zero, List.getElem_cons_succ]
                refine wpAnyH_ready (rs := [5]) (by kernel_rfl) (by simp) ?_
                refine (AllReadyH.cons rfl (fun K hK => ?_) AllReadyH.nil)
                go_simp
                refine (PutPoint_calls _ _ _ xs zs p q _ (hHAB.O.mono (Nat.zero_le _)) (OwnR.mono hHAB.V (Nat.zero_le _)) hHAB.T hHAB.L HPQ.out).mono ?_
                rintro e wdABP ⟨a3, c3, a4, c4, b, xs', zs', rfl, hok, hO5, hV5, hG5⟩
                go_wp2_with fail
                refine hK.out _ _ (hHAB.cur (hHAB.C.chg hG5 fun _ _ h => h) ((Chg.refl (fun j => j = c) _).trans hG5 fun _ _ h => h.elim)) (fun hHABP => ?_)
                clear hK K
                try simp only [Act.put, List.setIfInBounds_toArray, List.set_cons_zero, List.set_cons_succ, List.getElem_toArray, List.getElem_cons_zero, List.getElem_cons_succ]
                have zP := hG5.size
                have zW := hHAB.G.size
                have HO5 := hid (hO5.mono (show w.heap.size ≤ _ from zW))
                have HV5 := hid (OwnR.mono hV5 (show w.heap.size ≤ _ from zW))
                have HOK := hid hok
                replace RP := hid (hG5.heap RP.out (fun h => h))
                clear hok hO5 hV5 hG5
                refine wpAnyH_take (i := 6) (v := ?_) (oi := { dst := some 30, op := Op.move (Operand.tmp 36), type := _, pos := _, after := _, guard := none }) rfl (by kernel_rfl) (by kernel_rfl) (by kernel_rfl) (fun _ _ _ h => h) (Or.inl ⟨by kernel_rfl, ?_⟩) (by assumption) ?_
                rotate_left
                · (intro wx hSw; (try dsimp only at hSw); go_simp) <;> with_reducible rfl
                try simp only [Act.put, List.setIfInBounds_toArray, List.set_cons_zero, List.set_cons_succ, List.getElem_toArray, List.getElem_cons_zero, List.getElem_cons_succ]
                refine wpAnyH_take (i := 7) (v := ?_) (oi := { dst := some 37, op := Op.extract (Operand.tmp 30) 0, type := _, pos := _, after := _, guard := none }) rfl (by kernel_rfl) (by kernel_rfl) (by kernel_rfl) (fun _ _ _ h => h) (Or.inl ⟨by kernel_rfl, ?_⟩) (by assumption) ?_
                rotate_left
                · (intro wx hSw; (try dsimp only at hSw); go_simp) <;> with_reducible rfl
                try simp only [Act.put, List.setIfInBounds_toArray, List.set_cons_zero, List.set_cons_succ, List.getElem_toArray, List.getElem_cons_zero, List.getElem_cons_succ]
                refine wpAnyH_take (i := 8) (v := ?_) (oi := { dst := some 38, op := Op.extract (Operand.tmp 30) 1, type := _, pos := _, after := _, guard := none }) rfl (by kernel_rfl) (by kernel_rfl) (by kernel_rfl) (fun _ _ _ h => h) (Or.inl ⟨by kernel_rfl, ?_⟩) (by assumption) ?_
                rotate_left
                · (intro wx hSw; (try dsimp only at hSw); go_simp) <;> with_reducible rfl
                try simp only [Act.put, List.setIfInBounds_toArray, List.set_cons_zero, List.set_cons_succ, List.getElem_toArray, List.getElem_cons_zero, List.getElem_cons_succ]
                refine wpAnyH_ready (rs := [10]) (by kernel_rfl) (by simp) ?_
                refine (AllReadyH.cons rfl (fun K hK => ?_) AllReadyH.nil)
                have kP := cells_at RP.out
                have fP := frees_at RP.out
                have CV := chg_r2 wdABP bq (.slice a3 xs'.length c3) (.slice a4 zs'.length c4)
                go_simp
                refine hK.out _ _ (hHABP.box CV RP.out lA) (fun hH9 => ?_)
                clear hK K
                try simp only [Act.put, List.setIfInBounds_toArray, List.set_cons_zero, List.set_cons_succ, List.getElem_toArray, List.getElem_cons_zero, List.getElem_cons_succ]
                replace HO5 := hid (HO5.out.chgN CV (fun g e1 (e2 : g = bq) => by subst e2; exact apTC HO5.out RP.out (by decide) e1))
                replace HV5 := hid (OwnR.chgN HV5.out CV (fun g e1 (e2 : g = bq) => by subst e2; exact apT HV5.out RP.out (by decide) e1))
                replace RP := hid (heap_r2 RP.out (.slice a3 xs'.length c3) (.slice a4 zs'.length c4))
                clear CV kP fP
                generalize (wdABP.setCell ⟨bq, 0, none⟩ (.slice a3 xs'.length c3)).setCell ⟨bq, 1, none⟩ (.slice a4 zs'.length c4) = W9 at *
                refine wpAnyH_take (i := 11) (v := ?_) (oi := { dst := some 7, op := Op.assign (Operand.tmp 38), type := _, pos := _, after := _, guard := none }) rfl (by kernel_rfl) (by kernel_rfl) (by kernel_rfl) (fun _ _ _ h => h) (Or.inl ⟨by kernel_rfl, ?_⟩) (by assumption) ?_
                rotate_left
                · (intro wx hSw; (try dsimp only at hSw); go_simp) <;> with_reducible rfl
                try simp only [Act.put, List.setIfInBounds_toArray, List.set_cons_zero, List.set_cons_succ, List.getElem_toArray, List.getElem_cons_zero, List.getElem_cons_succ]
                refine wpAnyH_done (by kernel_rfl) ?_ _
                go_wp2_with fail
                go_meet
                exact ⟨bq, b, a3, c3, a4, c4, xs', zs', rfl, rfl, hid ⟨HOK.out, RP.out, HO5.out, HV5.out⟩, hid hH9⟩
          case rest =>
            clear HM kR1 HPQ
            obtain ⟨bq, b, a3, c3, a4, c4, xs', zs', rfl, rfl, HQ, HM⟩ := hcut
            cases b with
            | false =>
              go_wp2_with fail
              go_roundw
              case rel => exact ⟨k - 1, a, c1, a2, c2, xs, zs, by omega, by go_num, HM⟩
              case measure => simp [intOf]; omega
            | true =>
              have R6 := hid HQ.out.R
              have R1 := hid HM.out.R1
              have kR6 := cells_at R6.out
              have kR1 := cells_at R1.out
              have fR1 := frees_at R1.out
              have t1 := (HQ.out.ok rfl).1
              have t2 := (HQ.out.ok rfl).2
              have HT := hid (And.intro t1 t2)
              have CR := hid (chg_r2 wc (w.heap.size + 1) (.slice a3 xs'.length c3) (.slice a4 zs'.length c4))
              have RX := hid (heap_r2 R1.out (.slice a3 xs'.length c3) (.slice a4 zs'.length c4))
              clear t1 t2
              go_wp2_with fail
              go_roundw
              case rel =>
                refine ⟨k - 1, a3, c3, a4, c4, xs', zs', by omega, by go_num, hid ⟨lc, HT.out.1, HT.out.2, ?_, ?_, ?_, ?_, ?_, ?_⟩⟩
                · exact HQ.out.O.chgN CR.out (fun q e1 (e2 : q = w.heap.size + 1) => by subst e2; exact apTC HQ.out.O R1.out (by decide) e1)
                · have h := OwnR.chgN HQ.out.V CR.out (fun q e1 (e2 : q = w.heap.size + 1) => by subst e2; exact apT HQ.out.V R1.out (by decide) e1)
                  rw [HT.out.2] at h ⊢
                  exact h
                · rw [HT.out.2] at RX ⊢
                  exact RX.out
                · exact CR.out.heap HM.out.R0 (by show ¬ (w.heap.size = w.heap.size + 1); omega)
                · exact HM.out.C.chg CR.out (fun j h1 (e : j = w.heap.size + 1) => by omega)
                · exact HM.out.G.trans CR.out (fun j hj (e : j = w.heap.size + 1) => by omega)
              case measure => simp [intOf]; omega
      · obtain rfl : k = 0 := by omega
        have R1 := hid HM.out.R1
        have R0 := hid HM.out.R0
        have kR1 := cells_at R1.out
        have kR0 := cells_at R0.out
        have fR0 := frees_at R0.out
        go_wp2_with fail
        refine bodyPost_ret (results_row1 (by rfl) _ _ _ w.heap.size _ rfl (load_table (heap_r2 R0.out _ _) rfl)) rfl ?_
        have CR := chg_r2 w5 w.heap.size (.slice a xs.length c1) (.slice a2 xs.length c2)
        refine ⟨a, c1, a2, c2, xs, zs, rfl, HM.out.T, HM.out.L, ?_, ?_, HM.out.G.trans CR (fun q hq (e : q = w.heap.size) => by omega)⟩
        · exact HM.out.O.chgN CR (fun q e1 (e2 : q = w.heap.size) => by subst e2; exact apTC HM.out.O R0.out (by decide) e1)
        · exact OwnR.chgN HM.out.V CR (fun q e1 (e2 : q = w.heap.size) => by subst e2; exact apT HM.out.V R0.out (by decide) e1)
end Go.Proofs.Ytopkehknaclhlaa
