/- Frames are counted. Conditions: at most 1000 frames. -/
import Derived.Test.YtopkehknaclhlaaMd
import Derived.Test.YtopkehknaclhlaaFh
namespace Go.Proofs.Ytopkehknaclhlaa
open Go Go.RowKit

theorem infoN : ∃ i z, Try.prog.info? 3 = some i ∧ i.zero = some z ∧ i.size = 1 ∧ i.bytes = 8 ∧ z.cells.size = 1 := by
  have h : (Try.prog.info? 3).map (fun i => (i.zero.map (fun z => z.cells.size), i.size, i.bytes)) = some (some 1, 1, 8) := by kernel_rfl
  cases hi : Try.prog.info? 3 with
  | none => rw [hi] at h; cases h
  | some i =>
    rw [hi] at h
    simp only [Option.map_some, Option.some.injEq, Prod.mk.injEq] at h
    obtain ⟨h1, h2, h3⟩ := h
    cases hz : i.zero with
    | none => rw [hz] at h1; cases h1
    | some z =>
      rw [hz] at h1
      exact ⟨i, z, rfl, hz, h2, h3, by simpa using h1⟩

def encN : Enc Int where
  T := 34
  E := 3
  k := 1
  bytes := 8
  cells n := [.int .i64 n]
  len _ := rfl
  one f u hu := by
    simp at hu
    subst hu
    rfl
  pos := by decide
  small := by decide
  under := Try.underlying34
  info := infoN

/-- A slice of integers. -/
abbrev OwnN (w : World) (base : Nat) (v : Value) (cs : List Int) : Prop := OwnR encN w base v cs

theorem OwnN.int {w : World} {base n : Nat} {v : Value} {cs : List Int} (h : OwnN w base v cs) (hl : cs.length = n) {k : Nat} (hk : k < n) : ∃ g c cur, v = .slice (some ⟨g, 0, none⟩) n c ∧ base ≤ g ∧ g < w.heap.size ∧ n ≤ c ∧ w.heap[g]? = some (.cells cur 3 (0, 0)) ∧ ∃ z, cs[k]? = some z ∧ w.cell? ⟨g, k, none⟩ = some (.int .i64 z) := by
  obtain ⟨g, c, cur, hv, hb, hg, hc, hh, hs, hcell⟩ := h.row hl (by omega)
  refine ⟨g, c, cur, hv, hb, hg, hc, hh, cs[k]'(by omega), by simp [hl, hk], ?_⟩
  rw [cell_at hh]
  have e := hcell k 0 hk (by decide)
  rw [show encN.k = 1 from rfl, Nat.mul_one, Nat.add_zero] at e
  rw [e]
  rfl

theorem flat_set (cs : List Int) : ∀ (i : Nat) (z : Int), (cs.set i z).flatMap encN.cells = (cs.flatMap encN.cells).set i (.int .i64 z) := by
  induction cs with
  | nil => intro i z; simp
  | cons c cs ih =>
    intro i z
    cases i with
    | zero => rfl
    | succ i => simp [List.flatMap_cons, ih i z]; rfl

theorem OwnN.put {w : World} {base g n c : Nat} {cs : List Int} (h : OwnN w base (.slice (some ⟨g, 0, none⟩) n c) cs) (i : Nat) (z : Int) (hi : i < cs.length) : OwnN (w.setCell ⟨g, i, none⟩ (.int .i64 z)) base (.slice (some ⟨g, 0, none⟩) n c) (cs.set i z) := by
  obtain ⟨h1, h2⟩ := h
  rcases h2 with ⟨h2, _⟩ | ⟨g', cap, cur, hv, hg, hh, hc, hm, hs, ht⟩
  · simp at h2
  · simp at hv
    obtain ⟨rfl, rfl, rfl⟩ := hv
    refine ⟨by rw [flat_len], .inr ⟨g, c, cur.setIfInBounds i (.int .i64 z), by rw [List.length_set], hg, heap_set hh, by rw [List.length_set]; exact hc, hm, by simpa using hs, ?_⟩⟩
    rw [flat_set, List.length_set]
    have hk : encN.k = 1 := rfl
    rw [hk, Nat.mul_one] at ht ⊢
    rw [Array.toList_setIfInBounds, List.take_set, ht]

theorem apart_FN {w : World} {b1 b2 : Nat} {v u : Value} {fs : List Fr8} {cs : List Int} (h : OwnF w b1 v fs) (k : OwnN w b2 u cs) {g : Nat} (h1 : some g = v.ownBlock) (h2 : some g = u.ownBlock) : False := by
  rcases h.2 with ⟨rfl, _⟩ | ⟨g1, cap, cur, rfl, _, hh, _⟩
  · simp [Value.ownBlock] at h1
  · rcases k.2 with ⟨rfl, _⟩ | ⟨g2, cap2, cur2, rfl, _, kk, _⟩
    · simp [Value.ownBlock] at h2
    · simp [Value.ownBlock] at h1 h2
      subst h1
      subst h2
      rw [hh] at kk
      simp only [Option.some.injEq, Obj.cells.injEq] at kk
      exact absurd kk.2.1 (by decide)

theorem getD_of {fs : List Fr8} {k : Nat} {f : Fr8} (h : fs[k]? = some f) : fs.getD k Z8 = f := by simp [List.getD_eq_getElem?_getD, h]

theorem len_le_sum : ∀ (cs : List Int), (∀ c ∈ cs, 1 ≤ c) → (cs.length : Int) ≤ cs.sum := by
  intro cs
  induction cs with
  | nil => intro _; simp
  | cons c cs ih =>
    intro h
    have e := ih (fun c hc => h c (by simp [hc]))
    have hc := h c (by simp)
    simp
    omega

/-- Kinds and counts come back. -/
def RCount (w : World) (fs : List Fr8) (e : Ending) (w' : World) : Prop :=
  ∃ a c a2 c2 ps cs, e = .returned (.tuple #[.slice a (kindsOf fs ps).length c, .slice a2 cs.length c2]) ∧ Cnt fs fs.length ps cs ∧ OwnF w' w.heap.size (.slice a (kindsOf fs ps).length c) (kindsOf fs ps) ∧ OwnN w' w.heap.size (.slice a2 cs.length c2) cs ∧ Chg (fun _ => False) w w'

set_option maxRecDepth 100000 in
set_option maxHeartbeats 4000000 in
theorem CountFrames_calls (w : World) (v : Value) (fs : List Fr8) (hl : fs.length ≤ 1000) (ho : OwnF w 0 v fs) : Calls Try.prog 46 #[v] w (RCount w fs) := by
  obtain ⟨a, c, rfl⟩ := ho.form
  have HO0 := hid (ho.chg (((Chg.refl (fun _ => False) w).alloc (.cells #[] 59)).alloc (.cells #[] 3)) fun _ _ _ h => h)
  have K0 := hid ((OwnR.lit encF w [] (by simp) (Nat.le_refl w.heap.size) #[] 59 rfl rfl).chg ((Chg.refl (fun _ => False) _).alloc (.cells #[] 3)) fun _ _ _ h => h)
  have C0 : OwnN ((w.alloc (.cells #[] 59)).alloc (.cells #[] 3)) w.heap.size (.slice (some ⟨w.heap.size + 1, 0, none⟩) 0 0) [] := by
    have h := OwnR.lit encN (w.alloc (.cells #[] 59)) [] (by simp) (base := w.heap.size) (by simp) #[] 3 rfl rfl
    simpa using h
  have C0' := hid C0
  clear C0
  have G0 := hid (((Chg.refl (fun _ => False) w).alloc (.cells #[] 59)).alloc (.cells #[] 3))
  have HB := hid (fun g (h : some g = (Value.slice a fs.length c).ownBlock) => (ho.own_lt h).2)
  clear ho
  generalize hn : fs.length = n at *
  have HN := hid hn
  clear hn
  go_enter Try.func46, Try.ntmps46
  go_wp2_with fail
  go_loopw [4, 5, 13] (fun s t i wr => ∃ (k : Nat) (ps : List Nat) (cs : List Int) (aK aC : Option Addr) (cK cC : Nat), k ≤ n ∧ i = .int .i64 (k : Int) ∧ s = .slice aK (kindsOf fs ps).length cK ∧ t = .slice aC cs.length cC ∧ Hid (Cnt fs k ps cs) ∧ Hid (OwnF wr w.heap.size (.slice aK (kindsOf fs ps).length cK) (kindsOf fs ps)) ∧ Hid (OwnN wr w.heap.size (.slice aC cs.length cC) cs) ∧ Hid (OwnF wr 0 (.slice a n c) fs) ∧ Hid (Chg (fun _ => False) w wr)) (fun _ _ i _ => n - (intOf i).toNat)
  case atStart => exact ⟨0, [], [], _, _, _, _, by omega, rfl, rfl, rfl, hid (Cnt.nil fs), K0, C0', HO0, G0⟩
  case round =>
    obtain ⟨k, ps, cs, aK, aC, cK, cC, hk, rfl, rfl, rfl, HCN, HK, HC, HO, G⟩ := hrel
    clear K0 C0' HO0 G0
    have lz := G.out.size
    have hCn : cs.length ≤ 1000 := by
      have := len_le_sum cs (fun c hc => (HCN.out.pos c hc).1)
      have := HCN.out.sum
      omega
    have hKn : (kindsOf fs ps).length ≤ 1000 := by
      have := HCN.out.len
      simp [kindsOf]
      omega
    by_cases hlt : k < n
    · have hlt' : (k : Int) < (n : Int) := by omega
      obtain ⟨g, cc, hv, hg0, hg1, hgc, f, hxk, hcells⟩ := HO.out.frame HN.out hlt
      simp at hv
      obtain ⟨rfl, rfl⟩ := hv
      have HX := hid (getD_of hxk)
      have c0 := hcells 0 (by omega)
      have c1 := hcells 1 (by omega)
      have c2 := hcells 2 (by omega)
      have c3 := hcells 3 (by omega)
      have c4 := hcells 4 (by omega)
      have c5 := hcells 5 (by omega)
      have c6 := hcells 6 (by omega)
      have c7 := hcells 7 (by omega)
      simp only [Nat.add_zero] at c0
      have HG := hid (HB.out g rfl)
      clear hcells hxk
      have HK1 := hid (HK.out.chg ((Chg.refl (fun _ => False) wr).alloc (.cells (FA f) 59)) (fun _ _ _ h => h))
      go_wp2_with fail
      refine (FindFrame_calls _ (kindsOf fs ps) f _ (by omega) (HK1.out.mono (Nat.zero_le _))).mono ?_
      rintro e w1 ⟨r, hr, hr1, hr2, rfl, g1⟩
      have HR := hid hr
      have GT := ((Chg.refl (fun _ => False) wr).alloc (.cells (FA f) 59)).trans g1 fun _ _ h => h
      have N1 := hid (g1.heap (heap_new wr (.cells (FA f) 59)) id)
      have HK2 := hid (HK1.out.chg g1 fun _ _ _ h => h)
      have HC2 := hid (HC.out.chg GT fun _ _ _ h => h)
      have HO2 := hid (HO.out.chg GT fun _ _ _ h => h)
      have G2 := hid (G.out.trans GT fun _ _ h => h)
      have lz2 := G2.out.size
      clear c0 c1 c2 c3 c4 c5 c6 c7 hr g1 GT HK HC HO G HK1
      by_cases hr0 : 0 ≤ r
      · obtain ⟨i, rfl⟩ := Int.eq_ofNat_of_zero_le hr0
        have hip : i < ps.length := by simp [kindsOf] at hr2; omega
        have hic : i < cs.length := by have := HCN.out.len; omega
        have HOLD := hid (show eqFr (fs.getD ps[i] Z8) (fs.getD k Z8) = true by
          rcases HR.out with ⟨h1, _⟩ | ⟨j, hj, h1, h2, _⟩
          · omega
          · obtain rfl : i = j := by omega
            have hk2 := kinds_get fs ps hip
            rw [List.getElem?_eq_getElem hj] at hk2
            rw [← Option.some.inj hk2, HX.out]
            exact h2)
        have HNEW := hid (HCN.out.old hip HOLD.out)
        obtain ⟨gc, cc2, cur, hv2, hgc1, hgc2, hgc3, hgh, z, hz, hcz⟩ := OwnN.int HC2.out rfl hic
        simp at hv2
        obtain ⟨rfl, rfl⟩ := hv2
        have hzv : cs[i] = z := by rw [List.getElem?_eq_getElem hic] at hz; exact Option.some.inj hz
        have hzp := HCN.out.pos z (hzv ▸ List.getElem_mem hic)
        have HZ := hid hzv
        have fz := frees_at hgh
        have HGH := hid hgh
        have z1 := hzp.1
        have z2 : z ≤ 1000 := by omega
        have hic' : (i : Int) < (cs.length : Int) := by omega
        have HNEW2 := hid (show Cnt fs (k + 1) ps (cs.set i (z + 1)) from by rw [← hzv]; exact HNEW.out)
        have HC3 := hid (OwnN.put HC2.out i (z + 1) hic)
        have GS := hid ((Chg.refl (fun q => q = gc) w1).setCell (p := ⟨gc, i, none⟩) (.inl rfl) (.int .i64 (z + 1)))
        have HK3 := hid (HK2.out.chgN GS.out (fun g1 h1 e => apart_FN HK2.out HC2.out (g := g1) h1 (by rw [e]; rfl)))
        have HO3 := hid (HO2.out.chgN GS.out (fun g1 h1 e => by simp [Value.ownBlock] at h1; have := HG.out; omega))
        have G3 := hid (G2.out.trans GS.out (fun q h e => by omega))
        clear hz hzv hzp hgh HOLD HNEW HR hr2 HK2 HC2 HO2 G2 GS hip HCN
        go_wp2_with fail
        go_roundw
        case rel => exact ⟨k + 1, ps, cs.set i (z + 1), _, _, _, _, by omega, by go_num, rfl, by rw [List.length_set], HNEW2, HK3, by rw [List.length_set]; exact HC3, HO3, G3⟩
        case measure => simp [intOf]; omega
      · have hrm : r = -1 := by omega
        subst hrm
        have HNEW := hid (HCN.out.new (fun p hp => by
          rcases HR.out with ⟨_, h1⟩ | ⟨j, hj, h1, _⟩
          · rw [HX.out]; exact h1 _ (List.mem_map.mpr ⟨p, hp, rfl⟩)
          · omega))
        have HKE := hid (show kindsOf fs (ps ++ [k]) = kindsOf fs ps ++ [f] by simp only [kindsOf, List.map_append, List.map_cons, List.map_nil, HX.out])
        have kn := cells_at N1.out
        clear HR hr2 hr1 hr0 HCN
        have L3 := hid (OwnR.lit encF w1 [f] (by simp) (Nat.zero_le _) (FA f) 59 rfl rfl)
        have A3 := (Chg.refl (fun _ => False) w1).alloc (.cells (FA f) 59)
        have HK3 := hid (HK2.out.chg A3 fun _ _ _ h => h)
        have HC3 := hid (HC2.out.chg A3 fun _ _ _ h => h)
        have HO3 := hid (HO2.out.chg A3 fun _ _ _ h => h)
        have G3 := hid (G2.out.trans A3 fun _ _ h => h)
        have lz3 : w.heap.size ≤ (w1.alloc (.cells (FA f) 59)).heap.size := by simp; omega
        clear A3 HK2 HC2 HO2 G2
        go_wp2_with (at_builtin; refine wpList_appR encF _ rfl _ _ rfl w.heap.size _ _ (kindsOf fs ps) [f] rfl HK3.out rfl L3.out (by simp; omega) lz3 ?_)
        intro a4 c4 w4 hK4 hG4
        have HC4 := hid (HC3.out.chgN hG4 (fun g1 h1 h2 => apart_FN HK3.out HC3.out (g := g1) h2 h1))
        have HO4 := hid (HO3.out.chgN hG4 (fun g1 h1 h2 => by simp [Value.ownBlock] at h1; have := (HK3.out.own_lt h2).1; have := HG.out; omega))
        have G4 := hid (G3.out.trans hG4 (fun q h1 h2 => by have := HK3.out.own_lt h2; omega))
        have HK4 := hid hK4
        have lz4 : w.heap.size ≤ w4.heap.size := Nat.le_trans lz3 hG4.size
        clear hK4 hG4 kn L3 HK3 HC3 HO3 G3
        have L5 := hid (OwnR.lit encN w4 [1] (by simp) (Nat.zero_le _) #[.int .i64 1] 3 rfl rfl)
        have A5 := (Chg.refl (fun _ => False) w4).alloc (.cells #[.int .i64 1] 3)
        have HK5 := hid (HK4.out.chg A5 fun _ _ _ h => h)
        have HC5 := hid (HC4.out.chg A5 fun _ _ _ h => h)
        have HO5 := hid (HO4.out.chg A5 fun _ _ _ h => h)
        have G5 := hid (G4.out.trans A5 fun _ _ h => h)
        have lz5 : w.heap.size ≤ (w4.alloc (.cells #[.int .i64 1] 3)).heap.size := by simp; omega
        clear A5 HK4 HC4 HO4 G4
        go_wp2_with (at_builtin; refine wpList_appR encN _ rfl _ _ rfl w.heap.size _ _ cs [1] rfl HC5.out rfl L5.out (by simp; omega) lz5 ?_)
        intro a6 c6 w6 hC6 hG6
        have HK6 := hid (HK5.out.chgN hG6 (fun g1 h1 h2 => apart_FN HK5.out HC5.out (g := g1) h1 h2))
        have HO6 := hid (HO5.out.chgN hG6 (fun g1 h1 h2 => by simp [Value.ownBlock] at h1; have := (HC5.out.own_lt h2).1; have := HG.out; omega))
        have G6 := hid (G5.out.trans hG6 (fun q h1 h2 => by have := HC5.out.own_lt h2; omega))
        have HC6 := hid hC6
        clear hC6 hG6 L5 HK5 HC5 HO5 G5
        go_wp2_with fail
        go_roundw
        case rel =>
          have e1 : (kindsOf fs (ps ++ [k])).length = (kindsOf fs ps).length + [f].length := by rw [HKE.out, List.length_append]
          exact ⟨k + 1, ps ++ [k], cs ++ [1], a4, a6, c4, c6, by omega, by go_num, by rw [e1]; rfl, by rw [List.length_append]; rfl, HNEW, by rw [e1, HKE.out]; exact HK6, by rw [List.length_append]; exact HC6, HO6, G6⟩
        case measure => simp [intOf]; omega
    · obtain rfl : k = n := by omega
      have hlt' : ¬ (k : Int) < (k : Int) := by omega
      go_wp2
      go_ret2
      exact ⟨_, _, _, _, ps, cs, rfl, by rw [HN.out]; exact HCN.out, HK.out, HC.out, G.out⟩
end Go.Proofs.Ytopkehknaclhlaa
