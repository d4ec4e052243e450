/- The reference puts a point in a table. Conditions: the table is valid. (Printed by gen_ve.py.) -/
import Derived.Test.YtopkehknaclhlaaVd
import Derived.Test.YtopkehknaclhlaaCk
import Derived.Test.YtopkehknaclhlaaGa
namespace Go.Proofs.Ytopkehknaclhlaa
open Go Go.RowKit

theorem heap_r2 {w : World} {b : Nat} {T : TypeId} {f : Nat × Nat} {a0 a1 : Value} (h : w.heap[b]? = some (.cells #[a0, a1] T f)) (v0 v1 : Value) :
    ((w.setCell ⟨b, 0, none⟩ v0).setCell ⟨b, 1, none⟩ v1).heap[b]? = some (.cells #[v0, v1] T f) := by
  have h := heap_set (k := 1) (v := v1) (heap_set (k := 0) (v := v0) h)
  simpa using h
theorem chg_r2 (w : World) (b : Nat) (v0 v1 : Value) : Chg (fun k => k = b) w ((w.setCell ⟨b, 0, none⟩ v0).setCell ⟨b, 1, none⟩ v1) :=
  ((Chg.refl (fun k => k = b) w).setCell (p := ⟨b, 0, none⟩) (.inl rfl) v0).setCell (p := ⟨b, 1, none⟩) (.inl rfl) v1
theorem load_table {w : World} {g : Nat} {cs : Array Value} {t : TypeId} {fr : Nat × Nat} (hg : w.heap[g]? = some (.cells cs t fr)) (hs : cs.size = 2) : (loadVar 36 ⟨g, 0, none⟩).run Try.prog w = .ok (.agg cs) w :=
  run_loadVar_row w g t 36 cs fr _ hg Try.underlying36 rfl (by rw [hs]; kernel_rfl)

theorem apTC {w : World} {b g : Nat} {v : Value} {xs : List (Nat × Nat)} {cs : Array Value} {T : TypeId} {f : Nat × Nat} (h : OwnC w b v xs) (hb : w.heap[g]? = some (.cells cs T f)) (hT : T ≠ 33) (h2 : some g = v.ownBlock) : False := by
  rcases h.block with ⟨rfl, _⟩ | ⟨g2, cap2, cur2, rfl, _, kk, _⟩
  · simp [Value.ownBlock] at h2
  · simp [Value.ownBlock] at h2
    subst h2
    rw [hb] at kk
    simp only [Option.some.injEq, Obj.cells.injEq] at kk
    exact hT kk.2.1
theorem apT {β : Type} {e : Enc β} {w : World} {b g : Nat} {v : Value} {ys : List β} {cs : Array Value} {T : TypeId} {f : Nat × Nat} (h : OwnR e w b v ys) (hb : w.heap[g]? = some (.cells cs T f)) (hT : T ≠ e.E) (h2 : some g = v.ownBlock) : False := by
  rcases h.2 with ⟨rfl, _⟩ | ⟨g2, cap2, cur2, rfl, _, kk, _⟩
  · simp [Value.ownBlock] at h2
  · simp [Value.ownBlock] at h2
    subst h2
    rw [hb] at kk
    simp only [Option.some.injEq, Obj.cells.injEq] at kk
    exact hT kk.2.1
theorem TOk.of {xs : List (Nat × Nat)} (h1 : xs.length ≤ 64) (h2 : okTo xs xs.length) (h3 : ∀ z ∈ xs, z.1 < 4294967296 ∧ z.2 < 4294967296) : TOk xs :=
  ⟨h1, fun z hz => by
    obtain ⟨i, hi, rfl⟩ := List.getElem_of_mem hz
    have := h2.1 i hi
    rw [List.getD_eq_getElem?_getD, List.getElem?_eq_getElem hi] at this
    exact this, h3, h2.2⟩

/-- A table comes back and whether it went well. -/
def RPt (w : World) (e : Ending) (w' : World) : Prop :=
  ∃ a c a2 c2 b xs zs, e = .returned (.tuple #[.agg #[.slice a xs.length c, .slice a2 zs.length c2], .bool b]) ∧ (b = true → TOk xs ∧ zs.length = xs.length) ∧ OwnC w' w.heap.size (.slice a xs.length c) xs ∧ OwnN w' w.heap.size (.slice a2 zs.length c2) zs ∧ Chg (fun _ => False) w w'

set_option maxRecDepth 100000 in
set_option maxHeartbeats 4000000 in
theorem PutPoint_calls (w : World) (s v : Value) (xs : List (Nat × Nat)) (zs : List Int) (pa pb : Nat) (lb : Int) (ho : OwnC w 0 s xs) (hv : OwnN w 0 v zs) (ht : TOk xs) (hl : zs.length = xs.length) (hz : pa < 4294967296 ∧ pb < 4294967296) :
    Calls Try.prog 164 #[.agg #[s, v], .complex .f32 pa pb, .int .i64 lb] w (RPt w) := by
  obtain ⟨a, c, rfl⟩ := ho.form
  obtain ⟨a2, c2, rfl⟩ := hv.form
  rw [hl] at hv ⊢
  have n64 := ht.len
  have HT := hid ht
  have HL := hid hl
  have A1 := ((Chg.refl (fun _ => False) w).alloc (.cells #[.slice a xs.length c, .slice a2 xs.length c2] 36)).alloc (.cells #[.slice none 0 0, .slice none 0 0] 36)
  have HO := hid (ho.chg A1 fun _ _ _ h => h)
  have HV := hid (hv.chg A1 fun _ _ _ h => h)
  have R0 := hid (show ((w.alloc (.cells #[.slice a xs.length c, .slice a2 xs.length c2] 36)).alloc (.cells #[.slice none 0 0, .slice none 0 0] 36)).heap[w.heap.size]? = _ from heap_old (heap_new w _))
  have R1 := hid (show ((w.alloc (.cells #[.slice a xs.length c, .slice a2 xs.length c2] 36)).alloc (.cells #[.slice none 0 0, .slice none 0 0] 36)).heap[w.heap.size + 1]? = _ from heap_new' (w := w.alloc _) (b := w.heap.size + 1) (by simp))
  have Z1 : ((w.alloc (.cells #[.slice a xs.length c, .slice a2 xs.length c2] 36)).alloc (.cells #[.slice none 0 0, .slice none 0 0] 36)).heap.size = w.heap.size + 2 := by simp
  have HG := hid A1
  have HW := hid hz
  clear A1 ho hv ht hl hz
  generalize hn : xs.length = n at *
  have HN := hid hn
  clear hn
  go_enter Try.func164, Try.ntmps164
  go_upto_region 1 with fail
  generalize (w.alloc (.cells #[.slice a n c, .slice a2 n c2] 36)).alloc (.cells #[.slice none 0 0, .slice none 0 0] 36) = w1 at *
  have kR0 := cells_at R0.out
  go_wp2_with fail
  refine (IsTableS_calls _ _ _ xs zs HO.out HV.out (by rw [HN.out]; omega) (by rw [HL.out]; omega)).mono ?_
  rintro e w2 ⟨b, rfl, hG, hb⟩
  obtain rfl : b = true := hb.mpr ⟨by rw [HN.out, HL.out], by rw [HN.out]; exact n64, HT.out.to _ (Nat.le_refl _)⟩
  clear hb
  replace HO := hid (HO.out.chg hG fun _ _ _ h => h)
  replace HV := hid (HV.out.chg hG fun _ _ _ h => h)
  replace R0 := hid (hG.heap R0.out (fun h => h))
  replace R1 := hid (hG.heap R1.out (fun h => h))
  replace HG := hid (HG.out.trans hG fun _ _ h => h)
  have zw2 := hG.size
  clear hG kR0
  have kR0 := cells_at R0.out
  go_wp2_with fail
  refine (l2Copy_calls _ _ _ xs zs HO.out HV.out (by rw [HN.out]; omega) (by rw [HL.out]; omega)).mono ?_
  rintro e w3 ⟨a8, c8, b8, d8, rfl, hO8, hV8, hG⟩
  rw [HN.out] at hO8
  rw [HL.out] at hV8
  rw [HN.out, HL.out]
  have BO8 := fun q (h : some q = (Value.slice a8 n c8).ownBlock) => hO8.own_lt h
  have BV8 := fun q (h : some q = (Value.slice b8 n d8).ownBlock) => OwnR.own_lt hV8 h
  have HO8 := hid hO8
  have HV8 := hid hV8
  replace HO := hid (HO.out.chg hG fun _ _ _ h => h)
  replace HV := hid (HV.out.chg hG fun _ _ _ h => h)
  replace R0 := hid (hG.heap R0.out (fun h => h))
  replace R1 := hid (hG.heap R1.out (fun h => h))
  replace HG := hid (HG.out.trans hG fun _ _ h => h)
  have zw3 := hG.size
  clear hG hO8 hV8 kR0
  have A1 := (Chg.refl (fun _ => False) w3).alloc (.cells #[.slice a8 n c8, .slice b8 n d8] 36)
  have R8 := hid (heap_new w3 (.cells #[.slice a8 n c8, .slice b8 n d8] 36))
  replace HO := hid (HO.out.chg A1 fun _ _ _ h => h)
  replace HV := hid (HV.out.chg A1 fun _ _ _ h => h)
  replace R0 := hid (A1.heap R0.out (fun h => h))
  replace R1 := hid (A1.heap R1.out (fun h => h))
  replace HG := hid (HG.out.trans A1 fun _ _ h => h)
  replace HO8 := hid (HO8.out.chg A1 fun _ _ _ h => h)
  replace HV8 := hid (HV8.out.chg A1 fun _ _ _ h => h)
  have zw4 : w3.heap.size < (w3.alloc (.cells #[.slice a8 n c8, .slice b8 n d8] 36)).heap.size := by simp
  clear A1
  go_upto_region 4 with fail
  generalize w3.alloc (.cells #[.slice a8 n c8, .slice b8 n d8] 36) = w4 at *
  have B8 := hid (fun q (h : some q = (Value.slice a8 n c8).ownBlock) => (show w2.heap.size ≤ q ∧ q < w3.heap.size from BO8 q h))
  have D8 := hid (fun q (h : some q = (Value.slice b8 n d8).ownBlock) => (show w2.heap.size ≤ q ∧ q < w3.heap.size from BV8 q h))
  clear BO8 BV8
  generalize w3.heap.size = b9 at *
  have kR0 := cells_at R0.out
  go_wp2_with fail
  refine (l2At_calls _ _ _ xs zs pa pb HO.out HV.out (by rw [HN.out]; omega)).mono ?_
  rintro e w5 ⟨hG, hr⟩
  replace HO := hid (HO.out.chg hG fun _ _ _ h => h)
  replace HV := hid (HV.out.chg hG fun _ _ _ h => h)
  replace R0 := hid (hG.heap R0.out (fun h => h))
  replace R1 := hid (hG.heap R1.out (fun h => h))
  replace HG := hid (HG.out.trans hG fun _ _ h => h)
  replace HO8 := hid (HO8.out.chg hG fun _ _ _ h => h)
  replace HV8 := hid (HV8.out.chg hG fun _ _ _ h => h)
  replace R8 := hid (hG.heap R8.out (fun h => h))
  have zw5 := hG.size
  clear hG kR0
  rcases hr with ⟨rfl, hno⟩ | ⟨i, hi, rfl, heq⟩
  · have HNO := hid hno
    clear hno
    have kR8o := cells_at R8.out
    have A1 := (Chg.refl (fun _ => False) w5).alloc (.cells #[.complex .f32 pa pb] 33)
    have L8 := hid (OwnC.lit w5 [(pa, pb)] 33 rfl (by simp) (Nat.zero_le _) #[.complex .f32 pa pb] rfl)
    replace R1 := hid (A1.heap R1.out (fun h => h))
    replace HG := hid (HG.out.trans A1 fun _ _ h => h)
    replace HO8 := hid (HO8.out.chg A1 fun _ _ _ h => h)
    replace HV8 := hid (HV8.out.chg A1 fun _ _ _ h => h)
    replace R8 := hid (A1.heap R8.out (fun h => h))
    have z5 : w2.heap.size ≤ (w5.alloc (.cells #[.complex .f32 pa pb] 33)).heap.size := by simp; omega
    clear A1 HO HV R0
    have kR8 := cells_at R8.out
    have fR8 := frees_at R8.out
    go_wp2_with (at_builtin; refine wpList_appW _ rfl _ _ rfl w2.heap.size _ _ xs [(pa, pb)] rfl HO8.out rfl L8.out (by rw [HN.out]; simp; omega) z5 ?_)
    intro a9 c9 w9 hO hG
    have zw9 := hG.size
    have hO' : OwnC w9 w2.heap.size (.slice a9 (n + 1) c9) (xs ++ [(pa, pb)]) := by rw [HN.out] at hO; exact hO
    have HO9 := hid hO'
    have R19 := hid (hG.heap R1.out (fun h => by have := B8.out _ h; omega))
    have R89 := hid (hG.heap R8.out (fun h => by have := B8.out _ h; omega))
    have HV9 := hid (HV8.out.chgN hG (fun q h1 h2 => by exact apartC (by decide) HO8.out HV8.out h2 h1))
    have G9 := hid (HG.out.trans hG (fun q hq h => by have := B8.out _ h; omega))
    clear hO hO' hG HO8 HV8 R1 R8 HG kR8 kR8o fR8 L8
    rw [HN.out]
    try simp only [List.length_cons, List.length_nil, Nat.zero_add]
    have kR8 := cells_at R89.out
    have fR8 := frees_at R89.out
    go_upto_region 9 with fail
    have CS := (Chg.refl (fun q => q = b9) w9).setCell (p := ⟨b9, 0, none⟩) (.inl rfl) (.slice a9 (n + 1) c9)
    have R8x := hid (show (w9.setCell ⟨b9, 0, none⟩ (.slice a9 (n + 1) c9)).heap[b9]? = some (.cells #[.slice a9 (n + 1) c9, .slice b8 n d8] 36 (0, 0)) from by simpa using heap_set (k := 0) (v := .slice a9 (n + 1) c9) R89.out)
    have R1x := hid (CS.heap R19.out (by show ¬ (w.heap.size + 1 = b9); omega))
    have HOx := hid (HO9.out.chgN CS (fun q h1 h2 => by subst h2; exact apTC HO9.out R89.out (by decide) h1))
    have HVx := hid (OwnR.chgN HV9.out CS (fun q h1 h2 => by subst h2; exact apT HV9.out R89.out (by decide) h1))
    have Gx := hid (G9.out.trans CS (fun q hq (e : q = b9) => by omega))
    have zwx : w9.heap.size ≤ (w9.setCell ⟨b9, 0, none⟩ (.slice a9 (n + 1) c9)).heap.size := CS.size
    clear CS R89 R19 HO9 HV9 G9 kR8 fR8
    generalize w9.setCell ⟨b9, 0, none⟩ (.slice a9 (n + 1) c9) = w10 at *
    have kR8o := cells_at R8x.out
    have A1 := (Chg.refl (fun _ => False) w10).alloc (.cells #[.int .i64 lb] 3)
    have L9 := hid (OwnR.lit encN w10 [lb] (by simp) (Nat.zero_le _) #[.int .i64 lb] 3 rfl rfl)
    replace R8x := hid (A1.heap R8x.out (fun h => h))
    replace R1x := hid (A1.heap R1x.out (fun h => h))
    replace HOx := hid (HOx.out.chg A1 fun _ _ _ h => h)
    replace HVx := hid (HVx.out.chg A1 fun _ _ _ h => h)
    replace Gx := hid (Gx.out.trans A1 fun _ _ h => h)
    have z6 : w2.heap.size ≤ (w10.alloc (.cells #[.int .i64 lb] 3)).heap.size := by simp; omega
    clear A1
    have kR8 := cells_at R8x.out
    have fR8 := frees_at R8x.out
    go_wp2_with (at_builtin; refine wpList_appR encN _ rfl _ _ rfl w2.heap.size _ _ zs [lb] rfl HVx.out rfl L9.out (by rw [HL.out]; simp; omega) z6 ?_)
    intro a11 c11 w11 hV hG
    have zw11 := hG.size
    have hV' : OwnN w11 w2.heap.size (.slice a11 (n + 1) c11) (zs ++ [lb]) := by rw [HL.out] at hV; exact hV
    have HV9 := hid hV'
    have R19 := hid (hG.heap R1x.out (fun h => by have := D8.out _ h; omega))
    have R89 := hid (hG.heap R8x.out (fun h => by have := D8.out _ h; omega))
    have HO9 := hid (HOx.out.chgN hG (fun q h1 h2 => by exact apartC (by decide) HOx.out HVx.out h1 h2))
    have G9 := hid (Gx.out.trans hG (fun q hq h => by have := D8.out _ h; omega))
    clear hV hV' hG HOx HVx R1x R8x Gx kR8 kR8o fR8 L9
    rw [HL.out]
    try simp only [List.length_cons, List.length_nil, Nat.zero_add]
    have kR8 := cells_at R89.out
    have fR8 := frees_at R89.out
    go_upto_region 10 with fail
    have CS := (Chg.refl (fun q => q = b9) w11).setCell (p := ⟨b9, 1, none⟩) (.inl rfl) (.slice a11 (n + 1) c11)
    have R8x := hid (show (w11.setCell ⟨b9, 1, none⟩ (.slice a11 (n + 1) c11)).heap[b9]? = some (.cells #[.slice a9 (n + 1) c9, .slice a11 (n + 1) c11] 36 (0, 0)) from by simpa using heap_set (k := 1) (v := .slice a11 (n + 1) c11) R89.out)
    have R1x := hid (CS.heap R19.out (by show ¬ (w.heap.size + 1 = b9); omega))
    have HOx := hid (HO9.out.chgN CS (fun q h1 h2 => by subst h2; exact apTC HO9.out R89.out (by decide) h1))
    have HVx := hid (OwnR.chgN HV9.out CS (fun q h1 h2 => by subst h2; exact apT HV9.out R89.out (by decide) h1))
    have Gx := hid (G9.out.trans CS (fun q hq (e : q = b9) => by omega))
    clear CS R89 R19 HO9 HV9 G9 kR8 fR8
    generalize w11.setCell ⟨b9, 1, none⟩ (.slice a11 (n + 1) c11) = w12 at *
    have kR8 := cells_at R8x.out
    have e1 : (xs ++ [(pa, pb)]).length = n + 1 := by rw [List.length_append, HN.out]; rfl
    have e2 : (zs ++ [lb]).length = n + 1 := by rw [List.length_append, HL.out]; rfl
    have E1 := hid e1
    have E2 := hid e2
    clear e1 e2
    go_wp2_with fail
    refine (IsTableS_calls _ _ _ (xs ++ [(pa, pb)]) (zs ++ [lb]) (HOx.out.mono (Nat.zero_le _)) (OwnR.mono HVx.out (Nat.zero_le _)) (by rw [E1.out]; omega) (by rw [E2.out]; omega)).mono ?_
    rintro e w13 ⟨b, rfl, hG, hb⟩
    have R1y := hid (hG.heap R1x.out (fun h => h))
    have R8y := hid (hG.heap R8x.out (fun h => h))
    have HOy := hid (HOx.out.chg hG fun _ _ _ h => h)
    have HVy := hid (HVx.out.chg hG fun _ _ _ h => h)
    have Gy := hid (Gx.out.trans hG fun _ _ h => h)
    have HB := hid hb
    clear hG hb R1x R8x HOx HVx Gx kR8
    have kR8 := cells_at R8y.out
    have kR1 := cells_at R1y.out
    have fR1 := frees_at R1y.out
    cases b with
    | false =>
      go_wp2_with fail
      refine bodyPost_ret (results_row_tmp (by rfl) _ _ _ (w.heap.size + 1) _ (.bool false) rfl (load_table (heap_r2 R1y.out _ _) rfl) rfl) rfl ?_
      have CR := chg_r2 w13 (w.heap.size + 1) (.slice none 0 0) (.slice none 0 0)
      exact ⟨none, 0, none, 0, false, [], [], rfl, (fun h => by cases h), OwnC.nil _ _, OwnR.nil encN _ _, Gy.out.trans CR (fun q hq (e : q = w.heap.size + 1) => by omega)⟩
    | true =>
      go_wp2_with fail
      refine bodyPost_ret (results_row_tmp (by rfl) _ _ _ (w.heap.size + 1) _ (.bool true) rfl (load_table (heap_r2 R1y.out _ _) rfl) rfl) rfl ?_
      have CR := chg_r2 w13 (w.heap.size + 1) (.slice a9 (n + 1) c9) (.slice a11 (n + 1) c11)
      obtain ⟨t1, t2, t3⟩ := HB.out.mp (by trivial)
      refine ⟨a9, c9, a11, c11, true, xs ++ [(pa, pb)], zs ++ [lb], by rw [E1.out, E2.out], fun _ => ⟨TOk.of t2 t3 (fun z hz => ?_), by rw [E1.out, E2.out]⟩, ?_, ?_, Gy.out.trans CR (fun q hq (e : q = w.heap.size + 1) => by omega)⟩
      · rw [List.mem_append, List.mem_singleton] at hz
        rcases hz with hz | rfl
        · exact HT.out.word z hz
        · exact HW.out
      · have o1 := HOy.out.chgN CR (fun q e1 (e2 : q = w.heap.size + 1) => by have := (HOy.out.own_lt e1).1; omega)
        rw [E1.out]
        exact o1.mono (by omega)
      · have o2 := OwnR.chgN HVy.out CR (fun q e1 (e2 : q = w.heap.size + 1) => by have := (OwnR.own_lt HVy.out e1).1; omega)
        rw [E2.out]
        exact OwnR.mono o2 (by omega)
  · rw [HN.out] at hi
    have hi' : (i : Int) < (n : Int) := by omega
    obtain ⟨g, cc, cur, hv2, hg0, hg1, hgc, hgh, z, hz, hcz⟩ := OwnN.int HV8.out HL.out hi
    simp at hv2
    obtain ⟨rfl, rfl⟩ := hv2
    have fg := frees_at hgh
    have kR8 := cells_at R8.out
    have CS := (Chg.refl (fun q => q = g) w5).setCell (p := ⟨g, i, none⟩) (.inl rfl) (.int .i64 lb)
    have HV9 := hid (OwnN.put HV8.out i lb (by rw [HL.out]; exact hi))
    have HO9 := hid (HO8.out.chgN CS (fun q h1 h2 => by subst h2; exact apartC (by decide) HO8.out HV8.out h1 rfl))
    have gb := D8.out g rfl
    have R19 := hid (CS.heap R1.out (by show ¬ (w.heap.size + 1 = g); omega))
    have R89 := hid (CS.heap R8.out (by show ¬ (b9 = g); omega))
    have G9 := hid (HG.out.trans CS (fun q hq (e : q = g) => by omega))
    clear CS hz heq hgh hg1 HO8 HV8 HG HO HV R0 R1 R8
    go_upto_region 7 with fail
    generalize w5.setCell ⟨g, i, none⟩ (.int .i64 lb) = w6 at *
    clear kR8 fg hcz
    have kR8 := cells_at R89.out
    have kR1 := cells_at R19.out
    have fR1 := frees_at R19.out
    go_wp2_with fail
    refine bodyPost_ret (results_row_tmp (by rfl) _ _ _ (w.heap.size + 1) _ (.bool true) rfl (load_table (heap_r2 R19.out _ _) rfl) rfl) rfl ?_
    have CR := chg_r2 w6 (w.heap.size + 1) (.slice a8 n c8) (.slice (some ⟨g, 0, none⟩) n d8)
    refine ⟨a8, c8, some ⟨g, 0, none⟩, d8, true, xs, zs.set i lb, by rw [List.length_set, HL.out, HN.out], fun _ => ⟨HT.out, by rw [List.length_set, HL.out, HN.out]⟩, ?_, ?_, G9.out.trans CR (fun q hq (e : q = w.heap.size + 1) => by omega)⟩
    · have o1 := HO9.out.chgN CR (fun q e1 (e2 : q = w.heap.size + 1) => by have := B8.out q e1; omega)
      rw [HN.out]
      exact o1.mono (by omega)
    · have o2 := OwnR.chgN HV9.out CR (fun q e1 (e2 : q = w.heap.size + 1) => by have := D8.out q e1; omega)
      rw [List.length_set, HL.out]
      exact OwnR.mono o2 (by omega)
end Go.Proofs.Ytopkehknaclhlaa
