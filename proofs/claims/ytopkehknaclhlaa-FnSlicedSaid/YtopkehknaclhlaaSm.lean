/- Lists of samples: appending to them, making them, and that a list is the same as one that reads alike. -/
import Derived.Test.YtopkehknaclhlaaCn
namespace Go.Proofs.Ytopkehknaclhlaa
open Go Go.RowKit

/-- Each sample is one cell. -/
theorem cx_one (ys : List (Nat × Nat)) : ∀ u ∈ ys.map cx, u.oneCell' = true := by
  intro u hu
  obtain ⟨_, _, rfl⟩ := List.mem_map.1 hu
  rfl

/-- The cells of a list that reads so. -/
theorem OwnC.cellsOf {w : World} {b : Nat} {g m c : Nat} {ys : List (Nat × Nat)} (h : OwnC w b (.slice (some ⟨g, 0, none⟩) m c) ys) : m = ys.length ∧ ∀ j u, (ys.map cx)[j]? = some u → w.cell? ((⟨g, 0, none⟩ : Addr).add j) = some u := by
  rcases h.block with ⟨h, _⟩ | ⟨g', cap, cur, hv, hb, hh, hc, hm, hcell⟩
  · simp at h
  · simp at hv
    obtain ⟨rfl, rfl, rfl⟩ := hv
    refine ⟨rfl, fun j u hu => ?_⟩
    rw [Addr.add_lit, Nat.zero_add, cell_at hh]
    have hj : j < ys.length := by
      rcases Nat.lt_or_ge j ys.length with h | h
      · exact h
      · simp [List.getElem?_eq_none (l := ys.map cx) (by simpa using h)] at hu
    rw [hcell j hj]
    simpa [hj] using hu

/-- A slice's block lies in the world. -/
theorem OwnC.own_lt {w : World} {b : Nat} {v : Value} {xs : List (Nat × Nat)} (h : OwnC w b v xs) {n : Nat} (hn : some n = v.ownBlock) : b ≤ n ∧ n < w.heap.size := by
  rcases h.block with ⟨rfl, _⟩ | ⟨g', cap, cur, rfl, hb, hh, _⟩
  · simp [Value.ownBlock] at hn
  · simp [Value.ownBlock] at hn
    subst hn
    exact ⟨hb, heap_lt hh⟩

theorem OwnC.lit (w : World) (xs : List (Nat × Nat)) (T : TypeId) (hT : T = 33) (hn : xs.length ≤ 1048576) {base : Nat} (hb : base ≤ w.heap.size) (cs : Array Value) (hcs : cs.toList = xs.map cx) :
    OwnC (w.alloc (.cells cs T)) base (.slice (some ⟨w.heap.size, 0, none⟩) xs.length xs.length) xs := by
  subst hT
  have h := World.ownsRow_lit (base := base) (e := 33) (size := 1) w cs xs.length hb (by unfold maxLen; omega) (by have := congrArg List.length hcs; simp at this; simpa using this)
  rw [hcs] at h
  exact h

/-- One list is appended to another. -/
theorem wpList_app {ops : Array Oper} {rest : List Oper} {o : Oper} {a : Act} {Q : Exit → Act → World → Prop} (w : World) (hgd : o.guard = none) (s x : Operand)
    (ho : o.op = .call { callee := .builtin .append, args := #[s, x], argTypes := #[25, 25] })
    (base : Nat) (v u : Value) (xs ys : List (Nat × Nat)) (hs : a.eval s = v) (hown : OwnC w base v xs) (hx : a.eval x = u) (hu : OwnC w 0 u ys)
    (hlen : xs.length + ys.length ≤ 1048576) (hbase : base ≤ w.heap.size)
    (h : ∀ a' c' w', OwnC w' base (.slice a' (xs.length + ys.length) c') (xs ++ ys) → Chg (fun n => some n = v.ownBlock) w w' → wpList Try.prog ops Q rest (a.put o.dst (.slice a' (xs.length + ys.length) c')) w') :
    wpList Try.prog ops Q (o :: rest) a w := by
  obtain ⟨i, hi, hz, hsz, hby⟩ := info_parts info33
  rcases hu.block with ⟨rfl, rfl⟩ | ⟨g, cap, cur, rfl, hg, hh, hc, hm, hcell⟩
  · refine wpList_plain hgd fun K hK' => ?_
    have hrun := run_append_owned_none (P := Try.prog) w base 25 o.type 33 i 1 Try.underlying25 hi v _ _ hown
    obtain ⟨a', c', hv⟩ := hown.form
    unfold Oper.wp
    simp [execOp, ho, resolve, invoke, builtin, hs, hx, hrun, Result.andThen]
    refine hK' _ _ ?_
    have h2 := h a' c' w (by simpa [hv] using hown) (Chg.refl _ w)
    simpa [hv] using h2
  · refine wpList_append_own w hgd s x 25 ho base 33 i (.complex .f32 0 0) 1 8 Try.underlying25 hi hz hsz hby rfl (by decide) v xs.length (xs.map cx) hs hown ⟨g, 0, none⟩ ys.length cap (ys.map cx) hx (by simp) hu.cellsOf.2 (cx_one ys) (by unfold maxLen; omega) (by omega) hbase ?_
    intro v' w' hown' hgrow _
    have hown2 : OwnC w' base v' (xs ++ ys) := by simpa [OwnC] using hown'
    obtain ⟨a', c', rfl⟩ := hown2.form
    simp only [List.length_append] at hown2 ⊢
    exact h a' c' w' hown2 (Chg.of_grown hgrow fun n hn _ => hn)

/-- 'true' comes back; at most the tape was asked. -/
theorem l5Same_refl (w : World) (x : Nat) : Calls Try.prog 167 #[.float .f32 x, .float .f32 x] w (RTrue w) := by
  cases hx : isN .f32 x
  · have ox : FloatKind.f32.format.order x x = some .eq := by rw [order_self, hx]; rfl
    clear hx
    cases oz : (FloatKind.f32.format.order x 0 == some .eq)
    · go_enter Try.func167, Try.ntmps167
      go_wp2
      go_ret
      exact ⟨rfl, 0, rfl⟩
    · go_enter Try.func167, Try.ntmps167
      go_wp2
      go_ret
      refine ⟨?_, _, rfl⟩
      have e := bin_order_indep .quo .f32 1065353216 x 0 w (w.drewN (fask .quo .f32 1065353216 x).toNat)
      simp only [Array.getD_eq_getD_getElem?]
      simp [e]
  · have ox := order_nan_left .f32 x x hx
    clear hx
    go_enter Try.func167, Try.ntmps167
    go_wp2
    go_ret
    exact ⟨rfl, 0, rfl⟩

theorem l5SamePoint_refl (w : World) (x y : Nat) : Calls Try.prog 138 #[.complex .f32 x y, .complex .f32 x y] w (RTrue w) := by
  go_enter Try.func138, Try.ntmps138
  go_wp2_with fail
  refine (l5Same_refl _ _).mono ?_
  rintro e w1 ⟨rfl, n1, rfl⟩
  go_wp2_with fail
  refine (l5Same_refl _ _).mono ?_
  rintro e w1 ⟨rfl, n2, rfl⟩
  go_wp2_with fail
  go_ret
  exact ⟨rfl, n1 + n2, rfl⟩

/-- A list's sample. -/
theorem OwnC.at {w : World} {b n : Nat} {v : Value} {xs : List (Nat × Nat)} (h : OwnC w b v xs) (hl : xs.length = n) (hn : 0 < n) : ∃ g c, v = .slice (some ⟨g, 0, none⟩) n c ∧ b ≤ g ∧ g < w.heap.size ∧ n ≤ c ∧ ∀ k, k < n → ∃ x y, xs[k]? = some (x, y) ∧ w.cell? ⟨g, k, none⟩ = some (.complex .f32 x y) := by
  subst hl
  rcases h.block with ⟨rfl, rfl⟩ | ⟨g', cap, cur, rfl, hb, hh, hc, hm, hcell⟩
  · simp at hn
  · exact ⟨g', cap, rfl, hb, heap_lt hh, hc, fun k hk => ⟨xs[k].1, xs[k].2, by simp [hk], by rw [cell_at hh, hcell k hk]; rfl⟩⟩

set_option maxHeartbeats 1000000 in
theorem l5SameList_refl (w : World) (u v : Value) (xs : List (Nat × Nat)) (hl : xs.length ≤ 1048576) (hu : OwnC w 0 u xs) (hv : OwnC w 0 v xs) : Calls Try.prog 98 #[u, v] w (RTrue w) := by
  obtain ⟨n, hn⟩ : ∃ n, xs.length = n := ⟨_, rfl⟩
  rw [hn] at hl
  by_cases h0 : 0 < n
  · obtain ⟨g, c, rfl, _, _, hc, k1⟩ := hu.at hn h0
    obtain ⟨g2, c2, rfl, _, _, hc2, k2⟩ := hv.at hn h0
    have K1 := hid k1
    have K2 := hid k2
    clear k1 k2 hu hv
    go_enter Try.func98, Try.ntmps98
    go_wp2
    go_loopw [13] (fun i wr => ∃ (k m : Nat), k ≤ n ∧ i = .int .i64 (k : Int) ∧ Hid (wr = w.drewN m)) (fun i _ => n - (intOf i).toNat)
    case atStart => exact ⟨0, 0, by omega, rfl, hid rfl⟩
    case round =>
      obtain ⟨k, m, hk, rfl, HW⟩ := hrel
      by_cases hlt : k < n
      · have hlt' : (k : Int) < (n : Int) := by omega
        obtain ⟨x, y, e1, a1⟩ := K1.out k hlt
        obtain ⟨x', y', e2, a2⟩ := K2.out k hlt
        rw [e1] at e2
        simp only [Option.some.injEq, Prod.mk.injEq] at e2
        obtain ⟨rfl, rfl⟩ := e2
        replace a1 : wr.cell? ⟨g, k, none⟩ = some (.complex .f32 x y) := by rw [HW.out]; exact a1
        replace a2 : wr.cell? ⟨g2, k, none⟩ = some (.complex .f32 x y) := by rw [HW.out]; exact a2
        clear e1
        have i0 : (0 : Int) ≤ ((k : Nat) : Int) := by omega
        go_wp2
        go_quiet ((go_at_call 138; exact Calls.quiet_of (l5SamePoint_refl _ _ _)))
        go_wp2
        go_roundw
        case rel => exact ⟨k + 1, _, by omega, by go_num, hid (by rw [HW.out, World.drewN_drewN])⟩
        case measure => simp [intOf]; omega
      · have hlt' : ¬ (k : Int) < (n : Int) := by omega
        go_wp2
        go_ret
        exact ⟨rfl, m, HW.out⟩
  · obtain rfl : n = 0 := by omega
    obtain ⟨a, c, rfl⟩ := hu.form
    obtain ⟨a2, c2, rfl⟩ := hv.form
    rw [hn]
    clear hu hv
    go_enter Try.func98, Try.ntmps98
    go_wp2
    go_loop [13] (fun i => i = .int .i64 0) (fun i => 0)
    case atStart => rfl
    case round =>
      obtain rfl := hrel
      go_wp2
      go_ret
      exact ⟨rfl, 0, rfl⟩

theorem MakeSame_refl (w : World) (u v : Value) (xs : List (Nat × Nat)) (hl : xs.length ≤ 1048576) (hu : OwnC w 0 u xs) (hv : OwnC w 0 v xs) : Calls Try.prog 42 #[u, v] w (RTrue w) := by
  have HU := hid hu
  have HV := hid hv
  clear hu hv
  go_enter Try.func42, Try.ntmps42
  go_wp2_with fail
  refine (l5SameList_refl _ _ _ xs hl HU.out HV.out).mono ?_
  rintro e w1 ⟨rfl, n1, rfl⟩
  go_wp2_with fail
  go_ret
  exact ⟨rfl, n1, rfl⟩

/-- A list of samples comes back; the cursor moves. -/
def RSam (w : World) (c : Nat) (most : Nat) (e : Ending) (w' : World) : Prop :=
  ∃ a cap xs, xs.length ≤ most ∧ e = .returned (.slice a xs.length cap) ∧ OwnC w' w.heap.size (.slice a xs.length cap) xs ∧ Cur w' c ∧ Chg (fun k => k = c) w w'

set_option maxHeartbeats 2000000 in
theorem l4Samples_calls (w : World) (c : Nat) (hc : Cur w c) (n : Nat) (hn : n ≤ 100) :
    Calls Try.prog 95 #[.pointer (some ⟨c, 0, none⟩), .int .i64 (n : Int)] w (RSam w c n) := by
  have HC := hid hc
  have ltc := hc.lt
  clear hc
  go_enter Try.func95, Try.ntmps95
  go_wp2_with fail
  refine (l01Below_calls _ c (HC.out.alloc _) ((n : Int) + 1) (by omega) (by omega)).mono ?_
  rintro e w1 ⟨x, x0, x1, rfl, hc1, g1⟩
  have HC1 := hid hc1
  have O1 := hid ((OwnC.lit w [] 33 rfl (by simp) (Nat.le_refl w.heap.size) #[] rfl).chg g1 (fun n h1 _ e => by omega))
  have z1 := g1.size
  simp at z1
  obtain ⟨m, rfl⟩ := Int.eq_ofNat_of_zero_le x0
  clear hc1
  have G1 := hid (((Chg.refl (fun k => k = c) w).alloc (.cells #[] 33)).trans g1 fun _ _ h => h)
  clear g1
  go_wp2_with fail
  go_loopw [5, 6] (fun s i wr => ∃ (a : Option Addr) (cap k : Nat) (xs : List (Nat × Nat)), k + xs.length ≤ n ∧ i = .int .i64 (k : Int) ∧ s = .slice a xs.length cap ∧ Hid (OwnC wr w.heap.size (.slice a xs.length cap) xs) ∧ Hid (Cur wr c) ∧ Hid (Chg (fun k => k = c) w wr)) (fun _ i _ => (intOf i).toNat)
  case atStart => exact ⟨_, _, m, [], by simp; omega, rfl, rfl, O1, HC1, G1⟩
  case round =>
    obtain ⟨a, cap, k, xs, hk, rfl, rfl, HO, HW, G⟩ := hrel
    clear O1 HC1 G1 HC
    have z0 := G.out.size
    by_cases hlt : 0 < k
    · have hlt' : (0 : Int) < (k : Int) := by omega
      go_wp2_with fail
      refine (l2Small_calls _ c HW.out).mono ?_
      rintro e w2 ⟨x, y, _, _, _, _, rfl, hc2, g2⟩
      generalize floatOfInt .f32 x = p
      generalize floatOfInt .f32 y = q
      have HC2 := hid hc2
      have HO2 := hid (HO.out.chg g2 (fun n h1 _ e => by omega))
      have G2 := hid (G.out.trans g2 fun _ _ h => h)
      clear hc2 g2 HW HO G
      go_wp2_with fail
      refine (l01Once_calls _ c HC2.out 15 (by omega) (by omega)).mono ?_
      rintro e w3 ⟨b, rfl, hc3, g3⟩
      have HC3 := hid hc3
      have HO3 := hid (HO2.out.chg g3 (fun n h1 _ e => by omega))
      have G3 := hid (G2.out.trans g3 fun _ _ h => h)
      clear hc3 g3 HC2 HO2 G2
      cases b
      · have z3 := G3.out.size
        have HO4 := hid (HO3.out.chg ((Chg.refl (fun _ => False) w3).alloc (.cells #[.complex .f32 p q] 33)) (fun _ _ _ h => h))
        go_wp2_with (at_builtin; refine wpList_app _ rfl _ _ rfl w.heap.size _ _ xs [(p, q)] rfl HO4.out rfl (OwnC.lit w3 [(p, q)] _ rfl (by simp) (Nat.zero_le _) #[.complex .f32 p q] rfl) (by simp; omega) (by simp; omega) ?_)
        intro a' c' w' hO hG
        have HO5 := hid hO
        have GT := ((Chg.refl (fun n => some n = (Value.slice a xs.length cap).ownBlock) w3).alloc (.cells #[.complex .f32 p q] 33)).trans hG (fun _ _ h => h)
        have G5 := hid (G3.out.trans GT (fun n h1 h2 => absurd h1 (by have := (HO3.out.own_lt h2); omega)))
        have HC5 := hid (HC3.out.chg GT (fun n h1 h2 => by have := (HO3.out.own_lt h2); omega))
        clear hO hG GT HO4 HO3 HC3 G3
        go_wp2
        go_roundw
        case rel => exact ⟨a', c', k - 1, xs ++ [(p, q)], by simp; omega, by go_num, by simp, by simpa using HO5, HC5, G5⟩
        case measure => simp [intOf]; omega
      · go_wp2_with fail
        refine (l2Any_calls _ c HC3.out).mono ?_
        rintro e w4 ⟨p', q', _, _, rfl, hc4, g4⟩
        have HC4 := hid hc4
        have HO4' := hid (HO3.out.chg g4 (fun n h1 _ e => by omega))
        have G4 := hid (G3.out.trans g4 fun _ _ h => h)
        clear hc4 g4 HC3 HO3 G3
        have z3 := G4.out.size
        have HO4 := hid (HO4'.out.chg ((Chg.refl (fun _ => False) w4).alloc (.cells #[.complex .f32 p' q'] 33)) (fun _ _ _ h => h))
        go_wp2_with (at_builtin; refine wpList_app _ rfl _ _ rfl w.heap.size _ _ xs [(p', q')] rfl HO4.out rfl (OwnC.lit w4 [(p', q')] _ rfl (by simp) (Nat.zero_le _) #[.complex .f32 p' q'] rfl) (by simp; omega) (by simp; omega) ?_)
        intro a' c' w' hO hG
        have HO5 := hid hO
        have GT := ((Chg.refl (fun n => some n = (Value.slice a xs.length cap).ownBlock) w4).alloc (.cells #[.complex .f32 p' q'] 33)).trans hG (fun _ _ h => h)
        have G5 := hid (G4.out.trans GT (fun n h1 h2 => absurd h1 (by have := (HO4'.out.own_lt h2); omega)))
        have HC5 := hid (HC4.out.chg GT (fun n h1 h2 => by have := (HO4'.out.own_lt h2); omega))
        clear hO hG GT HO4 HO4' HC4 G4
        go_wp2
        go_roundw
        case rel => exact ⟨a', c', k - 1, xs ++ [(p', q')], by simp; omega, by go_num, by simp, by simpa using HO5, HC5, G5⟩
        case measure => simp [intOf]; omega
    · obtain rfl : k = 0 := by omega
      go_wp2
      go_ret
      exact ⟨_, _, xs, by omega, rfl, HO.out, HW.out, G.out⟩

/-- A list of samples comes back. -/
def RMk (w : World) (most : Nat) (e : Ending) (w' : World) : Prop :=
  ∃ a cap xs, xs.length ≤ most ∧ e = .returned (.slice a xs.length cap) ∧ OwnC w' w.heap.size (.slice a xs.length cap) xs ∧ Chg (fun _ => False) w w'

set_option maxHeartbeats 1000000 in
theorem MakeSamples_calls (w : World) (a : Option Addr) (len cap : Nat) (hy : Bytes w w.heap.size a len cap) (n : Nat) (h0 : 0 < n) (hn : n ≤ 100) :
    Calls Try.prog 40 #[.slice a len cap, .int .i64 (n : Int)] w (RMk w n) := by
  have HY := hid hy
  clear hy
  go_enter Try.func40, Try.ntmps40
  go_wp2_with fail
  refine (l01New_calls _ _ _ _ HY.out).mono ?_
  rintro e w1 ⟨c, hc, rfl, hc1, g1⟩
  have HC1 := hid hc1
  clear hc1
  go_wp2_with fail
  refine (l4Samples_calls _ c HC1.out n hn).mono ?_
  rintro e w2 ⟨a2, cap2, xs, hl, rfl, ho, hc2, g2⟩
  have HO := hid ho
  clear ho hc2
  have z1 := g1.size
  go_wp2_with fail
  go_ret
  exact ⟨_, _, xs, hl, rfl, HO.out.mono z1, g1.trans g2 fun n hn e => by omega⟩
end Go.Proofs.Ytopkehknaclhlaa
