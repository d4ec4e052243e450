/- The reference's rings: one is made out of bytes. -/
import Derived.Test.YtopkehknaclhlaaRy
import Derived.Test.YtopkehknaclhlaaRz
namespace Go.Proofs.Ytopkehknaclhlaa
open Go Go.RowKit

/-- A ring's parts, its numbers named. -/
def RgAt (w : World) (base g n c p : Nat) (is : List (Nat × Nat)) : Prop :=
  ∃ xs, xs.length = n ∧ OwnC w base (.slice (some ⟨g, 0, none⟩) n c) xs ∧ OkRing xs p is.length ∧ items xs p is.length = is

theorem RgOk.at {w : World} {base n : Nat} {v : Value} {is : List (Nat × Nat)} (h : RgOk w base v n is) :
    ∃ g c p, v = .agg #[.slice (some ⟨g, 0, none⟩) n c, .int .i64 ((p : Nat) : Int), .int .i64 ((is.length : Nat) : Int)] ∧ RgAt w base g n c p is := by
  obtain ⟨g, c, p, xs, h1, h2⟩ := h
  exact ⟨g, c, p, h1, xs, h2⟩
theorem RgAt.ok {w : World} {base g n c p : Nat} {is : List (Nat × Nat)} (h : RgAt w base g n c p is) :
    RgOk w base (.agg #[.slice (some ⟨g, 0, none⟩) n c, .int .i64 ((p : Nat) : Int), .int .i64 ((is.length : Nat) : Int)]) n is := by
  obtain ⟨xs, h2⟩ := h
  exact ⟨g, c, p, xs, rfl, h2⟩
theorem RgAt.chg {S : Nat → Prop} {w w' : World} {base g n c p : Nat} {is : List (Nat × Nat)} (h : RgAt w base g n c p is) (G : Chg S w w') (hS : ¬ S g) : RgAt w' base g n c p is := by
  obtain ⟨xs, h1, h2, h3⟩ := h
  exact ⟨xs, h1, h2.chg1 G hS, h3⟩
theorem RgAt.mono {w : World} {b b' g n c p : Nat} {is : List (Nat × Nat)} (h : RgAt w b g n c p is) (hb : b' ≤ b) : RgAt w b' g n c p is := by
  obtain ⟨xs, h1, h2, h3⟩ := h
  exact ⟨xs, h1, h2.mono hb, h3⟩
theorem RgAt.lt {w : World} {base g n c p : Nat} {is : List (Nat × Nat)} (h : RgAt w base g n c p is) : base ≤ g ∧ g < w.heap.size := by
  obtain ⟨xs, h1, h2, h3⟩ := h
  exact h2.own_lt rfl
theorem RgAt.len {w : World} {base g n c p : Nat} {is : List (Nat × Nat)} (h : RgAt w base g n c p is) : is.length ≤ n ∧ n ≤ 16 ∧ 1 ≤ n := by
  obtain ⟨xs, h1, h2, h3, h4⟩ := h
  have := h3.1
  have := h3.2.1
  have := h3.2.2.2.1
  omega

theorem RgAt.zeros {w : World} {b n : Nat} (h : w.heap[b]? = some (.cells (Array.replicate n (.complex .f32 0 0)) 33 (0, 0))) (h1 : 1 ≤ n) (h2 : n ≤ 16) {base : Nat} (hb : base ≤ b) : RgAt w base b n n 0 [] := by
  refine ⟨List.replicate n (0, 0), by simp, ⟨by simp, .inr ⟨b, n, _, by simp, hb, h, by simp, by unfold maxLen; omega, by simp, ?_⟩⟩, ⟨by simp; omega, by simp; omega, by simp; omega, by simp, fun i hi hl => ?_⟩, by simp [items]⟩
  · simp [cx]
  · simp at hl
    have : i % n < n := Nat.mod_lt _ (by omega)
    simp [this]

/-- Some ring comes back. -/
def RPsh (w : World) (n : Nat) (e : Ending) (w' : World) : Prop :=
  ∃ v is x y, e = .returned (.tuple #[v, .complex .f32 x y]) ∧ RgOk w' w.heap.size v n is ∧ Chg (fun _ => False) w w'

theorem l4Push_any (w : World) (v : Value) (n x y : Nat) (is : List (Nat × Nat)) (hr : RgOk w 0 v n is) :
    Calls Try.prog 150 #[v, .complex .f32 x y] w (RPsh w n) := by
  have hl : is.length ≤ n := by
    obtain ⟨_, _, _, _, h⟩ := hr.at
    exact h.len.1
  rcases Nat.lt_or_ge is.length n with h | h
  · refine (l4Push_room w v n (x, y) is hr h).mono ?_
    rintro e w' ⟨v', rfl, h2, h3⟩
    exact ⟨v', _, _, _, rfl, h2, h3⟩
  · cases is with
    | nil => 
      obtain ⟨_, _, _, _, h2⟩ := hr.at
      have := h2.len
      simp at h
      omega
    | cons z is =>
      refine (l4Push_full w v n (x, y) z is hr (by simp at h hl; omega)).mono ?_
      rintro e w' ⟨v', rfl, h2, h3⟩
      exact ⟨v', _, _, _, rfl, h2, h3⟩

/-- A ring comes back; the cursor moves. -/
def RRn (w : World) (c : Nat) (e : Ending) (w' : World) : Prop :=
  ∃ v n is, e = .returned v ∧ RgOk w' w.heap.size v n is ∧ Cur w' c ∧ Chg (fun k => k = c) w w'

set_option maxRecDepth 100000 in
set_option maxHeartbeats 4000000 in
theorem l4Ring_calls (w : World) (c : Nat) (hc : Cur w c) :
    Calls Try.prog 118 #[.pointer (some ⟨c, 0, none⟩), .int .i64 9] w (RRn w c) := by
  have HC := hid hc
  have ltc := hc.lt
  clear hc
  go_enter Try.func118, Try.ntmps118
  go_wp2_with fail
  refine (l01Below_calls _ c (HC.out.alloc _) 9 (by omega) (by omega)).mono ?_
  rintro e w1 ⟨x, x0, x1, rfl, hc1, g1⟩
  obtain ⟨m, rfl⟩ := Int.eq_ofNat_of_zero_le x0
  have HC1 := hid hc1
  have F1 := hid (g1.heap (heap_new w _) (fun e => by omega))
  have G1 := hid (((Chg.refl (fun k => k = c) w).alloc (.cells #[.slice none 0 0, .int .i64 0, .int .i64 0] 27)).trans g1 fun _ _ h => h)
  clear hc1 g1
  go_wp2_with fail
  have hm : (1 : Int) + (m : Int) = ((m + 1 : Nat) : Int) := by omega
  rw [hm]
  refine (specNewRing_yes _ (m + 1) (by omega) (by omega)).mono ?_
  rintro e w2 ⟨b, lb, rfl, hb, g2⟩
  have z1 := G1.out.size
  have z2 := g2.size
  have y1 := heap_lt F1.out
  have R2 := hid (RgAt.zeros hb (by omega) (by omega) (Nat.le_trans z1 lb))
  have lb2 := heap_lt hb
  have HC2 := hid (HC1.out.chg g2 fun _ _ h => h)
  have F2 := hid (g2.heap F1.out id)
  have G2 := hid (G1.out.trans g2 fun _ _ h => h.elim)
  clear hb g2 G1 HC1 hm
  generalize m + 1 = n at *
  go_wp2_with fail
  refine (l01Below_calls _ c (HC2.out.alloc _) 20 (by omega) (by omega)).mono ?_
  rintro e w3 ⟨k0, k00, k01, rfl, hc3, g3⟩
  obtain ⟨k0, rfl⟩ := Int.eq_ofNat_of_zero_le k00
  have z3 := g3.size
  simp at z3
  have HC3 := hid hc3
  have R3 := hid (R2.out.chg (((Chg.refl (fun k => k = c) w2).alloc (.cells #[.slice (some ⟨b, 0, none⟩) n n, .int .i64 0, .int .i64 0] 27)).trans g3 fun _ _ h => h) (fun e => by omega))
  have F3 := hid (g3.heap (heap_old F2.out) (fun e => by omega))
  have L3 := hid (g3.heap (heap_new w2 (.cells #[.slice (some ⟨b, 0, none⟩) n n, .int .i64 0, .int .i64 0] 27)) (fun e => by omega))
  have G3 := hid ((G2.out.alloc (.cells #[.slice (some ⟨b, 0, none⟩) n n, .int .i64 0, .int .i64 0] 27)).trans g3 fun _ _ h => h)
  clear hc3 g3 R2 F2 G2 HC2 F1
  have hL : w.heap.size + 1 ≤ w2.heap.size := by omega
  have nbL : b ≠ w2.heap.size := by omega
  have nbw : b ≠ w.heap.size := by omega
  generalize w2.heap.size = L at *
  clear z1 z2 lb lb2
  have hbL := R3.out.lt.1
  go_wp2_with fail
  go_loopw [7] (fun i wr => ∃ (k g cp p : Nat) (is : List (Nat × Nat)), i = .int .i64 (k : Int) ∧ k ≤ 20 ∧ Hid (wr.heap[L]? = some (.cells #[.slice (some ⟨g, 0, none⟩) n cp, .int .i64 ((p : Nat) : Int), .int .i64 ((is.length : Nat) : Int)] 27 (0, 0))) ∧ g ≠ L ∧ Hid (RgAt wr w.heap.size g n cp p is) ∧ Hid (Cur wr c) ∧ Hid (Chg (fun k => k = c) w wr) ∧ Hid (wr.heap[w.heap.size]? = some (.cells #[.slice none 0 0, .int .i64 0, .int .i64 0] 27 (0, 0))) ∧ g ≠ w.heap.size) (fun i _ => (intOf i).toNat)
  case atStart => exact ⟨k0, b, n, 0, [], rfl, by omega, L3, nbL, R3, HC3, G3, F3, nbw⟩
  case round =>
    obtain ⟨k, g, cp, p, is, rfl, hk20, HL, ngL, HR, HW, G, HF, ngw⟩ := hrel
    clear L3 nbL R3 HC3 G3 F3
    have z0 := G.out.size
    have lL := heap_lt HL.out
    have lg := HR.out.lt
    have kL := cells_at HL.out
    have fL := frees_at HL.out
    by_cases hlt : 0 < k
    · have hlt' : (0 : Int) < (k : Int) := by omega
      go_wp2_with fail
      refine (l01Once_calls _ c HW.out 3 (by omega) (by omega)).mono ?_
      rintro e w4 ⟨t, rfl, hc4, g4⟩
      have HC4 := hid hc4
      have HL4 := hid (g4.heap HL.out (fun e => by omega))
      have HR4 := hid (HR.out.chg g4 (fun e => by omega))
      have HF4 := hid (g4.heap HF.out (fun e => by omega))
      have G4 := hid (G.out.trans g4 fun _ _ h => h)
      have z4 := G4.out.size
      have y4 := heap_lt HL4.out
      have y5 := heap_lt HF4.out
      clear hc4 g4 HL HR HW G HF kL fL
      have kL := cells_at HL4.out
      have fL := frees_at HL4.out
      have take : ∀ (y : Nat × Nat) (is' : List (Nat × Nat)), is = y :: is' → 0 < is.length := fun _ _ e => by subst e; simp
      have push : Code.wp Try.prog = Code.wp Try.prog := rfl
      clear take push
      by_cases hboth : t = true ∧ 0 < is.length
      · obtain ⟨rfl, hpos⟩ := hboth
        obtain ⟨y, is', rfl⟩ : ∃ y is', is = y :: is' := by
          cases is with
          | nil => simp at hpos
          | cons y is' => exact ⟨y, is', rfl⟩
        have hp' : (0 : Int) < (((y :: is').length : Nat) : Int) := by omega
        generalize hq : (y :: is').length = q at *
        have HQ := hid hq
        clear hq
        go_wp2_with fail
        refine (l4Take_calls _ _ n y is' ?_).mono ?_
        · have h := (HR4.out.mono (Nat.zero_le _)).ok
          rw [HQ.out] at h
          exact h
        rintro e w5 ⟨v5, rfl, R5, g5⟩
        obtain ⟨g', c5, p5, rfl, A5⟩ := R5.at
        have l5 := A5.lt
        have z5 := g5.size
        have HL5 := hid (g5.heap HL4.out id)
        have HF5 := hid (g5.heap HF4.out id)
        have HC5 := hid (HC4.out.chg g5 fun _ _ h => h)
        have G5 := hid (G4.out.trans g5 fun _ _ h => h.elim)
        have A5' := hid A5
        clear A5 R5 g5 kL fL
        have kL := cells_at HL5.out
        have fL := frees_at HL5.out
        have S5 := hid (heap_row3 HL5.out (.slice (some ⟨g', 0, none⟩) n c5) (.int .i64 (p5 : Int)) (.int .i64 ((is'.length : Nat) : Int)))
        have GS := hid (chg_row3 w5 L (.slice (some ⟨g', 0, none⟩) n c5) (.int .i64 (p5 : Int)) (.int .i64 ((is'.length : Nat) : Int)))
        go_wp2_with fail
        go_roundw
        case rel => exact ⟨k - 1, g', c5, p5, is', by go_num, by omega, S5, by omega, hid ((A5'.out.chg GS.out (fun e => by omega)).mono (by omega)), hid (HC5.out.chg GS.out (fun _ h e => by omega)), hid (G5.out.trans GS.out (fun _ h e => by omega)), hid (GS.out.heap HF5.out (fun e => by omega)), by omega⟩
        case measure => simp [intOf]; omega
      · have hn : ¬ (t = true ∧ (0 : Int) < ((is.length : Nat) : Int)) := fun h => hboth ⟨h.1, by omega⟩
        have hi0 : t = true → ¬ (0 : Int) < ((is.length : Nat) : Int) := fun h h2 => hn ⟨h, h2⟩
        clear hn hboth
        generalize hq : is.length = q at *
        have HQ := hid hq
        have HI0 := hid hi0
        clear hq hi0
        cases t
        · go_wp2_with fail
          go_region_with (first
            | (go_at_call 125; refine (l2Small_calls _ c ?_).mono ?_; exact HC4.out.chg (Chg.refl (fun _ => False) w4).drew fun _ _ h => h; rintro e w5 ⟨x5, y5', _, _, _, _, rfl, hc5, g5⟩; have HC5 := hid hc5; have HL5 := hid (g5.heap (show w4.drew.heap[L]? = _ from HL4.out) (fun e => by omega)); have kL5 := cells_at HL5.out; have fL5 := frees_at HL5.out; have HR5 := hid (HR4.out.chg ((Chg.refl (fun k => k = c) w4).drew.trans g5 fun _ _ h => h) (fun e => by omega)); have HF5 := hid (g5.heap (show w4.drew.heap[w.heap.size]? = _ from HF4.out) (fun e => by omega)); have G5 := hid (G4.out.trans ((Chg.refl (fun k => k = c) w4).drew.trans g5 fun _ _ h => h) fun _ _ h => h))
            | (go_at_call 150; refine (l4Push_any w5 _ n _ _ is ?_).mono ?_; exact HQ.out ▸ (HR5.out.mono (Nat.zero_le _)).ok; rintro e w6 ⟨v6, is', x6, y6, rfl, R6, g6⟩; obtain ⟨g', c6, p6, rfl, A6⟩ := R6.at; have A6' := hid A6; have HL6 := hid (g6.heap HL5.out id); have kL6 := cells_at HL6.out; have fL6 := frees_at HL6.out))
          all_goals
            have l6 := A6.lt
            have z5 := G5.out.size
            have z6 := g6.size
            have y6 := heap_lt HL5.out
            have HF6 := hid (g6.heap HF5.out id)
            have HC6 := hid (HC5.out.chg g6 fun _ _ h => h)
            have G6 := hid (G5.out.trans g6 fun _ _ h => h.elim)
            have S6 := hid (heap_row3 HL6.out (.slice (some ⟨g', 0, none⟩) n c6) (.int .i64 (p6 : Int)) (.int .i64 ((is'.length : Nat) : Int)))
            have GS := hid (chg_row3 w6 L (.slice (some ⟨g', 0, none⟩) n c6) (.int .i64 (p6 : Int)) (.int .i64 ((is'.length : Nat) : Int)))
            clear A6 R6 g6
            go_wp2_with fail
            go_roundw
            case rel => exact ⟨k - 1, g', c6, p6, is', by go_num, by omega, S6, by omega, hid ((A6'.out.chg GS.out (fun e => by omega)).mono (by omega)), hid (HC6.out.chg GS.out (fun _ h e => by omega)), hid (G6.out.trans GS.out (fun _ h e => by omega)), hid (GS.out.heap HF6.out (fun e => by omega)), by omega⟩
            case measure => simp [intOf]; omega
        · have hq0 : ¬ (0 : Int) < (q : Int) := HI0.out rfl
          go_wp2_with fail
          go_region_with (first
            | (go_at_call 125; refine (l2Small_calls _ c ?_).mono ?_; exact HC4.out.chg (Chg.refl (fun _ => False) w4).drew fun _ _ h => h; rintro e w5 ⟨x5, y5', _, _, _, _, rfl, hc5, g5⟩; have HC5 := hid hc5; have HL5 := hid (g5.heap (show w4.drew.heap[L]? = _ from HL4.out) (fun e => by omega)); have kL5 := cells_at HL5.out; have fL5 := frees_at HL5.out; have HR5 := hid (HR4.out.chg ((Chg.refl (fun k => k = c) w4).drew.trans g5 fun _ _ h => h) (fun e => by omega)); have HF5 := hid (g5.heap (show w4.drew.heap[w.heap.size]? = _ from HF4.out) (fun e => by omega)); have G5 := hid (G4.out.trans ((Chg.refl (fun k => k = c) w4).drew.trans g5 fun _ _ h => h) fun _ _ h => h))
            | (go_at_call 150; refine (l4Push_any w5 _ n _ _ is ?_).mono ?_; exact HQ.out ▸ (HR5.out.mono (Nat.zero_le _)).ok; rintro e w6 ⟨v6, is', x6, y6, rfl, R6, g6⟩; obtain ⟨g', c6, p6, rfl, A6⟩ := R6.at; have A6' := hid A6; have HL6 := hid (g6.heap HL5.out id); have kL6 := cells_at HL6.out; have fL6 := frees_at HL6.out))
          all_goals
            have l6 := A6.lt
            have z5 := G5.out.size
            have z6 := g6.size
            have y6 := heap_lt HL5.out
            have HF6 := hid (g6.heap HF5.out id)
            have HC6 := hid (HC5.out.chg g6 fun _ _ h => h)
            have G6 := hid (G5.out.trans g6 fun _ _ h => h.elim)
            have S6 := hid (heap_row3 HL6.out (.slice (some ⟨g', 0, none⟩) n c6) (.int .i64 (p6 : Int)) (.int .i64 ((is'.length : Nat) : Int)))
            have GS := hid (chg_row3 w6 L (.slice (some ⟨g', 0, none⟩) n c6) (.int .i64 (p6 : Int)) (.int .i64 ((is'.length : Nat) : Int)))
            clear A6 R6 g6
            go_wp2_with fail
            go_roundw
            case rel => exact ⟨k - 1, g', c6, p6, is', by go_num, by omega, S6, by omega, hid ((A6'.out.chg GS.out (fun e => by omega)).mono (by omega)), hid (HC6.out.chg GS.out (fun _ h e => by omega)), hid (G6.out.trans GS.out (fun _ h e => by omega)), hid (GS.out.heap HF6.out (fun e => by omega)), by omega⟩
            case measure => simp [intOf]; omega
    · obtain rfl : k = 0 := by omega
      have kF := cells_at HF.out
      have fF := frees_at HF.out
      have hwL : w.heap.size ≠ L := by omega
      have hwL' : L ≠ w.heap.size := by omega
      go_wp2_with fail
      have GS := hid (chg_row3 wr w.heap.size (.slice (some ⟨g, 0, none⟩) n cp) (.int .i64 (p : Int)) (.int .i64 ((is.length : Nat) : Int)))
      refine bodyPost_ret (v := .agg #[.slice (some ⟨g, 0, none⟩) n cp, .int .i64 ((p : Nat) : Int), .int .i64 ((is.length : Nat) : Int)]) (by simp [results, Try.results118, go_sem, kF]) rfl ?_
      exact ⟨_, n, is, rfl, ((HR.out.chg GS.out ngw)).ok, HW.out.chg GS.out (fun _ h e => by omega), G.out.trans GS.out (fun _ h e => by omega)⟩
end Go.Proofs.Ytopkehknaclhlaa
