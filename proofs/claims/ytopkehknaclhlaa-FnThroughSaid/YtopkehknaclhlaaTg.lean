/- What FnThrough leans on: a new delay of one sample, steps by their numbers, the greater one of two floats. Conditions: as each says. -/
import Derived.Test.YtopkehknaclhlaaFy
import Derived.Test.YtopkehknaclhlaaNh
import Derived.Test.YtopkehknaclhlaaMx
import Derived.Test.YtopkehknaclhlaaTm
import Derived.Test.YtopkehknaclhlaaWh
namespace Go.Proofs.Ytopkehknaclhlaa
open Go Go.RowKit

theorem own_zero1 {w : World} {b : Nat} (h : w.heap[b]? = some (.cells (Array.replicate 1 (.complex .f32 0 0)) 33 (0, 0))) : OwnC w 0 (.slice (some ⟨b, 0, none⟩) 1 1) [(0, 0)] := by
  refine ⟨by simp, .inr ⟨b, 1, _, by simp, Nat.zero_le _, h, by simp, by unfold maxLen; omega, by simp, ?_⟩⟩
  simp [cx]

set_option maxRecDepth 100000 in
set_option maxHeartbeats 2000000 in
theorem NewDelay_one (w : World) : Calls Try.prog 39 #[.int .i64 1] w (fun e w' => ∃ m, e = .returned (.tuple #[.agg m, .bool true]) ∧ DL1 w' w.heap.size m 0 0 ∧ Chg (fun _ => False) w w') := by
  go_enter Try.func39, Try.ntmps39
  go_wp2_with fail
  refine (NewRing_yes _ 1 (by omega) (by omega)).mono ?_
  rintro e w1 ⟨b1, l1, rfl, hb1, g1⟩
  have HB1 := hid hb1
  have q1 := heap_lt hb1
  have lz1 := g1.size
  simp at lz1 l1
  clear hb1
  go_wp2_with fail
  have G : Chg (fun k => k = w1.heap.size) w1 _ := ((Chg.refl (fun k => k = w1.heap.size) w1).alloc (.cells #[.slice (some ⟨b1, 0, none⟩) 1 1, .int .i64 0, .int .i64 1] 27))
  refine (checked_yes _ 4 0 0 0 0 0 _ 0 1 _ _ 0 0 [(0, 0)] [] [] (by simp) (by decide) (by decide) (own_zero1 (G.heap HB1.out (by omega))) (OwnC.nil _ _) (OwnI.nil _ _) (fun w' g' => IsModule_delay w' b1 1 1 0 [(0, 0)] (by simp) ((own_zero1 (G.heap HB1.out (by omega))).chg g' fun _ _ _ h => h) (ok_one 0 0))).mono ?_
  rintro e w2 ⟨b2, d2, b3, d3, b4, d4, rfl, o1, o2, o3, m1, m2, m3, g2⟩
  obtain ⟨rfl, rfl⟩ := m2 rfl
  obtain ⟨rfl, rfl⟩ := m3 rfl
  simp only [List.length_nil, List.length_cons, Nat.zero_add] at o1 ⊢
  obtain ⟨q, c, hv, hq, hq2, _, _⟩ := o1.at (n := 1) rfl (by omega)
  simp at hv
  obtain ⟨rfl, rfl⟩ := hv
  have O1 := hid o1
  clear o1 o2 o3 m1 m2 m3
  have F1 := hid (g2.heap ((g1.heap (heap_new w _) id) |> fun h => G.heap h (by omega)) id)
  have k1 := cells_at F1.out
  have f1 := frees_at F1.out
  have lz2 := g2.size
  simp at lz2 hq
  go_wp2_with fail
  have GS := chg_row11 w2 w.heap.size (.int .i64 4) (.complex .f32 0 0) (.complex .f32 0 0) (.float .f32 0) (.slice (some ⟨q, 0, none⟩) 1 d2) (.int .i64 0) (.int .i64 1) (.slice none 0 0) (.slice none 0 0) (.int .i64 0) (.int .i64 0)
  refine bodyPost_ret (results_row_tmp (by rfl) _ _ _ w.heap.size _ (.bool true) rfl (load_mod (heap_row11 F1.out _ _ _ _ _ _ _ _ _ _ _) rfl) rfl) rfl ⟨_, rfl, ⟨q, d2, rfl, by omega, ((O1.out.mono (b' := w.heap.size) (by simp; omega)).chgN GS (fun g0 h1 e => ?_))⟩, ?_⟩
  · simp [Value.ownBlock] at h1
    omega
  · exact ((((Chg.refl (fun _ => False) w).alloc _).trans g1 fun _ _ h => h).trans (((Chg.refl (fun k => k = w1.heap.size) w1).alloc _).trans g2 fun _ _ h => h.elim) (fun k hk e => by omega)).trans GS fun k hk e => by omega

theorem FromSteps_up' (w : World) (k : Int) (n : Nat) (h : Sm n) (hk : k = (n : Int)) : Calls Try.prog 65 #[.int .i64 k] w (fun e w' => e = .returned (.tuple #[.float .f32 (Ieee.single.word false n), .bool true]) ∧ w = w') := by
  subst hk; exact FromSteps_up w n h
theorem FromSteps_down' (w : World) (k : Int) (n : Nat) (h : Sm n) (hk : k = -(n : Int)) : Calls Try.prog 65 #[.int .i64 k] w (fun e w' => e = .returned (.tuple #[.float .f32 (Ieee.single.word true n), .bool true]) ∧ w = w') := by
  subst hk; exact FromSteps_down w n h

/-- The greater one of two floats. -/
def maxF (x y : Nat) : Nat := match FloatKind.f32.format.order x y with
  | some .lt => y
  | some .gt => x
  | _ => if (FloatKind.f32.decode x).neg then y else x

theorem run_maxF (P : Program) (w : World) (ts : Array TypeId) (t : TypeId) (x y : Nat) (hx : isN .f32 x = false) (hy : isN .f32 y = false) : (Builtin.max_ ts t #[.float .f32 x, .float .f32 y]).run P w = .ok (.float .f32 (maxF x y)) w := by
  have ho := order_key x y hx hy
  unfold maxF
  rw [ho]
  simp only [Builtin.max_, List.foldlM_cons, List.foldlM_nil, Builtin.max2, ho]
  rcases Int.lt_trichotomy (key x) (key y) with h | h | h
  · rw [Int.compare_eq_lt.mpr h]; simp
  · rw [Int.compare_eq_eq.mpr h]; simp
  · rw [Int.compare_eq_gt.mpr h]; simp

theorem maxF_key (x y : Nat) (hx : isN .f32 x = false) (hy : isN .f32 y = false) : isN .f32 (maxF x y) = false ∧ key (maxF x y) = if key x < key y then key y else key x := by
  have ho := order_key x y hx hy
  unfold maxF
  rw [ho]
  rcases Int.lt_trichotomy (key x) (key y) with h | h | h
  · rw [Int.compare_eq_lt.mpr h]; simp [h, hy]
  · rw [Int.compare_eq_eq.mpr h]
    simp only
    split
    · simp [h, hy]
    · simp [h, hx]
  · rw [Int.compare_eq_gt.mpr h]; simp [hx]; omega

theorem key_word_false {n : Nat} (h : Sm n) : key (Ieee.single.word false n) = (n : Int) := by
  rw [word_false]
  unfold key
  have := h.2
  rw [if_neg (by omega), Nat.mod_eq_of_lt (by omega)]
theorem key_word_true {n : Nat} (h : Sm n) : key (Ieee.single.word true n) = -(n : Int) := by
  rw [word_true]
  unfold key
  have := h.2
  rw [if_pos (by omega), show (2147483648 + n) % 2147483648 = n by omega]

/-- What the meter shows is the greater one. -/
theorem through_level {n m : Nat} (hn : Sm n) (hm : Sm m) : FloatKind.f32.format.order (upS 0 (Ieee.single.word false n) (Ieee.single.word true m)) (maxF (Ieee.single.word false n) (Op.negFloat .f32 (Ieee.single.word true m))) = some .eq := by
  have x1 := isN_sub false hn
  have y1 := isN_sub true hm
  have k1 := key_word_false hn
  have k2 := key_word_true hm
  generalize Ieee.single.word false n = x at *
  generalize Ieee.single.word true m = y at *
  have ml := meter_law lvl_zero lvl_zero rfl x y
  have y2 : isN .f32 (Op.negFloat .f32 y) = false := by rw [isN_neg]; exact y1
  have mk := maxF_key x _ x1 y2
  rw [order_key _ _ ml.1.1 mk.1, mk.2, key_neg, k1, k2]
  have a1 := lvl_zero.up (sz x)
  have a2 := a1.1.up (sz y)
  have hs : key (upS 0 x y) = if (n : Int) < (m : Int) then (m : Int) else (n : Int) := by
    unfold upS
    rw [a2.2, a1.2, sz_nan, sz_nan, x1, y1, sz_key x x1, sz_key y y1, k1, k2, zero_key]
    have p1 := hn.1
    have p2 := hm.1
    simp
    repeat' split
    all_goals omega
  rw [hs, Int.neg_neg, Int.compare_eq_eq.mpr rfl]

theorem mulP_of {a1 a2 b1 b2 c1 c2 p q u v pu qv pv qu d e : Nat} (hp : floatToFloatBits .f32 a1 .f64 = some p) (hq : floatToFloatBits .f32 a2 .f64 = some q) (hu : floatToFloatBits .f32 b1 .f64 = some u) (hv : floatToFloatBits .f32 b2 .f64 = some v)
    (h1 : floatBits .mul .f64 p u = some pu) (h2 : floatBits .mul .f64 q v = some qv) (h3 : floatBits .mul .f64 p v = some pv) (h4 : floatBits .mul .f64 q u = some qu)
    (hd : floatBits .sub .f64 pu qv = some d) (hc : floatToFloatBits .f64 d .f32 = some c1) (he : floatBits .add .f64 pv qu = some e) (hf : floatToFloatBits .f64 e .f32 = some c2) : mulP a1 a2 b1 b2 = some (c1, c2) := by
  unfold mulP
  rw [hp, hq, hu, hv]
  simp only [Option.bind_some, h1, h2, h3, h4, hd, hc, he, hf]

theorem mulP_through {n m : Nat} (hn : Sm n) (hm : Sm m) : mulP (Ieee.single.word false n) (Ieee.single.word true m) 1065353216 0 = some (Ieee.single.word false n, Ieee.single.word true m) :=
  mulP_of (conv_up hn) (conv_up hm) one_up zero_conv (mul_one_dz hn) (mul_zero_dz hm) (mul_zero_dz hn) (mul_one_dz hm) (sub_zero_dz hn) (conv_down hn) (zero_add_dz hm) (conv_down hm)

theorem flush_word {n : Nat} (s : Bool) (h : Sm n) : flush (Ieee.single.word s n) = if s then 2147483648 else 0 := by
  have h1 := h.1
  have h2 := h.2
  unfold flush
  cases s
  · rw [word_false, if_pos (by omega)]
    simp
    omega
  · rw [word_true, if_pos (by omega)]
    simp
    omega
set_option maxHeartbeats 400000 in
theorem NewMixer_one (w : World) : Calls Try.prog 67 #[.complex .f32 1065353216 0] w (fun e w' => e = .returned (.agg #[.int .i64 (2), .complex .f32 1065353216 0, .complex .f32 1065353216 0, .float .f32 0, .slice none 0 0, .int .i64 (0), .int .i64 (0), .slice none 0 0, .slice none 0 0, .int .i64 (0), .int .i64 (0)]) ∧ Chg (fun _ => False) w w') := by
  go_enter Try.func67, Try.ntmps67
  go_wp2
  exact bodyPost_ret (v := .agg #[.int .i64 (2), .complex .f32 1065353216 0, .complex .f32 1065353216 0, .float .f32 0, .slice none 0 0, .int .i64 (0), .int .i64 (0), .slice none 0 0, .slice none 0 0, .int .i64 (0), .int .i64 (0)]) (by simp [results, Try.results67, go_sem]) rfl ⟨rfl, (Chg.refl _ w).alloc _⟩

theorem mulP_ones : mulP 1065353216 0 1065353216 0 = some (1065353216, 0) := by decide +kernel
theorem mul_one_one : floatBits .mul .f32 1065353216 1065353216 = some 1065353216 := by decide +kernel
theorem mul_m3_one : floatBits .mul .f32 3225419776 1065353216 = some 3225419776 := by decide +kernel
theorem flush_one : flush 1065353216 = 1065353216 := by decide
theorem flush_m3 : flush 3225419776 = 3225419776 := by decide

theorem word_lt32 {n : Nat} (s : Bool) (h : Sm n) : Ieee.single.word s n < 4294967296 := by
  have h2 := h.2
  cases s
  · rw [word_false]; omega
  · rw [word_true]; omega
end Go.Proofs.Ytopkehknaclhlaa
