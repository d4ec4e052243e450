/- The exact laws' helpers (same, marked, held) and the new rings: what they come to. Conditions: as each says (zeros, nil slices, up to 16 samples). -/
import Derived.Test.YtopkehknaclhlaaGen
namespace Go.Proofs.Ytopkehknaclhlaa
open Go Go.RowKit

theorem info33 : (Try.prog.info? 33).map (fun i => (i.zero, i.size, i.bytes)) = some (some (.complex .f32 0 0), 1, 8) := by kernel_rfl

theorem madeCells_one (z : Value) (n : Nat) : madeCells #[z] n = Array.replicate n z := by
  apply Array.toList_inj.1
  rw [toList_madeCells_one]
  simp

theorem run_make25 (w : World) (n : Nat) (h : n ≤ 1048576) : (Instr.makeSlice 25 (.int .i64 (n : Int)) (.int .i64 (n : Int))).run Try.prog w =
    .ok (.slice (some ⟨w.heap.size, 0, none⟩) n n) (w.alloc (.cells (Array.replicate n (.complex .f32 0 0)) 33)) := by
  obtain ⟨i, hi, hz, hs, hb⟩ := info_parts info33
  have hr := run_make (P := Try.prog) w 25 33 i _ Try.underlying25 hi hz .i64 .i64 n n (by omega) (by omega) (by rw [hb]; omega) (by omega)
  rw [hr, hs]
  simp only [Int.toNat_natCast, Nat.mul_one]
  rw [show (Value.complex FloatKind.f32 0 0).cells = #[.complex .f32 0 0] from rfl, madeCells_one]

/-- A new ring of n zeros comes back, and true. -/
def RRing (w : World) (n : Nat) (e : Ending) (w' : World) : Prop :=
  ∃ b, w.heap.size ≤ b ∧ e = .returned (.tuple #[.agg #[.slice (some ⟨b, 0, none⟩) n n, .int .i64 0, .int .i64 0], .bool true]) ∧
    w'.heap[b]? = some (.cells (Array.replicate n (.complex .f32 0 0)) 33 (0, 0)) ∧ Chg (fun _ => False) w w'

/-- The zero ring comes back, and false. -/
def RRing0 (w : World) (e : Ending) (w' : World) : Prop :=
  e = .returned (.tuple #[.agg #[.slice none 0 0, .int .i64 0, .int .i64 0], .bool false]) ∧ Chg (fun _ => False) w w'

set_option maxHeartbeats 400000 in
theorem NewRing_yes (w : World) (n : Nat) (h1 : 1 ≤ n) (h2 : n ≤ 16) : Calls Try.prog 23 #[.int .i64 (n : Int)] w (RRing w n) := by
  have hmk := fun w => run_make25 w n (by omega)
  have h1' : ¬ (n : Int) < 1 := by omega
  have h2' : ¬ (16 : Int) < (n : Int) := by omega
  go_enter Try.func23, Try.ntmps23
  go_wp2
  exact bodyPost_ret (v := .tuple #[.agg #[.slice (some ⟨w.heap.size + 1, 0, none⟩) n n, .int .i64 0, .int .i64 0], .bool true]) (by simp [results, Try.results23, go_sem]) rfl
    ⟨w.heap.size + 1, by omega, rfl, heap_new' (by simp), ((Chg.refl _ w).alloc _).alloc _⟩

set_option maxHeartbeats 400000 in
theorem NewRing_no (w : World) (n : Int) (h : ¬ (1 ≤ n ∧ n ≤ 16)) : Calls Try.prog 23 #[.int .i64 n] w (RRing0 w) := by
  by_cases h1 : n < 1
  · clear h
    go_enter Try.func23, Try.ntmps23
    go_wp2
    exact bodyPost_ret (v := .tuple #[.agg #[.slice none 0 0, .int .i64 0, .int .i64 0], .bool false]) (by simp [results, Try.results23, go_sem]) rfl ⟨rfl, (Chg.refl _ w).alloc _⟩
  · have h2 : 16 < n := by omega
    clear h
    go_enter Try.func23, Try.ntmps23
    go_wp2
    exact bodyPost_ret (v := .tuple #[.agg #[.slice none 0 0, .int .i64 0, .int .i64 0], .bool false]) (by simp [results, Try.results23, go_sem]) rfl ⟨rfl, (Chg.refl _ w).alloc _⟩

set_option maxHeartbeats 400000 in
theorem specNewRing_yes (w : World) (n : Nat) (h1 : 1 ≤ n) (h2 : n ≤ 16) : Calls Try.prog 22 #[.int .i64 (n : Int)] w (RRing w n) := by
  have hmk := fun w => run_make25 w n (by omega)
  go_enter Try.func22, Try.ntmps22
  go_wp2_with (go_at_call 85; refine (l1In_yes _ _ _ _ (by omega) (by omega)).mono ?_; rintro e w' ⟨rfl, rfl⟩)
  exact bodyPost_ret (v := .tuple #[.agg #[.slice (some ⟨w.heap.size + 1, 0, none⟩) n n, .int .i64 0, .int .i64 0], .bool true]) (by simp [results, Try.results22, go_sem]) rfl
    ⟨w.heap.size + 1, by omega, rfl, heap_new' (by simp), ((Chg.refl _ w).alloc _).alloc _⟩

set_option maxHeartbeats 400000 in
theorem specNewRing_no (w : World) (n : Int) (h : ¬ (1 ≤ n ∧ n ≤ 16)) : Calls Try.prog 22 #[.int .i64 n] w (RRing0 w) := by
  have H := hid h
  clear h
  go_enter Try.func22, Try.ntmps22
  go_wp2_with (go_at_call 85; refine (l1In_no _ _ _ _ H.out).mono ?_; rintro e w' ⟨rfl, rfl⟩)
  exact bodyPost_ret (v := .tuple #[.agg #[.slice none 0 0, .int .i64 0, .int .i64 0], .bool false]) (by simp [results, Try.results22, go_sem]) rfl ⟨rfl, (Chg.refl _ w).alloc _⟩

/-- True comes back; at most the tape was asked. -/
def RTrue (w : World) (e : Ending) (w' : World) : Prop := e = .returned (.bool true) ∧ ∃ n, w' = w.drewN n

set_option maxHeartbeats 400000 in
theorem sameFloat_calls (w : World) (x y : Nat) (h : SameF x y) : Calls Try.prog 90 #[.float .f64 x, .float .f64 y] w (RTrue w) := by
  rcases h with ⟨hx, hy⟩ | ⟨hx, rfl⟩
  · have ox := order_nan_left .f64 x x hx
    have oy := order_nan_left .f64 y y hy
    clear hx hy
    go_enter Try.func90, Try.ntmps90
    go_wp2
    go_ret
    exact ⟨rfl, 0, rfl⟩
  · have ox : FloatKind.f64.format.order x x = some .eq := by rw [order_self, hx]; rfl
    clear hx
    cases oz : (FloatKind.f64.format.order x 0 == some .eq)
    · go_enter Try.func90, Try.ntmps90
      go_wp2
      go_ret
      exact ⟨rfl, 0, rfl⟩
    · go_enter Try.func90, Try.ntmps90
      go_wp2
      go_ret
      refine ⟨?_, _, rfl⟩
      have e := bin_order_indep .quo .f64 4607182418800017408 x 0 w (w.drewN (fask .quo .f64 4607182418800017408 x).toNat)
      simp only [Array.getD_eq_getD_getElem?]
      simp [e]

set_option maxHeartbeats 400000 in
theorem sameComplex_calls (w : World) (a b c d : Nat) (h1 : SameF a c) (h2 : SameF b d) : Calls Try.prog 89 #[.complex .f64 a b, .complex .f64 c d] w (RTrue w) := by
  go_enter Try.func89, Try.ntmps89
  go_wp2_with fail
  refine (sameFloat_calls _ _ _ h1).mono ?_
  rintro e w1 ⟨rfl, n1, rfl⟩
  go_wp2_with fail
  refine (sameFloat_calls _ _ _ h2).mono ?_
  rintro e w1 ⟨rfl, n2, rfl⟩
  go_wp2_with fail
  go_ret
  exact ⟨rfl, n1 + n2, rfl⟩

theorem sameF_zero : SameF 0 0 := .inr ⟨by decide +kernel, rfl⟩

set_option maxHeartbeats 400000 in
theorem eqC_nil (w : World) : Calls Try.prog 86 #[.slice none 0 0, .slice none 0 0] w (RTrue w) := by
  go_enter Try.func86, Try.ntmps86
  go_wp2
  go_loop [5] (fun i => i = .int .i64 0) (fun i => 0)
  case atStart => rfl
  case round =>
    obtain rfl := hrel
    go_wp2
    go_ret
    exact ⟨rfl, 0, rfl⟩

set_option maxHeartbeats 400000 in
theorem eqC_zero (w : World) (b1 b2 n : Nat) (hn : n ≤ 16) (h1 : w.heap[b1]? = some (.cells (Array.replicate n (.complex .f32 0 0)) 33 (0, 0))) (h2 : w.heap[b2]? = some (.cells (Array.replicate n (.complex .f32 0 0)) 33 (0, 0))) :
    Calls Try.prog 86 #[.slice (some ⟨b1, 0, none⟩) n n, .slice (some ⟨b2, 0, none⟩) n n] w (RTrue w) := by
  have H1 := hid h1
  have H2 := hid h2
  clear h1 h2
  go_enter Try.func86, Try.ntmps86
  go_wp2
  go_loopw [5] (fun i wr => ∃ (k m : Nat), k ≤ n ∧ i = .int .i64 (k : Int) ∧ Hid (wr = w.drewN m)) (fun i _ => n - (intOf i).toNat)
  case atStart => exact ⟨0, 0, by omega, rfl, hid rfl⟩
  case round =>
    obtain ⟨k, m, hk, rfl, HW⟩ := hrel
    by_cases hlt : k < n
    · have hlt' : (k : Int) < (n : Int) := by omega
      have c1 : wr.cell? ⟨b1, k, none⟩ = some (.complex .f32 0 0) := by rw [HW.out, World.cell?_drewN, cell_at H1.out]; simp [hlt]
      have c2 : wr.cell? ⟨b2, k, none⟩ = some (.complex .f32 0 0) := by rw [HW.out, World.cell?_drewN, cell_at H2.out]; simp [hlt]
      have f0 := fun w => fconv_of zero_conv w
      have f1 := fconvAsk_of zero_conv
      go_wp2
      go_quiet ((go_at_call 89; exact Calls.quiet_of (sameComplex_calls _ _ _ _ _ sameF_zero sameF_zero)))
      go_wp2
      go_roundw
      case rel => exact ⟨k + 1, _, by omega, by go_num, hid (by rw [HW.out, World.drewN_drewN])⟩
      case measure => simp [intOf]; omega
    · have hlt' : ¬ (k : Int) < (n : Int) := by omega
      go_wp2
      go_ret
      exact ⟨rfl, _, HW.out⟩

/-- The mark number m. -/
def mk (m : Int) : Value := .complex .f32 (floatOfInt .f32 m) 1065353216
/-- The first j places marked, from k on. -/
def markTo (arr : Array Value) (k : Int) : Nat → Array Value
  | 0 => arr
  | j + 1 => (markTo arr k j).setIfInBounds j (mk (k + j))

theorem markTo_size (arr : Array Value) (k : Int) (j : Nat) : (markTo arr k j).size = arr.size := by
  induction j with
  | zero => rfl
  | succ j ih => simp [markTo, ih]
theorem markTo_get (arr : Array Value) (k : Int) (j i : Nat) (h : i < j) (hs : j ≤ arr.size) : (markTo arr k j)[i]? = some (mk (k + i)) := by
  induction j with
  | zero => omega
  | succ j ih =>
    simp only [markTo]
    by_cases e : i = j
    · subst e
      rw [Array.getElem?_setIfInBounds_self_of_lt (by rw [markTo_size]; omega)]
    · rw [Array.getElem?_setIfInBounds_ne (by omega)]
      exact ih (by omega) (by omega)

theorem small_int (m : Int) (h0 : 0 ≤ m) (h1 : m ≤ 40) : floatToFloatBits .f64 (floatOfInt .f64 m) .f32 = some (floatOfInt .f32 m) ∧ isN .f32 (floatOfInt .f32 m) = false := by
  obtain ⟨n, rfl⟩ := Int.eq_ofNat_of_zero_le h0
  exact small_ints ⟨n, by omega⟩

/-- The number comes back; block b now bears the marks. -/
def RMark (w : World) (b n : Nat) (arr : Array Value) (k : Int) (e : Ending) (w' : World) : Prop :=
  e = .returned (.int .i64 (k + n)) ∧ w'.heap[b]? = some (.cells (markTo arr k n) 33 (0, 0)) ∧ Chg (fun j => j = b) w w'

set_option maxHeartbeats 1000000 in
theorem markC_calls (w : World) (b n : Nat) (hn : n ≤ 16) (arr : Array Value) (ha : n ≤ arr.size) (k : Int) (k0 : 0 ≤ k) (k1 : k ≤ 20) (hb : w.heap[b]? = some (.cells arr 33 (0, 0))) :
    Calls Try.prog 87 #[.slice (some ⟨b, 0, none⟩) n n, .int .i64 k] w (RMark w b n arr k) := by
  have HB := hid hb
  clear hb
  go_enter Try.func87, Try.ntmps87
  go_wp2
  go_loopw [1, 5] (fun q i wr => ∃ (j : Nat), j ≤ n ∧ i = .int .i64 (j : Int) ∧ q = .int .i64 (k + j) ∧ Hid (wr.heap[b]? = some (.cells (markTo arr k j) 33 (0, 0))) ∧ Chg (fun j => j = b) w wr) (fun _ i _ => n - (intOf i).toNat)
  case atStart => exact ⟨0, by omega, rfl, by simp, hid HB.out, Chg.refl _ w⟩
  case round =>
    obtain ⟨j, hj, rfl, rfl, HW, g⟩ := hrel
    by_cases hlt : j < n
    · have hlt' : (j : Int) < (n : Int) := by omega
      obtain ⟨s1, s2⟩ := small_int (k + j) (by omega) (by omega)
      have c1 := fun w => fconv_of s1 w
      have c2 := fconvAsk_of s1
      have c3 := fun w => fconv_of one_conv w
      have c4 := fconvAsk_of one_conv
      clear s1 s2
      obtain ⟨x, hx⟩ : ∃ x, (markTo arr k j)[j]? = some x := ⟨(markTo arr k j)[j]'(by rw [markTo_size]; omega), by simp⟩
      have hcell : wr.cell? ⟨b, j, none⟩ = some x := by rw [cell_at HW.out, hx]
      have hfree : wr.frozen? ⟨b, j, none⟩ = false := free_at HW.out
      clear hx
      go_wp2
      go_roundw
      case rel => exact ⟨j + 1, by omega, by go_num, by go_num, hid (heap_set HW.out), g.setCell (.inl rfl) _⟩
      case measure => simp [intOf]; omega
    · have hlt' : ¬ (j : Int) < (n : Int) := by omega
      obtain rfl : j = n := by omega
      go_wp2
      go_ret
      exact ⟨rfl, HW.out, g⟩

theorem order_mk (m : Int) (h0 : 0 ≤ m) (h1 : m ≤ 40) : FloatKind.f32.format.order (floatOfInt .f32 m) (floatOfInt .f32 m) = some .eq := by
  rw [order_self, (small_int m h0 h1).2]; rfl
theorem order_one : FloatKind.f32.format.order 1065353216 1065353216 = some .eq := by decide +kernel

set_option maxHeartbeats 1000000 in
theorem heldC_calls (w : World) (b n : Nat) (hn : n ≤ 16) (arr : Array Value) (ha : n ≤ arr.size) (k : Int) (k0 : 0 ≤ k) (k1 : k ≤ 20) (hb : w.heap[b]? = some (.cells (markTo arr k n) 33 (0, 0))) :
    Calls Try.prog 88 #[.slice (some ⟨b, 0, none⟩) n n, .int .i64 k] w (fun e w' => e = .returned (.int .i64 (k + n)) ∧ w = w') := by
  have HB := hid hb
  clear hb
  go_enter Try.func88, Try.ntmps88
  go_wp2
  go_loop [1, 5] (fun q i => ∃ (j : Nat), j ≤ n ∧ i = .int .i64 (j : Int) ∧ q = .int .i64 (k + j)) (fun _ i => n - (intOf i).toNat)
  case atStart => exact ⟨0, by omega, rfl, by simp⟩
  case round =>
    obtain ⟨j, hj, rfl, rfl⟩ := hrel
    by_cases hlt : j < n
    · have hlt' : (j : Int) < (n : Int) := by omega
      obtain ⟨s1, s2⟩ := small_int (k + j) (by omega) (by omega)
      have c1 := fun w => fconv_of s1 w
      have c2 := fconvAsk_of s1
      have c3 := fun w => fconv_of one_conv w
      have c4 := fconvAsk_of one_conv
      have c5 := order_mk (k + j) (by omega) (by omega)
      have c6 := order_one
      clear s1 s2
      have hcell : w.cell? ⟨b, j, none⟩ = some (.complex .f32 (floatOfInt .f32 (k + j)) 1065353216) := by
        rw [cell_at HB.out, markTo_get arr k n j hlt ha]; rfl
      go_wp2
      go_round
      case rel => exact ⟨j + 1, by omega, by go_num, by go_num⟩
      case measure => simp [intOf]; omega
    · have hlt' : ¬ (j : Int) < (n : Int) := by omega
      obtain rfl : j = n := by omega
      go_wp2
      go_ret
      exact ⟨rfl, rfl⟩

end Go.Proofs.Ytopkehknaclhlaa
