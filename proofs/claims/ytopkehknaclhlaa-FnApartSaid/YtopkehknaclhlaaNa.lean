/- The decimal text of an integer: there is one, whatever the world. Conditions: below 10^9. -/
import Derived.Test.YtopkehknaclhlaaSm
import Derived.Laws.IdiomStrings
import Derived.Laws.Concat
import Derived.Deep.Cut
import Derived.Test.YtopkehknaclhlaaMc
import Derived.Deep.DeepCutAuto
namespace Go.Proofs.Ytopkehknaclhlaa
open Go Go.RowKit

def dg (k : Nat) : ByteArray := ⟨#[UInt8.ofNat (48 + k % 10)]⟩
theorem dg_size (k : Nat) : (dg k).size = 1 := rfl
def numF : Nat → Nat → ByteArray → ByteArray
  | 0, _, acc => acc
  | f + 1, k, acc => if k = 0 then acc else numF f (k / 10) (dg k ++ acc)
theorem numF_size : ∀ (f k : Nat) (acc : ByteArray), (numF f k acc).size ≤ acc.size + f
  | 0, _, acc => Nat.le_refl _
  | f + 1, k, acc => by
    unfold numF
    split
    · omega
    · have := numF_size f (k / 10) (dg k ++ acc)
      rw [ByteArray.size_append, dg_size] at this
      omega
theorem add_run (a b : ByteArray) (w : World) (h : a.size + b.size ≤ 9223372036854775807) : (Op.stringOp .add a b).run Try.prog w = .ok (.string (a ++ b)) w := run_string_add_sum (P := Try.prog) w a b h
theorem dg_run (w : World) (k : Nat) : (convert 47 9 (.slice (some ⟨w.heap.size, 0, none⟩) 1 1)).run Try.prog (w.alloc (.cells #[.int .u8 (48 + (k : Int) % 10)] 5)) = .ok (.string (dg k)) (w.alloc (.cells #[.int .u8 (48 + (k : Int) % 10)] 5)) := by
  have h := run_convert_bytes_back (P := Try.prog) (w.alloc (.cells #[.int .u8 (48 + (k : Int) % 10)] 5)) 47 9 5 ⟨w.heap.size, 0, none⟩ 1 [UInt8.ofNat (48 + k % 10)] Try.underlying47 Try.underlying5 Try.underlying9 (fun j hj => by
    obtain rfl : j = 0 := by simpa using hj
    have e : ((UInt8.ofNat (48 + k % 10)).toNat : Int) = 48 + (k : Int) % 10 := by
      rw [UInt8.toNat_ofNat']
      omega
    show _ = some (Value.int .u8 ((UInt8.ofNat (48 + k % 10)).toNat : Int))
    rw [e]
    exact cell_at (heap_new w _))
  exact h

set_option maxRecDepth 100000 in
set_option maxHeartbeats 1000000 in
theorem Number_nat (n : Nat) (hn : n < 1000000000) (w : World) : Calls Try.prog 148 #[.int .i64 (n : Int)] w (fun e w' => e = .returned (.string (numF 17 (n / 10) (dg n))) ∧ Chg (fun _ => False) w w') := by
  have hdg := fun (w : World) (k : Nat) => dg_run w k
  obtain ⟨T, hT⟩ : ∃ T, T = numF 17 (n / 10) (dg n) := ⟨_, rfl⟩
  rw [← hT]
  have HT := hid hT
  have HC := hid ((Chg.refl (fun _ => False) w).alloc (.cells #[.int .u8 (48 + (n : Int) % 10)] 5))
  clear hT
  go_enter Try.func148, Try.ntmps148
  go_upto_region 4 with fail
  generalize w.alloc (.cells #[.int .u8 (48 + (n : Int) % 10)] 5) = w1 at *
  go_wp2_with fail
  go_loopw [0, 3] (fun x s wr => ∃ (d k : Nat) (acc : ByteArray), x = .int .i64 (k : Int) ∧ s = .string acc ∧ k ≤ n ∧ k < 10 ^ d ∧ acc.size + d ≤ 18 ∧ Hid (T = numF d k acc) ∧ Hid (Chg (fun _ => False) w wr)) (fun x _ _ => (intOf x).toNat)
  case atStart => exact ⟨17, n / 10, dg n, by first | rfl | (congr 1), rfl, by omega, by omega, by rw [dg_size]; omega, HT, HC⟩
  case round =>
    obtain ⟨d, k, acc, rfl, rfl, hk9, hk, hsz, HD, HG⟩ := hrel
    clear HT HC
    by_cases h0 : k = 0
    · subst h0
      have e : T = acc := by
        rw [HD.out]
        cases d <;> rfl
      subst e
      go_wp2_with fail
      go_ret
      exact ⟨rfl, HG.out⟩
    · cases d with
      | zero => omega
      | succ d =>
        have hpos : (0 : Int) < (k : Int) := by omega
        have hadd := fun w => add_run (dg k) acc w (by rw [dg_size]; omega)
        have HN := hid (show T = numF d (k / 10) (dg k ++ acc) from by
          rw [HD.out]
          show (if k = 0 then acc else numF d (k / 10) (dg k ++ acc)) = _
          rw [if_neg h0])
        have hk2 : k / 10 < 10 ^ d := by
          rw [Nat.pow_succ] at hk
          omega
        have HG2 := hid (HG.out.alloc (.cells #[.int .u8 (48 + (k : Int) % 10)] 5))
        have HK9 := hid hk9
        have HK2 := hid hk2
        have HSZ := hid hsz
        clear HD HG hk hk9 hk2 hsz
        go_wp2_with fail
        go_roundw
        have hk9 := HK9.out
        have hsz := HSZ.out
        have hw : wrap64 ((k : Int) / 10) = ((k / 10 : Nat) : Int) := by rw [Go.IntWalk.wrap64_in _ (by omega)]; omega
        case rel => exact ⟨d, k / 10, dg k ++ acc, by rw [hw], rfl, by omega, HK2.out, by rw [ByteArray.size_append, dg_size]; omega, HN, HG2⟩
        case measure =>
          have hk9 := HK9.out
          have hw : wrap64 ((k : Int) / 10) = ((k / 10 : Nat) : Int) := by rw [Go.IntWalk.wrap64_in _ (by omega)]; omega
          rw [hw]
          simp only [intOf]
          omega

/-- The text of an integer. -/
def numT (n : Int) : ByteArray := if n < 0 then ⟨#[45]⟩ ++ numF 17 (n.natAbs / 10) (dg n.natAbs) else numF 17 (n.natAbs / 10) (dg n.natAbs)
theorem numT_size (n : Int) : (numT n).size ≤ 19 := by
  have h := numF_size 17 (n.natAbs / 10) (dg n.natAbs)
  rw [dg_size] at h
  unfold numT
  split
  · rw [ByteArray.size_append]
    have : (⟨#[45]⟩ : ByteArray).size = 1 := rfl
    omega
  · omega
theorem Number_calls (n : Int) (h1 : -1000000000 < n) (h2 : n < 1000000000) (w : World) : Calls Try.prog 148 #[.int .i64 n] w (fun e w' => e = .returned (.string (numT n)) ∧ Chg (fun _ => False) w w') := by
  by_cases hneg : n < 0
  · obtain ⟨k, rfl⟩ : ∃ k : Nat, n = -(k : Int) := ⟨n.natAbs, by omega⟩
    have hT : numT (-(k : Int)) = ⟨#[45]⟩ ++ numF 17 (k / 10) (dg k) := by
      unfold numT
      rw [if_pos hneg, show (-(k : Int)).natAbs = k by omega]
    rw [hT]
    have hsz := numF_size 17 (k / 10) (dg k)
    rw [dg_size] at hsz
    have hcall := fun w => Number_nat k (by omega) w
    have hadd := fun w => add_run ⟨#[45]⟩ (numF 17 (k / 10) (dg k)) w (by have : (⟨#[45]⟩ : ByteArray).size = 1 := rfl; omega)
    generalize numF 17 (k / 10) (dg k) = T at *
    clear hT hsz
    go_enter Try.func148, Try.ntmps148
    go_wp2_with fail
    refine (hcall _).mono ?_
    rintro e w1 ⟨rfl, hG⟩
    go_wp2_with fail
    go_ret
    exact ⟨rfl, hG⟩
  · obtain ⟨k, rfl⟩ : ∃ k : Nat, n = (k : Int) := ⟨n.natAbs, by omega⟩
    have hT : numT (k : Int) = numF 17 (k / 10) (dg k) := by
      unfold numT
      rw [if_neg hneg]
      rfl
    rw [hT]
    exact Number_nat k (by omega) w
end Go.Proofs.Ytopkehknaclhlaa

/- Exact operations on small numbers: what reading and rounding give where nothing is lost. Conditions: as each says. -/
namespace Go.Proofs.Ytopkehknaclhlaa
open Go Ieee

theorem log2_of {m k : Nat} (h1 : 2 ^ k ≤ m) (h2 : m < 2 ^ (k + 1)) : m.log2 = k :=
  (Nat.log2_eq_iff (by have := Nat.pow_pos (n := k) (show 0 < 2 by decide); omega)).mpr ⟨h1, h2⟩

theorem cut_exact (neg : Bool) (m k : Nat) : Toward.even.cut neg (m * 2 ^ k) k = m := by
  unfold Toward.cut
  have hp : 0 < 2 ^ k := Nat.pow_pos (by decide)
  by_cases hm : m = 0
  · subst hm; simp
  · have hl : k ≤ (m * 2 ^ k).log2 + 2 := by
      have h1 : 2 ^ k ≤ m * 2 ^ k := Nat.le_mul_of_pos_left _ (Nat.pos_of_ne_zero hm)
      have h2 : k ≤ (m * 2 ^ k).log2 := (Nat.le_log2 (by have := Nat.mul_pos (Nat.pos_of_ne_zero hm) hp; omega)).mpr h1
      omega
    rw [Nat.min_eq_left hl, Nat.shiftLeft_eq, Nat.one_mul]
    simp [Nat.mul_div_cancel _ hp]

theorem log2_mul_two_pow {m k L : Nat} (h1 : 2 ^ L ≤ m) (h2 : m < 2 ^ (L + 1)) : (m * 2 ^ k).log2 = L + k := by
  refine log2_of ?_ ?_
  · rw [Nat.pow_add]; exact Nat.mul_le_mul_right _ h1
  · rw [show L + k + 1 = (L + 1) + k by omega, Nat.pow_add]; exact Nat.mul_lt_mul_of_pos_right h2 (Nat.pow_pos (by decide))

theorem d_consts : double.leastPlace = -1074 ∧ double.binade = 4503599627370496 ∧ double.infRung = 9218868437227405312 ∧ double.signWeight = 9223372036854775808 ∧ double.fractionBits = 52 := by decide
theorem s_consts : single.leastPlace = -149 ∧ single.binade = 8388608 ∧ single.infRung = 2139095040 ∧ single.signWeight = 2147483648 ∧ single.fractionBits = 23 := by decide

/-- A full significand with zeros behind it is written as it stands. -/
theorem d_nearest_full (s : Bool) (m k : Nat) (p : Int) (e : Nat) (h1 : 4503599627370496 ≤ m) (h2 : m < 9007199254740992) (hp : p + k = -1074 + (e : Int)) (he : e ≤ 2000) :
    double.nearest s (m * 2 ^ k) p = double.word s (e * 4503599627370496 + m) := by
  obtain ⟨c1, c2, c3, c4, c5⟩ := d_consts
  have hl : (m * 2 ^ k).log2 = 52 + k := log2_mul_two_pow (L := 52) h1 h2
  have hpos : m * 2 ^ k ≠ 0 := by have := Nat.mul_pos (show 0 < m by omega) (Nat.pow_pos (n := k) (show 0 < 2 by decide)); omega
  unfold Format.nearest
  rw [if_neg hpos]
  simp only [c1, c2, c3, c5, hl]
  have hlast : max (p + ((52 + k : Nat) : Int) - ((52 : Nat) : Int)) (-1074) = p + k := by omega
  rw [hlast]
  have e1 : (p - (p + (k : Int))).toNat = 0 := by omega
  have e2 : (p + (k : Int) - p).toNat = k := by omega
  have e3 : (p + (k : Int) - -1074).toNat = e := by omega
  rw [e1, e2, e3, Nat.shiftLeft_zero, cut_exact, Nat.min_eq_left (by omega)]

/-- A short significand is filled up. -/
theorem d_nearest_short (s : Bool) (m L : Nat) (p : Int) (e : Nat) (h1 : 2 ^ L ≤ m) (h2 : m < 2 ^ (L + 1)) (hL : L ≤ 52) (hp : p + L - 52 = -1074 + (e : Int)) (he : e ≤ 2000) :
    double.nearest s m p = double.word s (e * 4503599627370496 + m * 2 ^ (52 - L)) := by
  obtain ⟨c1, c2, c3, c4, c5⟩ := d_consts
  have hl : m.log2 = L := log2_of h1 h2
  have hpos : m ≠ 0 := by have := Nat.pow_pos (n := L) (show 0 < 2 by decide); omega
  unfold Format.nearest
  rw [if_neg hpos]
  simp only [c1, c2, c3, c5, hl]
  have hlast : max (p + (L : Int) - ((52 : Nat) : Int)) (-1074) = p + L - 52 := by omega
  rw [hlast]
  have e1 : (p - (p + (L : Int) - 52)).toNat = 52 - L := by omega
  have e2 : (p + (L : Int) - 52 - p).toNat = 0 := by omega
  have e3 : (p + (L : Int) - 52 - -1074).toNat = e := by omega
  have hc := cut_exact s (m * 2 ^ (52 - L)) 0
  rw [Nat.pow_zero, Nat.mul_one] at hc
  rw [e1, e2, e3, Nat.shiftLeft_eq, hc, Nat.min_eq_left]
  have : m * 2 ^ (52 - L) < 9007199254740992 := by
    have h3 : m * 2 ^ (52 - L) < 2 ^ (L + 1) * 2 ^ (52 - L) := Nat.mul_lt_mul_of_pos_right h2 (Nat.pow_pos (by decide))
    rw [← Nat.pow_add, show L + 1 + (52 - L) = 53 by omega] at h3
    exact h3
  omega

theorem d_read (s : Bool) (m e : Nat) (h1 : 4503599627370496 ≤ m) (h2 : m < 9007199254740992) (he : e ≤ 2000) :
    double.read (double.word s (e * 4503599627370496 + m)) = .number s m (-1074 + (e : Int)) := by
  obtain ⟨c1, c2, c3, c4, c5⟩ := d_consts
  unfold Format.read Format.word
  simp only [c1, c2, c3, c4]
  have hs : (if s = true then 9223372036854775808 + (e * 4503599627370496 + m) else e * 4503599627370496 + m) % 9223372036854775808 = e * 4503599627370496 + m := by
    split <;> omega
  have hn : ((if s = true then 9223372036854775808 + (e * 4503599627370496 + m) else e * 4503599627370496 + m) / 9223372036854775808 % 2 == 1) = s := by
    cases s
    · simp only [Bool.false_eq_true, if_false]
      rw [show (e * 4503599627370496 + m) / 9223372036854775808 % 2 = 0 by omega]; rfl
    · simp only [if_true]
      rw [show (9223372036854775808 + (e * 4503599627370496 + m)) / 9223372036854775808 % 2 = 1 by omega]; rfl
  rw [hs, hn, if_neg (by omega), if_pos (by omega)]
  congr 1
  · omega
  · omega

theorem s_read_sub (s : Bool) (n : Nat) (h : n < 8388608) : single.read (single.word s n) = .number s n (-149) := by
  obtain ⟨c1, c2, c3, c4, c5⟩ := s_consts
  unfold Format.read Format.word
  simp only [c1, c2, c3, c4]
  have hs : (if s = true then 2147483648 + n else n) % 2147483648 = n := by split <;> omega
  have hn : ((if s = true then 2147483648 + n else n) / 2147483648 % 2 == 1) = s := by
    cases s
    · simp only [Bool.false_eq_true, if_false]
      rw [show n / 2147483648 % 2 = 0 by omega]; rfl
    · simp only [if_true]
      rw [show (2147483648 + n) / 2147483648 % 2 = 1 by omega]; rfl
  rw [hs, hn, if_pos (by omega)]

/-- What is a whole number of the least units, and small, is that subnormal number. -/
theorem s_nearest_sub (s : Bool) (n k : Nat) (p : Int) (h0 : 0 < n) (h : n < 8388608) (hp : p + k = -149) : single.nearest s (n * 2 ^ k) p = single.word s n := by
  obtain ⟨c1, c2, c3, c4, c5⟩ := s_consts
  have hpos : n * 2 ^ k ≠ 0 := by have := Nat.mul_pos h0 (Nat.pow_pos (n := k) (show 0 < 2 by decide)); omega
  have hl : (n * 2 ^ k).log2 < 23 + k := by
    rw [Nat.log2_lt hpos, Nat.pow_add]
    exact Nat.mul_lt_mul_of_pos_right h (Nat.pow_pos (by decide))
  unfold Format.nearest
  rw [if_neg hpos]
  simp only [c1, c2, c3, c5]
  have hlast : max (p + ((n * 2 ^ k).log2 : Int) - ((23 : Nat) : Int)) (-149) = -149 := by omega
  rw [hlast]
  have e1 : (p - -149).toNat = 0 := by omega
  have e2 : (-149 - p).toNat = k := by omega
  rw [e1, e2, Nat.shiftLeft_zero, cut_exact, Nat.min_eq_left (by omega)]
  simp
end Go.Proofs.Ytopkehknaclhlaa

/- Doubles that come of single precision numbers: halved, doubled, cut to integers, compared, exactly. Finite numbers less themselves. Plain facts; conditions: as each says. -/
namespace Go.Proofs.Ytopkehknaclhlaa
open Go Ieee

/-- Is a word finite? -/
def fin (x : Nat) : Bool := decide (x % 2147483648 < 2139095040)
theorem fin_read {x : Nat} (h : fin x = true) : ∃ m, ∃ e : Nat, single.read x = .number (x / 2147483648 % 2 == 1) m (-149 + (e : Int)) ∧ m < 16777216 ∧ e ≤ 253 ∧ (0 < x % 2147483648 → 0 < m) ∧ (x % 2147483648 = 0 → m = 0) := by
  have h1 : single.signWeight = 2147483648 := by decide
  have h2 : single.binade = 8388608 := by decide
  have h3 : single.infRung = 2139095040 := by decide
  have h4 : single.leastPlace = -149 := by decide
  have b : x % 2147483648 < 2139095040 := by simpa [fin] using h
  by_cases a : x % 2147483648 < 8388608
  · refine ⟨x % 2147483648, 0, ?_, by omega, by omega, fun h => h, fun h => h⟩
    unfold Format.read; simp only [h1, h2, h4]; rw [if_pos a]; simp
  · refine ⟨8388608 + x % 2147483648 % 8388608, x % 2147483648 / 8388608 - 1, ?_, by omega, by omega, fun _ => by omega, fun h => by omega⟩
    unfold Format.read; simp only [h1, h2, h3, h4]; rw [if_neg a, if_pos b]
theorem notfin_read {x : Nat} (h : fin x = false) : single.read x = .infinity (x / 2147483648 % 2 == 1) ∨ isN .f32 x = true := by
  rcases read_single x with ⟨_, _, _, _, h1⟩ | ⟨h1, _⟩ | h1
  · simp [fin] at h; omega
  · exact .inl h1
  · exact .inr h1
theorem fin_notN {x : Nat} (h : fin x = true) : isN .f32 x = false := by
  obtain ⟨m, e, h1, _⟩ := fin_read h
  unfold isN FloatKind.decode
  rw [show FloatKind.f32.format = single from rfl, h1]
  rfl
theorem sub_self_fin {x : Nat} (h : fin x = true) : floatBits .sub .f32 x x = some 0 := by
  obtain ⟨m, e, h1, _⟩ := fin_read h
  show single.sub x x = _
  unfold Format.sub
  rw [h1]
  generalize (x / 2147483648 % 2 == 1) = s
  have hs : signed s m (-149 + (e : Int) - min (-149 + (e : Int)) (-149 + (e : Int))).toNat + signed (!s) m (-149 + (e : Int) - min (-149 + (e : Int)) (-149 + (e : Int))).toNat = 0 := by
    unfold signed
    cases s <;> simp <;> omega
  simp only [Datum.opposite, Datum.sum]
  rw [hs]
  have hw : ∀ p : Int, double.fractionBits = 52 → single.write (.number false 0 p) = 0 := fun p _ => by
    show single.nearest false 0 p = 0
    unfold Format.nearest
    rw [if_pos rfl]
    rfl
  cases s <;> simpa using hw _ rfl
theorem sub_self_not {x : Nat} (h : fin x = false) : floatBits .sub .f32 x x = none := by
  rcases notfin_read h with h1 | h1
  · show single.sub x x = _
    unfold Format.sub
    rw [h1]
    generalize (x / 2147483648 % 2 == 1) = s
    cases s <;> rfl
  · exact floatBits_nan_left _ _ _ _ h1
/-- x - x is 0 just if x is finite. -/
theorem fin_sub (x : Nat) (w : World) : (FloatKind.f32.format.order (fbin .sub .f32 x x w) 0 == some .eq) = fin x := by
  cases h : fin x
  · have hn : isN .f32 (fbin .sub .f32 x x w) = true := by
      unfold fbin
      rw [sub_self_not h]
      exact isN_bin _ _ _ _
    rw [order_nan_left _ _ _ hn]
    rfl
  · rw [fbin_of (sub_self_fin h)]
    decide +kernel

/-- A positive double: M times 2^(E - 1074). -/
def DD (E M : Nat) : Nat := double.word false (E * 4503599627370496 + M)
def Mt (M : Nat) : Prop := 4503599627370496 ≤ M ∧ M < 9007199254740992
theorem DD_read {E M : Nat} (h : Mt M) (hE : E ≤ 2000) : double.read (DD E M) = .number false M (-1074 + (E : Int)) := d_read false M E h.1 h.2 hE
theorem two_read2 : double.read 4611686018427387904 = .number false 4503599627370496 (-51) := by decide +kernel
theorem DD_half {E M : Nat} (h : Mt M) (hE : E ≤ 1999) : floatBits .quo .f64 (DD (E + 1) M) 4611686018427387904 = some (DD E M) := by
  show double.div _ _ = _
  unfold Format.div
  rw [DD_read h (by omega), two_read2]
  have hl : M.log2 = 52 := log2_of (k := 52) h.1 h.2
  have hl2 : (4503599627370496 : Nat).log2 = 52 := by decide +kernel
  have hf : double.fractionBits = 52 := rfl
  unfold Datum.quotient
  simp only [hf, hl, hl2]
  rw [if_neg (by decide)]
  have e1 : M <<< (52 + 2 + 52 - 52) = M * 4 * 4503599627370496 := by rw [Nat.shiftLeft_eq]; omega
  rw [e1, Nat.mul_div_cancel _ (by decide), Nat.mul_mod_left]
  have e2 : 2 * (M * 4) + (0 != 0 : Bool).toNat = M * 2 ^ 3 := by simp; omega
  rw [e2]
  show some (double.nearest (false ^^ false) (M * 2 ^ 3) _) = _
  have e := d_nearest_full false M 3 (-1074 + ((E + 1 : Nat) : Int) - -51 - ((52 + 2 + 52 - 52 : Nat) : Int) - 1) E h.1 h.2 (by omega) (by omega)
  rw [show (false ^^ false) = false from rfl, e]
  rfl
theorem DD_double {E M : Nat} (h : Mt M) (hE : E ≤ 1999) : floatBits .mul .f64 (DD E M) 4611686018427387904 = some (DD (E + 1) M) := by
  show double.mul _ _ = _
  unfold Format.mul
  rw [DD_read h (by omega), two_read2]
  show some (double.nearest (false ^^ false) (M * 4503599627370496) _) = _
  have e := d_nearest_full false M 52 (-1074 + (E : Int) + -51) (E + 1) h.1 h.2 (by omega) (by omega)
  rw [show (false ^^ false) = false from rfl, show (4503599627370496 : Nat) = 2 ^ 52 from rfl, e]
  rfl
theorem big_read : double.read 4715268809856909312 = .number false 4503599627370496 (-28) := by decide +kernel
/-- At least 2^24. -/
theorem DD_big {E M : Nat} (h : Mt M) (hE : E ≤ 2000) : FloatKind.f64.format.order (DD E M) 4715268809856909312 = some (if E < 1046 then .lt else if E = 1046 ∧ M = 4503599627370496 then .eq else .gt) := by
  show (double.read _).order (double.read _) = _
  rw [DD_read h hE, big_read]
  simp only [Datum.order, signed, Bool.false_eq_true, if_false, Nat.shiftLeft_eq]
  obtain ⟨h1, h2⟩ := h
  by_cases a : E < 1046
  · rw [if_pos a]
    have e1 : (-1074 + (E : Int) - min (-1074 + (E : Int)) (-28)).toNat = 0 := by omega
    obtain ⟨k, hk⟩ : ∃ k, ((-28 : Int) - min (-1074 + (E : Int)) (-28)).toNat = k + 1 := ⟨1045 - E, by omega⟩
    rw [e1, hk, Nat.pow_zero, Nat.mul_one]
    have : 4503599627370496 * 2 ≤ 4503599627370496 * 2 ^ (k + 1) := Nat.mul_le_mul_left _ (by rw [Nat.pow_succ]; have := Nat.pow_pos (n := k) (show 0 < 2 by decide); omega)
    rw [Int.compare_eq_lt.mpr (by omega)]
  · rw [if_neg a]
    obtain ⟨k, hk⟩ : ∃ k, (-1074 + (E : Int) - min (-1074 + (E : Int)) (-28)).toNat = k := ⟨_, rfl⟩
    have e2 : ((-28 : Int) - min (-1074 + (E : Int)) (-28)).toNat = 0 := by omega
    have hkE : k = E - 1046 := by omega
    rw [hk, e2, Nat.pow_zero, Nat.mul_one]
    by_cases b : E = 1046
    · have : k = 0 := by omega
      subst this
      rw [Nat.pow_zero, Nat.mul_one]
      by_cases c : M = 4503599627370496
      · rw [if_pos ⟨b, c⟩, Int.compare_eq_eq.mpr (by omega)]
      · rw [if_neg (fun h => c h.2), Int.compare_eq_gt.mpr (by omega)]
    · rw [if_neg (fun h => b h.1)]
      have : 2 ^ 1 ≤ 2 ^ k := Nat.pow_le_pow_right (by decide) (by omega)
      have : M * 2 ^ 1 ≤ M * 2 ^ k := Nat.mul_le_mul_left _ this
      rw [Int.compare_eq_gt.mpr (by omega)]
/-- Cut to an integer. -/
theorem cut_down {M : Nat} (h : Mt M) (d : Nat) : Toward.zero.cut false M d = M / 2 ^ d := by
  have hl : M.log2 = 52 := log2_of (k := 52) h.1 h.2
  unfold Toward.cut
  simp only [hl, Bool.toNat_false, Nat.add_zero, Nat.shiftLeft_eq, Nat.one_mul]
  by_cases a : d ≤ 54
  · rw [show min d (52 + 2) = d by omega]
  · rw [show min d (52 + 2) = 54 by omega]
    have z1 : M / 2 ^ 54 = 0 := Nat.div_eq_of_lt (by have := h.2; omega)
    have z2 : M / 2 ^ d = 0 := Nat.div_eq_of_lt (Nat.lt_of_lt_of_le (show M < 2 ^ 54 by have := h.2; omega) (Nat.pow_le_pow_right (by decide) (by omega)))
    rw [z1, z2]
theorem toInt_DD {E M : Nat} (h : Mt M) (hE : E ≤ 1074) : (Datum.number false M (-1074 + (E : Int))).toInt .zero = some ((M / 2 ^ (1074 - E) : Nat) : Int) := by
  have e1 : (-1074 + (E : Int)).toNat = 0 := by omega
  have e2 : (-(-1074 + (E : Int))).toNat = 1074 - E := by omega
  have e3 : (Datum.number false M (-1074 + (E : Int))).integral .zero = .number false (M / 2 ^ (1074 - E)) 0 := by
    show Datum.number false (Toward.zero.cut false (M <<< (-1074 + (E : Int)).toNat) (-(-1074 + (E : Int))).toNat) 0 = _
    rw [e1, e2, Nat.shiftLeft_zero, cut_down h]
  unfold Datum.toInt
  rw [e3]
  show some (signed false (M / 2 ^ (1074 - E)) 0) = _
  unfold signed
  rw [Nat.shiftLeft_zero]
  rfl
theorem in64 (q : Nat) (h : q < 9007199254740992) : (if IntKind.i64.min ≤ (q : Int) ∧ (q : Int) ≤ IntKind.i64.max then some (q : Int) else none) = some (q : Int) := by
  have hmin : IntKind.i64.min = -9223372036854775808 := by decide
  have hmax : IntKind.i64.max = 9223372036854775807 := by decide
  rw [hmin, hmax, if_pos ⟨by omega, by omega⟩]
theorem toIntVal_of (x : Nat) (q : Nat) (dt : Datum) (hr : FloatKind.f64.decode x = dt) (ht : dt.toInt .zero = some (q : Int)) (hi : (if IntKind.i64.min ≤ (q : Int) ∧ (q : Int) ≤ IntKind.i64.max then some (q : Int) else none) = some (q : Int)) : floatToIntVal .f64 x .i64 = some (q : Int) := by
  unfold floatToIntVal
  simp only [hr, ht]
  exact hi
theorem DD_decode {E M : Nat} (h : Mt M) (hE : E ≤ 1074) : FloatKind.f64.decode (DD E M) = .number false M (-1074 + (E : Int)) := DD_read h (by omega)
theorem DD_quo {E M : Nat} (h : Mt M) : M / 2 ^ (1074 - E) < 9007199254740992 := Nat.lt_of_le_of_lt (Nat.div_le_self _ _) h.2
theorem DD_int {E M : Nat} (h : Mt M) (hE : E ≤ 1074) : floatToIntVal .f64 (DD E M) .i64 = some ((M / 2 ^ (1074 - E) : Nat) : Int) :=
  toIntVal_of _ _ _ (DD_decode h hE) (toInt_DD h hE) (in64 _ (DD_quo h))
/-- An integer as a double. -/
theorem ofInt_DD {k L : Nat} (h1 : 2 ^ L ≤ k) (h2 : k < 2 ^ (L + 1)) (hL : L ≤ 52) : floatOfInt .f64 (k : Int) = DD (1022 + L) (k * 2 ^ (52 - L)) := by
  have e := d_nearest_short false k L 0 (1022 + L) h1 h2 hL (by omega) (by omega)
  have hn : decide ((k : Int) < 0) = false := by simp
  show double.write (.number (decide ((k : Int) < 0)) (k : Int).natAbs 0) = _
  rw [hn]
  exact e
theorem ofInt_zero : floatOfInt .f64 0 = 0 := by decide +kernel
/-- Is a double that is cut to an integer what it was? -/
theorem DD_whole {E M : Nat} (h : Mt M) (hE : E ≤ 1074) : FloatKind.f64.format.order (DD E M) (floatOfInt .f64 ((M / 2 ^ (1074 - E) : Nat) : Int)) = some (if M % 2 ^ (1074 - E) = 0 then .eq else .gt) := by
  obtain ⟨d, hd⟩ : ∃ d, 1074 - E = d := ⟨_, rfl⟩
  rw [hd]
  have hp : 0 < 2 ^ d := Nat.pow_pos (by decide)
  have hdm := Nat.div_add_mod M (2 ^ d)
  have hmod := Nat.mod_lt M hp
  obtain ⟨h1, h2⟩ := h
  by_cases z : M / 2 ^ d = 0
  · rw [z] at hdm ⊢
    have hne : ¬ M % 2 ^ d = 0 := by rw [Nat.mul_zero] at hdm; omega
    rw [if_neg hne, show ((0 : Nat) : Int) = 0 from rfl, ofInt_zero]
    show (double.read _).order (double.read _) = _
    rw [DD_read ⟨h1, h2⟩ (by omega), show double.read 0 = .number false 0 (-1074) by decide +kernel]
    simp only [Datum.order, signed, Bool.false_eq_true, if_false, Nat.shiftLeft_eq, Nat.zero_mul]
    have : 0 < M * 2 ^ (-1074 + (E : Int) - min (-1074 + (E : Int)) (-1074)).toNat := Nat.mul_pos (by omega) (Nat.pow_pos (by decide))
    rw [Int.compare_eq_gt.mpr (by omega)]
  · have hd52 : d ≤ 52 := by
      rcases Nat.lt_or_ge 52 d with hh | hh
      · exfalso
        apply z
        exact Nat.div_eq_of_lt (Nat.lt_of_lt_of_le (show M < 2 ^ 53 from h2) (Nat.pow_le_pow_right (by decide) hh))
      · exact hh
    have hkl : 2 ^ (52 - d) ≤ M / 2 ^ d := by
      rw [Nat.le_div_iff_mul_le hp, ← Nat.pow_add, show 52 - d + d = 52 by omega]
      exact h1
    have hku : M / 2 ^ d < 2 ^ (52 - d + 1) := by
      rw [Nat.div_lt_iff_lt_mul hp, ← Nat.pow_add, show 52 - d + 1 + d = 53 by omega]
      exact h2
    rw [ofInt_DD hkl hku (by omega), show 52 - (52 - d) = d by omega, show 1022 + (52 - d) = E by omega]
    have hM2 : Mt (M / 2 ^ d * 2 ^ d) := by
      constructor
      · have := Nat.mul_le_mul_right (2 ^ d) hkl
        rw [← Nat.pow_add, show 52 - d + d = 52 by omega] at this
        exact this
      · have := Nat.div_mul_le_self M (2 ^ d)
        omega
    show (double.read _).order (double.read _) = _
    rw [DD_read ⟨h1, h2⟩ (by omega), DD_read hM2 (by omega)]
    simp only [Datum.order, signed, Bool.false_eq_true, if_false, Int.min_self, Int.sub_self, Int.toNat_zero, Nat.shiftLeft_zero]
    rw [Nat.mul_comm] at hdm
    by_cases c : M % 2 ^ d = 0
    · rw [if_pos c, Int.compare_eq_eq.mpr (by omega)]
    · rw [if_neg c, Int.compare_eq_gt.mpr (by omega)]
/-- A positive single precision number as a double. -/
theorem up_DD {x : Nat} (h : fin x = true) (h0 : 0 < x % 2147483648) (hs : x / 2147483648 % 2 = 0) : ∃ m L e : Nat, 2 ^ L ≤ m ∧ m < 2 ^ (L + 1) ∧ L ≤ 23 ∧ e ≤ 253 ∧ floatToFloatBits .f32 x .f64 = some (DD (873 + e + L) (m * 2 ^ (52 - L))) := by
  obtain ⟨m, e, h1, h2, h3, h4, _⟩ := fin_read h
  have hm := h4 h0
  have hL : m.log2 ≤ 23 := by
    have := (Nat.log2_lt (show m ≠ 0 by omega) (k := 24)).mpr (by omega)
    omega
  have l1 := Nat.log2_self_le (show m ≠ 0 by omega)
  have l2 : m < 2 ^ (m.log2 + 1) := Nat.lt_log2_self
  refine ⟨m, m.log2, e, l1, l2, hL, h3, ?_⟩
  have hs2 : (x / 2147483648 % 2 == 1) = false := by rw [hs]; rfl
  rw [hs2] at h1
  unfold floatToFloatBits
  rw [if_neg (by decide)]
  have hr : FloatKind.f32.decode x = .number false m (-149 + (e : Int)) := h1
  have he : FloatKind.f64.encode (.number false m (-149 + (e : Int))) = DD (873 + e + m.log2) (m * 2 ^ (52 - m.log2)) :=
    d_nearest_short false m m.log2 (-149 + (e : Int)) (873 + e + m.log2) l1 l2 (by omega) (by omega) (by omega)
  have hM : Mt (m * 2 ^ (52 - m.log2)) := by
    have hp : 0 < 2 ^ (52 - m.log2) := Nat.pow_pos (by decide)
    constructor
    · have := Nat.mul_le_mul_right (2 ^ (52 - m.log2)) l1
      rw [← Nat.pow_add, show m.log2 + (52 - m.log2) = 52 by omega] at this
      exact this
    · have := Nat.mul_lt_mul_of_pos_right l2 hp
      rw [← Nat.pow_add, show m.log2 + 1 + (52 - m.log2) = 53 by omega] at this
      exact this
  have hd : FloatKind.f64.decode (DD (873 + e + m.log2) (m * 2 ^ (52 - m.log2))) = .number false (m * 2 ^ (52 - m.log2)) (-1074 + ((873 + e + m.log2 : Nat) : Int)) := DD_read hM (by omega)
  rw [hr]
  simp only [he, hd]
  rfl
theorem Mt_of {m L : Nat} (l1 : 2 ^ L ≤ m) (l2 : m < 2 ^ (L + 1)) (hL : L ≤ 23) : Mt (m * 2 ^ (52 - L)) := by
  have hp : 0 < 2 ^ (52 - L) := Nat.pow_pos (by decide)
  constructor
  · have := Nat.mul_le_mul_right (2 ^ (52 - L)) l1
    rw [← Nat.pow_add, show L + (52 - L) = 52 by omega] at this
    exact this
  · have := Nat.mul_lt_mul_of_pos_right l2 hp
    rw [← Nat.pow_add, show L + 1 + (52 - L) = 53 by omega] at this
    exact this

theorem neg_bit (x : Nat) : (Op.negFloat .f32 x).testBit 31 = !x.testBit 31 := by
  show (x ^^^ 2 ^ 31).testBit 31 = _
  rw [Nat.testBit_xor, Nat.testBit_two_pow_self]
  cases x.testBit 31 <;> rfl
theorem neg_rung (x : Nat) : Op.negFloat .f32 x % 2147483648 = x % 2147483648 := by
  show (x ^^^ 2 ^ 31) % 2 ^ 31 = x % 2 ^ 31
  rw [Nat.xor_mod_two_pow]
  simp
theorem bit_sign (x : Nat) : (x / 2147483648 % 2 = 1) ↔ x.testBit 31 = true := by
  rw [Nat.testBit_eq_decide_div_mod_eq]
  simp
theorem neg_sign (x : Nat) : Op.negFloat .f32 x / 2147483648 % 2 = 1 - x / 2147483648 % 2 := by
  have h := bit_sign x
  have k := bit_sign (Op.negFloat .f32 x)
  rw [neg_bit] at k
  cases hx : x.testBit 31
  · rw [hx] at h k
    have h1 := k.mpr rfl
    have h2 : ¬ (x / 2147483648 % 2 = 1) := by rw [h]; simp
    omega
  · rw [hx] at h k
    have h1 := h.mpr rfl
    have h2 : ¬ (Op.negFloat .f32 x / 2147483648 % 2 = 1) := by rw [k]; simp
    omega
/-- The absolute value, never -0. -/
def absF (x : Nat) : Nat := if FloatKind.f32.format.order x 0 == some .lt then Op.negFloat .f32 x else if FloatKind.f32.format.order x 0 == some .eq then 0 else x
theorem zero_notN : isN .f32 0 = false := by decide +kernel
theorem order_zero {x : Nat} (h : fin x = true) : FloatKind.f32.format.order x 0 = some (if x % 2147483648 = 0 then .eq else if x / 2147483648 % 2 = 1 then .lt else .gt) := by
  rw [order_key x 0 (fin_notN h) zero_notN, show key 0 = 0 by decide]
  unfold key
  by_cases a : x % 2147483648 = 0
  · rw [if_pos a, a]
    split <;> rfl
  · rw [if_neg a]
    by_cases b : x / 2147483648 % 2 = 1
    · rw [if_pos b, if_pos b, Int.compare_eq_lt.mpr (by omega)]
    · rw [if_neg b, if_neg b, Int.compare_eq_gt.mpr (by omega)]
theorem abs_facts {x : Nat} (h : fin x = true) (h0 : 0 < x % 2147483648) : fin (absF x) = true ∧ 0 < absF x % 2147483648 ∧ absF x / 2147483648 % 2 = 0 := by
  have e := order_zero h
  rw [if_neg (by omega)] at e
  unfold absF
  rw [e]
  by_cases b : x / 2147483648 % 2 = 1
  · rw [if_pos b]
    show fin (Op.negFloat .f32 x) = true ∧ 0 < Op.negFloat .f32 x % 2147483648 ∧ Op.negFloat .f32 x / 2147483648 % 2 = 0
    have h1 := neg_rung x
    have h2 := neg_sign x
    refine ⟨?_, by omega, by omega⟩
    unfold fin at h ⊢
    rw [h1]
    exact h
  · rw [if_neg b]
    exact ⟨h, h0, by show x / 2147483648 % 2 = 0; omega⟩
theorem one_over {x : Nat} (h : fin x = true) (h0 : x % 2147483648 = 0) : ∃ r, floatBits .quo .f32 1065353216 x = some r := by
  obtain ⟨m, e, h1, _, _, _, h5⟩ := fin_read h
  obtain rfl := h5 h0
  show ∃ r, single.div 1065353216 x = some r
  unfold Format.div
  rw [h1, show single.read 1065353216 = .number false 8388608 (-23) by decide +kernel]
  exact ⟨_, rfl⟩
theorem least_from (p : Nat → Bool) (b : Nat) (hb : p b = true) : ∀ n a, b - a = n → a ≤ b → ∃ c, a ≤ c ∧ c ≤ b ∧ p c = true ∧ ∀ i, a ≤ i → i < c → p i = false
  | 0, a, hn, hab => by
    obtain rfl : a = b := by omega
    exact ⟨a, Nat.le_refl _, hab, hb, fun i h1 h2 => by omega⟩
  | n + 1, a, hn, hab => by
    cases ha : p a
    · obtain ⟨c, h1, h2, h3, h4⟩ := least_from p b hb n (a + 1) (by omega) (by omega)
      refine ⟨c, by omega, h2, h3, fun i hi1 hi2 => ?_⟩
      by_cases e : i = a
      · rw [e]; exact ha
      · exact h4 i (by omega) hi2
    · exact ⟨a, Nat.le_refl _, hab, ha, fun i h1 h2 => by omega⟩
/-- Where a double that is doubled is whole for the first time. -/
theorem whole_at {m L E : Nat} (l1 : 2 ^ L ≤ m) (l2 : m < 2 ^ (L + 1)) (hL : L ≤ 23) (hE : E ≤ 1045) :
    ∃ E2, E ≤ E2 ∧ E2 ≤ 1045 ∧ (m * 2 ^ (52 - L)) % 2 ^ (1074 - E2) = 0 ∧ (∀ i, E ≤ i → i < E2 → ¬ (m * 2 ^ (52 - L)) % 2 ^ (1074 - i) = 0) ∧ 0 < (m * 2 ^ (52 - L)) / 2 ^ (1074 - E2) ∧ (m * 2 ^ (52 - L)) / 2 ^ (1074 - E2) < 16777216 := by
  have hd : (m * 2 ^ (52 - L)) % 2 ^ (1074 - 1045) = 0 := by
    rw [show 52 - L = (1074 - 1045) + (23 - L) by omega, Nat.pow_add, ← Nat.mul_assoc, Nat.mul_right_comm]
    exact Nat.mul_mod_left _ _
  obtain ⟨E2, h1, h2, h3, h4⟩ := least_from (fun i => decide ((m * 2 ^ (52 - L)) % 2 ^ (1074 - i) = 0)) 1045 (by simpa using hd) _ E rfl hE
  have hM := Mt_of l1 l2 hL
  simp only [decide_eq_true_eq] at h3
  have hp : 0 < 2 ^ (1074 - E2) := Nat.pow_pos (by decide)
  refine ⟨E2, h1, h2, h3, fun i a b => by simpa using h4 i a b, ?_, ?_⟩
  · have := Nat.div_add_mod (m * 2 ^ (52 - L)) (2 ^ (1074 - E2))
    rw [h3] at this
    rcases Nat.eq_zero_or_pos ((m * 2 ^ (52 - L)) / 2 ^ (1074 - E2)) with z | z
    · rw [z] at this
      have := hM.1
      omega
    · exact z
  · rw [Nat.div_lt_iff_lt_mul hp]
    have h29 : 2 ^ 29 ≤ 2 ^ (1074 - E2) := Nat.pow_le_pow_right (by decide) (by omega)
    have := Nat.mul_le_mul_left 16777216 h29
    have h5 := hM.2
    omega
theorem odd_at {q : Nat} (hq : 0 < q) (h : q < 16777216) : ∃ j, j ≤ 24 ∧ (q / 2 ^ j) % 2 = 1 ∧ ∀ i, i < j → (q / 2 ^ i) % 2 = 0 := by
  have l1 := Nat.log2_self_le (show q ≠ 0 by omega)
  have l2 : q < 2 ^ (q.log2 + 1) := Nat.lt_log2_self
  have hL : q.log2 ≤ 24 := by
    have := (Nat.log2_lt (show q ≠ 0 by omega) (k := 24)).mpr (by omega)
    omega
  have e : q / 2 ^ q.log2 = 1 := by
    have hp : 0 < 2 ^ q.log2 := Nat.pow_pos (by decide)
    have a1 : 1 ≤ q / 2 ^ q.log2 := by rw [Nat.le_div_iff_mul_le hp]; omega
    have a2 : q / 2 ^ q.log2 < 2 := by
      rw [Nat.div_lt_iff_lt_mul hp]
      rw [Nat.pow_succ] at l2
      omega
    omega
  obtain ⟨j, _, h2, h3, h4⟩ := least_from (fun i => decide ((q / 2 ^ i) % 2 = 1)) q.log2 (by simp [e]) _ 0 rfl (Nat.zero_le _)
  refine ⟨j, by omega, by simpa using h3, fun i hi => ?_⟩
  have := h4 i (Nat.zero_le _) hi
  simp at this
  exact this
end Go.Proofs.Ytopkehknaclhlaa

/- The text of a number of single precision: there is one, whatever the world. No condition. -/
namespace Go.Proofs.Ytopkehknaclhlaa
open Go Go.RowKit

set_option maxHeartbeats 1000000 in
theorem Finite_calls (w : World) (x : Nat) : Calls Try.prog 180 #[.float .f32 x] w (fun e w' => e = .returned (.bool (fin x)) ∧ Chg (fun _ => False) w w') := by
  go_enter Try.func180, Try.ntmps180
  go_wp2
  go_ret
  exact ⟨by rw [fin_sub]; rfl, (Chg.refl _ w).drewN _⟩

theorem Abs_calls (w : World) (x : Nat) : Calls Try.prog 195 #[.float .f32 x] w (fun e w' => e = .returned (.float .f32 (absF x)) ∧ w' = w) := by
  unfold absF
  cases h1 : FloatKind.f32.format.order x 0 == some .lt <;> cases h2 : FloatKind.f32.format.order x 0 == some .eq
  all_goals
    go_enter Try.func195, Try.ntmps195
    go_wp2
    go_ret
    exact ⟨rfl, rfl⟩

/-- A text comes back. -/
def RTx (w : World) (T : ByteArray) (e : Ending) (w' : World) : Prop := e = .returned (.string T) ∧ Chg (fun _ => False) w w'

set_option maxRecDepth 100000 in
set_option maxHeartbeats 2000000 in
theorem Format_zero (x : Nat) (hf : fin x = true) (h0 : x % 2147483648 = 0) : ∃ T : ByteArray, T.size ≤ 45 ∧ ∀ w, Calls Try.prog 181 #[.float .f32 x] w (RTx w T) := by
  obtain ⟨r, hr⟩ := one_over hf h0
  have ho := order_zero hf
  rw [if_pos h0] at ho
  have q1 := fun w => fbin_of hr w
  have q2 := fask_of hr
  have hF := fun w => Finite_calls w x
  rw [hf] at hF
  cases hs : FloatKind.f32.format.order r 0 == some .lt
  · refine ⟨⟨#[48]⟩, by decide, fun w => ?_⟩
    go_enter Try.func181, Try.ntmps181
    go_wp2_with fail
    refine (hF _).mono ?_
    rintro e w1 ⟨rfl, hG⟩
    go_wp2_with fail
    go_ret
    exact ⟨rfl, hG⟩
  · refine ⟨⟨#[45, 48]⟩, by decide, fun w => ?_⟩
    go_enter Try.func181, Try.ntmps181
    go_wp2_with fail
    refine (hF _).mono ?_
    rintro e w1 ⟨rfl, hG⟩
    go_wp2_with fail
    go_ret
    exact ⟨rfl, hG⟩

set_option maxRecDepth 100000 in
set_option maxHeartbeats 4000000 in
theorem Format_main (x : Nat) (hf : fin x = true) (h0 : 0 < x % 2147483648) : ∃ T : ByteArray, T.size ≤ 45 ∧ ∀ w, Calls Try.prog 181 #[.float .f32 x] w (RTx w T) := by
  obtain ⟨a1, a2, a3⟩ := abs_facts hf h0
  obtain ⟨m, L, e, l1, l2, hL, he, hup⟩ := up_DD a1 a2 a3
  have hM := Mt_of l1 l2 hL
  obtain ⟨E0, hE0⟩ : ∃ E0, E0 = 873 + e + L := ⟨_, rfl⟩
  rw [← hE0] at hup
  obtain ⟨E1, hE1⟩ : ∃ E1, E1 = min E0 1045 := ⟨_, rfl⟩
  have E1a : E1 ≤ 1045 := by omega
  obtain ⟨E2, w1, w2, w3, w4, w5, w6⟩ := whole_at (E := E1) l1 l2 hL E1a
  obtain ⟨M, hMe⟩ : ∃ M, M = m * 2 ^ (52 - L) := ⟨_, rfl⟩
  rw [← hMe] at hM w3 w4 w5 w6 hup
  obtain ⟨q, hq⟩ : ∃ q, q = M / 2 ^ (1074 - E2) := ⟨_, rfl⟩
  rw [← hq] at w5 w6
  obtain ⟨j, hj, o1, o2⟩ := odd_at w5 w6
  have ho := order_zero hf
  rw [if_neg (by omega)] at ho
  have hF := fun w => Finite_calls w x
  rw [hf] at hF
  have hA := fun w => Abs_calls w x
  have hqj : q / 2 ^ j ≤ q := Nat.div_le_self _ _
  obtain ⟨Q, hQ⟩ : ∃ Q, Q = q / 2 ^ j := ⟨_, rfl⟩
  rw [← hQ] at hqj o1
  have HQJ := hid hQ
  clear hQ
  have hN1 := fun w => Number_calls (Q : Int) (by omega) (by omega) w
  have hN2 := fun w => Number_calls ((E0 : Int) - (E2 : Int) + (j : Int)) (by omega) (by omega) w
  have z1 := numT_size (Q : Int)
  have z2 := numT_size ((E0 : Int) - (E2 : Int) + (j : Int))
  have hE0b : E0 ≤ 1149 := by omega
  clear l1 l2 hMe hE0 he a1 a2 a3 hf
  generalize numT (Q : Int) = T1 at *
  generalize numT ((E0 : Int) - (E2 : Int) + (j : Int)) = T2 at *
  have heq : (Ieee.Format.order FloatKind.f32.format x 0 == some .eq) = false := by rw [ho]; split <;> rfl
  have hlt : (Ieee.Format.order FloatKind.f32.format x 0 == some .lt) = decide (x / 2147483648 % 2 = 1) := by
    rw [ho]
    by_cases b : x / 2147483648 % 2 = 1
    · rw [if_pos b, decide_eq_true b]; rfl
    · rw [if_neg b, decide_eq_false b]; rfl
  have hp1 : (⟨#[112]⟩ : ByteArray).size = 1 := rfl
  have hp2 : (⟨#[45]⟩ : ByteArray).size = 1 := rfl
  have hp3 : (⟨#[]⟩ : ByteArray).size = 0 := rfl
  have c1 := fun w => fconv_of hup w
  have c2 := fconvAsk_of hup
  have HQ := hid hq
  clear hup hq ho
  generalize decide (x / 2147483648 % 2 = 1) = b at *
  refine ⟨(if b then ⟨#[45]⟩ else ⟨#[]⟩) ++ T1 ++ ⟨#[112]⟩ ++ T2, by rw [ByteArray.size_append, ByteArray.size_append, ByteArray.size_append]; cases b <;> simp only [if_true, if_false, Bool.false_eq_true] <;> omega, fun w => ?_⟩
  obtain ⟨sg, hsg⟩ : ∃ sg : ByteArray, sg = if b then ⟨#[45]⟩ else ⟨#[]⟩ := ⟨_, rfl⟩
  rw [← hsg]
  have hsz : sg.size ≤ 1 := by rw [hsg]; cases b <;> decide
  have s1 := fun w => add_run sg T1 w (by omega)
  have s2 := fun w => add_run (sg ++ T1) ⟨#[112]⟩ w (by rw [ByteArray.size_append]; omega)
  have s3 := fun w => add_run (sg ++ T1 ++ ⟨#[112]⟩) T2 w (by rw [ByteArray.size_append, ByteArray.size_append]; omega)
  clear z1 z2 hsz hp1 hp2 hp3
  cases b
  all_goals
    simp only [if_true, if_false, Bool.false_eq_true] at hsg
    subst hsg
    go_enter Try.func181, Try.ntmps181
    go_wp2_with fail
    refine (hF _).mono ?_
    rintro e' v1 ⟨rfl, hG⟩
    have HG := hid hG
    clear hG hF
    go_wp2_with fail
    refine (hA _).mono ?_
    rintro e' v2 ⟨rfl, rfl⟩
    go_wp2_with fail
    clear hA c1 c2 heq hlt
    go_loop [4, 5] (fun y e => ∃ E : Nat, E1 ≤ E ∧ E ≤ E0 ∧ y = .float .f64 (DD E M) ∧ e = .int .i64 ((E0 : Int) - (E : Int))) (fun _ e => 2000 - (intOf e).toNat)
    case atStart => exact ⟨E0, by omega, Nat.le_refl _, rfl, by rw [Int.sub_self]⟩
    case round =>
      obtain ⟨E, r1, r2, rfl, rfl⟩ := hrel
      have hbig := DD_big hM (show E ≤ 2000 by omega)
      by_cases hE : E < 1046
      · rw [if_pos hE] at hbig
        obtain rfl : E = E1 := by omega
        clear hE r1 r2 hE1
        go_wp2_with fail
        go_loop [4, 5] (fun y e => ∃ F : Nat, E ≤ F ∧ F ≤ E2 ∧ y = .float .f64 (DD F M) ∧ e = .int .i64 ((E0 : Int) - (F : Int))) (fun _ e => 4000 - (E0 - intOf e).toNat)
        case atStart => exact ⟨E, Nat.le_refl _, w1, rfl, rfl⟩
        case round =>
          obtain ⟨F, r1, r2, rfl, rfl⟩ := hrel
          clear hbig
          have hI := DD_int hM (show F ≤ 1074 by omega)
          have hW := DD_whole hM (show F ≤ 1074 by omega)
          by_cases hF : F = E2
          · subst hF
            rw [if_pos w3, ← HQ.out] at hW
            rw [← HQ.out] at hI
            clear w4 r1 r2 w1 w3 hM
            go_wp2_with fail
            clear hI hW
            go_loop [5, 6] (fun e m => ∃ i : Nat, i ≤ j ∧ m = .int .i64 ((q / 2 ^ i : Nat) : Int) ∧ e = .int .i64 ((E0 : Int) - (F : Int) + (i : Int))) (fun e _ => 4000 - (2000 + intOf e - E0 + F).toNat)
            case atStart => exact ⟨0, Nat.zero_le _, by rw [Nat.pow_zero, Nat.div_one], by congr 1; omega⟩
            case round =>
              obtain ⟨i, hi, rfl, rfl⟩ := hrel
              by_cases hij : i = j
              · subst hij
                rw [← HQJ.out]
                have hodd : ¬ ((Q : Int) % 2 = 0) := by omega
                clear o2
                go_wp2_with fail
                refine (hN1 _).mono ?_
                rintro e3 v3 ⟨rfl, hG3⟩
                go_wp2_with fail
                refine (hN2 _).mono ?_
                rintro e4 v4 ⟨rfl, hG4⟩
                go_wp2_with fail
                go_ret
                exact ⟨rfl, (HG.out.trans hG3 fun _ _ h => h).trans hG4 fun _ _ h => h⟩
              · have hev := o2 i (by omega)
                have hsucc : q / 2 ^ i / 2 = q / 2 ^ (i + 1) := by rw [Nat.div_div_eq_div_mul, Nat.pow_succ]
                have hle : q / 2 ^ i ≤ q := Nat.div_le_self _ _
                have HS := hid hsucc
                clear hsucc o2
                generalize q / 2 ^ i = p at *
                have hev2 : (p : Int) % 2 = 0 := by omega
                have hp0 : (0 : Int) ≤ (p : Int) := by omega
                go_wp2_with fail
                go_round
                case rel => exact ⟨i + 1, by omega, by rw [← HS.out]; congr 1, by congr 1; omega⟩
                case measure => simp [intOf]; omega
          · have hne := w4 F r1 (by omega)
            rw [if_neg hne] at hW
            have q1 := fun w => fbin_of (DD_double hM (show F ≤ 1999 by omega)) w
            have q2 := fask_of (DD_double hM (show F ≤ 1999 by omega))
            generalize M / 2 ^ (1074 - F) = qq at *
            go_wp2_with fail
            go_round
            case rel => exact ⟨F + 1, by omega, by omega, rfl, by congr 1; omega⟩
            case measure => simp [intOf]; omega
      · obtain ⟨F, rfl⟩ : ∃ F, E = F + 1 := ⟨E - 1, by omega⟩
        have q1 := fun w => fbin_of (DD_half hM (show F ≤ 1999 by omega)) w
        have q2 := fask_of (DD_half hM (show F ≤ 1999 by omega))
        rw [if_neg hE] at hbig
        by_cases hE2 : F + 1 = 1046 ∧ M = 4503599627370496
        · rw [if_pos hE2] at hbig
          clear hE2
          go_wp2_with fail
          go_round
          case rel => exact ⟨F, by omega, by omega, rfl, by congr 1; omega⟩
          case measure => simp [intOf]; omega
        · rw [if_neg hE2] at hbig
          clear hE2
          go_wp2_with fail
          go_round
          case rel => exact ⟨F, by omega, by omega, rfl, by congr 1; omega⟩
          case measure => simp [intOf]; omega

/-- The text of a number, one that there is. -/
theorem Single_ex (x : Nat) : ∃ T : ByteArray, T.size ≤ 45 ∧ ∀ w, Calls Try.prog 147 #[.float .f32 x] w (RTx w T) := by
  have hF := fun w => Finite_calls w x
  cases hf : fin x
  · rw [hf] at hF
    cases hn : isN .f32 x
    · have ho := order_self .f32 x
      rw [hn] at ho
      cases hs : FloatKind.f32.format.order x 0 == some .gt
      · refine ⟨⟨#[45, 105, 110, 102]⟩, by decide, fun w => ?_⟩
        go_enter Try.func147, Try.ntmps147
        go_wp2_with fail
        refine (hF _).mono ?_
        rintro e w1 ⟨rfl, hG⟩
        go_wp2_with fail
        go_ret
        exact ⟨rfl, hG⟩
      · refine ⟨⟨#[105, 110, 102]⟩, by decide, fun w => ?_⟩
        go_enter Try.func147, Try.ntmps147
        go_wp2_with fail
        refine (hF _).mono ?_
        rintro e w1 ⟨rfl, hG⟩
        go_wp2_with fail
        go_ret
        exact ⟨rfl, hG⟩
    · have ho := order_self .f32 x
      rw [hn] at ho
      refine ⟨⟨#[110, 97, 110]⟩, by decide, fun w => ?_⟩
      go_enter Try.func147, Try.ntmps147
      go_wp2_with fail
      go_ret
      exact ⟨rfl, Chg.refl _ w⟩
  · rw [hf] at hF
    have ho := order_self .f32 x
    rw [fin_notN hf] at ho
    obtain ⟨T, hT, hc⟩ : ∃ T : ByteArray, T.size ≤ 45 ∧ ∀ w, Calls Try.prog 181 #[.float .f32 x] w (RTx w T) := by
      rcases Nat.eq_zero_or_pos (x % 2147483648) with h0 | h0
      · exact Format_zero x hf h0
      · exact Format_main x hf h0
    refine ⟨T, hT, fun w => ?_⟩
    go_enter Try.func147, Try.ntmps147
    go_wp2_with fail
    refine (hF _).mono ?_
    rintro e w1 ⟨rfl, hG⟩
    go_wp2_with fail
    refine (hc _).mono ?_
    rintro e w2 ⟨rfl, hG2⟩
    go_wp2_with fail
    go_ret
    exact ⟨rfl, hG.trans hG2 fun _ _ h => h⟩
noncomputable def sgT (x : Nat) : ByteArray := Classical.choose (Single_ex x)
theorem sgT_size (x : Nat) : (sgT x).size ≤ 45 := (Classical.choose_spec (Single_ex x)).1
theorem Single_calls (x : Nat) (w : World) : Calls Try.prog 147 #[.float .f32 x] w (RTx w (sgT x)) := (Classical.choose_spec (Single_ex x)).2 w
noncomputable def ptT (z : Nat × Nat) : ByteArray := sgT z.1 ++ ⟨#[32]⟩ ++ sgT z.2
theorem ptT_size (z : Nat × Nat) : (ptT z).size ≤ 91 := by
  have h1 := sgT_size z.1
  have h2 := sgT_size z.2
  have h3 : (⟨#[32]⟩ : ByteArray).size = 1 := rfl
  unfold ptT
  rw [ByteArray.size_append, ByteArray.size_append]
  omega
set_option maxHeartbeats 1000000 in
theorem Point_calls (x y : Nat) (w : World) : Calls Try.prog 116 #[.complex .f32 x y] w (RTx w (ptT (x, y))) := by
  have h1 := sgT_size x
  have h2 := sgT_size y
  have h3 : (⟨#[32]⟩ : ByteArray).size = 1 := rfl
  have s1 := fun w => add_run (sgT x) ⟨#[32]⟩ w (by omega)
  have s2 := fun w => add_run (sgT x ++ ⟨#[32]⟩) (sgT y) w (by rw [ByteArray.size_append]; omega)
  have c1 := fun w => Single_calls x w
  have c2 := fun w => Single_calls y w
  unfold ptT
  show Calls Try.prog 116 #[.complex .f32 x y] w (RTx w (sgT x ++ ⟨#[32]⟩ ++ sgT y))
  generalize sgT x = A at *
  generalize sgT y = B at *
  clear h1 h2 h3
  go_enter Try.func116, Try.ntmps116
  go_wp2_with fail
  refine (c1 _).mono ?_
  rintro e w1 ⟨rfl, hG⟩
  go_wp2_with fail
  refine (c2 _).mono ?_
  rintro e w2 ⟨rfl, hG2⟩
  go_wp2_with fail
  go_ret
  exact ⟨rfl, hG.trans hG2 fun _ _ h => h⟩
theorem Int_calls (n : Int) (h1 : -1000000000 < n) (h2 : n < 1000000000) (w : World) : Calls Try.prog 117 #[.int .i64 n] w (RTx w (numT n)) := by
  have c1 := fun w => Number_calls n h1 h2 w
  have h3 : ¬ (n < -9223372036854775807) := by omega
  generalize numT n = T at *
  go_enter Try.func117, Try.ntmps117
  go_wp2_with fail
  refine (c1 _).mono ?_
  rintro e w1 ⟨rfl, hG⟩
  go_wp2_with fail
  go_ret
  exact ⟨rfl, hG⟩
end Go.Proofs.Ytopkehknaclhlaa
