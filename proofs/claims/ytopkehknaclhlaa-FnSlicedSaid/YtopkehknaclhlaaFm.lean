/- Plain facts on IEEE words: what is a NaN, when two words are the same number, what a drawn NaN is. No condition. -/
import Ieee.Arith
import Derived.Laws.FloatArith
import Derived.Test.YtopkehknaclhlaaFl
namespace Go.Proofs.Ytopkehknaclhlaa
open Go Ieee

/-- Is the word a NaN? -/
def isN (k : FloatKind) (x : Nat) : Bool := (k.decode x).isNaN

theorem order_self (k : FloatKind) (x : Nat) : k.format.order x x = if isN k x then none else some .eq := by
  unfold Format.order isN FloatKind.decode
  cases h : k.format.read x with
  | number s m i => simp [Datum.order, Datum.isNaN]
  | infinity s => simp [Datum.order, Datum.isNaN]
  | nan s t => simp [Datum.order, Datum.isNaN]

theorem order_nan_left (k : FloatKind) (x y : Nat) (h : isN k x = true) : k.format.order x y = none := by
  unfold Format.order
  unfold isN FloatKind.decode at h
  cases hx : k.format.read x <;> simp_all [Datum.isNaN, Datum.order]

theorem order_nan_right (k : FloatKind) (x y : Nat) (h : isN k y = true) : k.format.order x y = none := by
  unfold Format.order
  unfold isN FloatKind.decode at h
  cases hx : k.format.read x <;> cases hy : k.format.read y <;> simp_all [Datum.isNaN, Datum.order]

/-- A sum, a difference, a product, a quotient with a NaN is invalid. -/
theorem floatBits_nan_left (op : BinOp) (k : FloatKind) (x y : Nat) (h : isN k x = true) : floatBits op k x y = none := by
  unfold isN FloatKind.decode at h
  cases hx : k.format.read x <;> simp_all [Datum.isNaN]
  unfold floatBits
  cases op <;> simp [Format.add, Format.sub, Format.mul, Format.div, hx, Datum.sum, Datum.product, Datum.quotient]

theorem floatBits_nan_right (op : BinOp) (k : FloatKind) (x y : Nat) (h : isN k y = true) : floatBits op k x y = none := by
  unfold isN FloatKind.decode at h
  cases hy : k.format.read y <;> simp_all [Datum.isNaN]
  unfold floatBits
  cases op <;> simp [Format.add, Format.sub, Format.mul, Format.div, hy, Datum.opposite] <;>
    (cases hx : k.format.read x <;> simp [Datum.sum, Datum.product, Datum.quotient])

theorem isN_f32 (s u : Nat) (hu : u < 2 ^ 23 - 1) : isN .f32 (s * 2 ^ 31 + 0x7f800000 + 1 + u) = true := by
  unfold isN FloatKind.decode Format.read
  have h1 : single.signWeight = 2147483648 := by decide
  have h2 : single.binade = 8388608 := by decide
  have h3 : single.infRung = 2139095040 := by decide
  simp only [FloatKind.format, h1, h2, h3]
  have e : (s * 2 ^ 31 + 0x7f800000 + 1 + u) % 2147483648 = 2139095041 + u := by omega
  rw [e, if_neg (by omega), if_neg (by omega), if_neg (by omega)]
  rfl

theorem isN_f64 (s u : Nat) (hu : u < 2 ^ 52 - 1) : isN .f64 (s * 2 ^ 63 + 0x7ff0000000000000 + 1 + u) = true := by
  unfold isN FloatKind.decode Format.read
  have h1 : double.signWeight = 9223372036854775808 := by decide
  have h2 : double.binade = 4503599627370496 := by decide
  have h3 : double.infRung = 9218868437227405312 := by decide
  simp only [FloatKind.format, h1, h2, h3]
  have e : (s * 2 ^ 63 + 0x7ff0000000000000 + 1 + u) % 9223372036854775808 = 9218868437227405313 + u := by omega
  rw [e, if_neg (by omega), if_neg (by omega), if_neg (by omega)]
  rfl

theorem isN_bin (k : FloatKind) (x y t : Nat) : isN k ((Question.nanBits k x y).cut t) = true := by
  cases k
  · exact isN_f32 (t % 2) _ (Nat.mod_lt _ (by omega))
  · exact isN_f64 (t % 2) _ (Nat.mod_lt _ (by omega))

theorem isN_conv (k : FloatKind) (x t : Nat) : isN k ((Question.nanConv k x).cut t) = true := by
  cases k
  · exact isN_f32 (t % 2) _ (Nat.mod_lt _ (by omega))
  · exact isN_f64 (t % 2) _ (Nat.mod_lt _ (by omega))

theorem cut_bin_lt32 (x y t : Nat) : (Question.nanBits .f32 x y).cut t < 4294967296 := by
  show t % 2 * 2 ^ 31 + 0x7f800000 + 1 + t / 2 % (2 ^ 23 - 1) < 4294967296
  have h1 := Nat.mod_lt t (show 0 < 2 by omega)
  have h2 := Nat.mod_lt (t / 2) (show 0 < 2 ^ 23 - 1 by omega)
  omega
theorem cut_conv_lt32 (x t : Nat) : (Question.nanConv .f32 x).cut t < 4294967296 := by
  show t % 2 * 2 ^ 31 + 0x7f800000 + 1 + t / 2 % (2 ^ 23 - 1) < 4294967296
  have h1 := Nat.mod_lt t (show 0 < 2 by omega)
  have h2 := Nat.mod_lt (t / 2) (show 0 < 2 ^ 23 - 1 by omega)
  omega
theorem lt32_of_wf {b : Nat} (h : (Lit.float .f32 b).wf = true) : b < 4294967296 := by
  simpa [Lit.wf] using h
theorem wf_of_lt32 {b : Nat} (h : b < 4294967296) : (Lit.float .f32 b).wf = true := by
  simpa [Lit.wf] using h

/-- The bits of a result of single precision fit 32 bits. -/
theorem fbin_lt (op : BinOp) (x y : Nat) (w : World) : fbin op .f32 x y w < 4294967296 := by
  unfold fbin
  split
  · rename_i r h; exact lt32_of_wf (floatBits_wf h)
  · exact cut_bin_lt32 _ _ _
theorem ofInt_lt (n : Int) : floatOfInt .f32 n < 4294967296 := lt32_of_wf (floatOfInt_wf _ _)
theorem fconv_lt (b : Nat) (w : World) : fconv .f64 b .f32 w < 4294967296 := by
  unfold fconv
  rw [if_neg (by decide)]
  split
  · exact cut_conv_lt32 _ _
  · exact lt32_of_wf (encode_wf _ _)
  · split
    · exact Nat.mod_lt _ (by omega)
    · exact lt32_of_wf (encode_wf _ _)
theorem neg_lt {b : Nat} (h : b < 4294967296) : Op.negFloat .f32 b < 4294967296 := by
  have e : Op.negFloat .f32 b = b ^^^ 2 ^ 31 := rfl
  rw [e]
  exact Nat.xor_lt_two_pow (n := 32) h (by decide)

/-- A conversion that is valid: no draw. -/
theorem fconv_of {s k : FloatKind} {b r : Nat} (h : floatToFloatBits s b k = some r) (w : World) : fconv s b k w = r := by
  unfold floatToFloatBits at h
  unfold fconv
  split at h
  · rename_i e; cases h; rw [if_pos e]
  · rename_i ne
    rw [if_neg ne]
    cases hd : s.decode b with
    | nan sg fr => simp [hd] at h
    | infinity sg => simp [hd] at h; simp [h]
    | number sg m e =>
      simp only [hd] at h
      split at h
      · cases h
      · rename_i ho; cases h; simp [ho]
theorem fconvAsk_of {s k : FloatKind} {b r : Nat} (h : floatToFloatBits s b k = some r) : fconvAsk s b k = false := by
  unfold floatToFloatBits at h
  unfold fconvAsk
  split at h
  · rename_i e; rw [if_pos e]
  · rename_i ne
    rw [if_neg ne]
    cases hd : s.decode b with
    | nan sg fr => simp [hd] at h
    | infinity sg => simp
    | number sg m e =>
      simp only [hd] at h
      split at h
      · cases h
      · rename_i ho; simpa using ho
theorem fbin_of {op : BinOp} {k : FloatKind} {x y r : Nat} (h : floatBits op k x y = some r) (w : World) : fbin op k x y w = r := by
  unfold fbin; rw [h]
theorem fask_of {op : BinOp} {k : FloatKind} {x y r : Nat} (h : floatBits op k x y = some r) : fask op k x y = false := by
  unfold fask; rw [h]; rfl

/-- Whether the result is greater (and so on) hangs on no draw. -/
theorem bin_order_indep (op : BinOp) (k : FloatKind) (a x z : Nat) (w1 w2 : World) : k.format.order (fbin op k a x w1) z = k.format.order (fbin op k a x w2) z := by
  unfold fbin
  cases h : floatBits op k a x with
  | some r => rfl
  | none =>
    simp only [nanOf]
    rw [order_nan_left k _ z (isN_bin k a x _), order_nan_left k _ z (isN_bin k a x _)]

/-- Whole numbers from 0 to 40, in both precisions. -/
theorem small_ints : ∀ n : Fin 41, floatToFloatBits .f64 (floatOfInt .f64 (n.val : Int)) .f32 = some (floatOfInt .f32 (n.val : Int)) ∧ isN .f32 (floatOfInt .f32 (n.val : Int)) = false := by decide +kernel
theorem one_conv : floatToFloatBits .f64 4607182418800017408 .f32 = some 1065353216 := by decide +kernel
theorem zero_conv : floatToFloatBits .f32 0 .f64 = some 0 := by decide +kernel

/-- Two numbers of double precision that are the same: both NaN, or the same word. -/
def SameF (x y : Nat) : Prop := (isN .f64 x = true ∧ isN .f64 y = true) ∨ (isN .f64 x = false ∧ x = y)

end Go.Proofs.Ytopkehknaclhlaa
