/- What the operations on floats and complex numbers give, whatever the operands: where the language leaves the result open the bits come off the tape. No condition. -/
import Derived.WalkKit
import Derived.WalkLawsBesides
import Derived.Deep.Draws
import Ieee.Arith
import Derived.Laws.FloatArith
import Derived.Test.YtopkehknaclhlaaProg
import Derived.Deep.QuietTactic
import Derived.BigQuiet
import Derived.WalkSpells
import Derived.Outline
namespace Go.Proofs.Ytopkehknaclhlaa
open Go

attribute [go_sem, simp] World.drewN_zero
theorem drewN_false (w : World) : w.drewN false.toNat = w := rfl
theorem drewN_true (w : World) : w.drewN true.toNat = w.drew := rfl

/-- The bits of a NaN that the tape gives. -/
def nanOf (q : Question) (w : World) : Nat := q.cut (w.tape w.drawn q)

/-- The result's bits of '+', '-', '*', '/'. -/
def fbin (op : BinOp) (k : FloatKind) (x y : Nat) (w : World) : Nat :=
  match floatBits op k x y with
  | some r => r
  | none => nanOf (.nanBits k x y) w
/-- Was the tape asked? -/
def fask (op : BinOp) (k : FloatKind) (x y : Nat) : Bool := (floatBits op k x y).isNone

section
variable {P : Program} (w : World)
theorem run_fbinAny (op : BinOp) (hop : op = .add ∨ op = .sub ∨ op = .mul ∨ op = .quo) (k : FloatKind) (x y : Nat) :
    (Op.floatArith op k x y).run P w = .ok (.float k (fbin op k x y w)) (w.drewN (fask op k x y).toNat) := by
  unfold fbin fask
  rcases hop with rfl | rfl | rfl | rfl <;> simp only [Op.floatArith, floatBits]
  · cases h : k.format.add x y <;> simp [Question.forced, nanOf, World.drew_is_drewN, World.drewN_zero]
  · cases h : k.format.sub x y <;> simp [Question.forced, nanOf, World.drew_is_drewN, World.drewN_zero]
  · cases h : k.format.mul x y <;> simp [Question.forced, nanOf, World.drew_is_drewN, World.drewN_zero]
  · cases h : k.format.div x y <;> simp [Question.forced, nanOf, World.drew_is_drewN, World.drewN_zero]
@[go_sem] theorem run_fadd (t : TypeId) (k : FloatKind) (x y : Nat) : (binOp .add t (.float k x) (.float k y)).run P w = .ok (.float k (fbin .add k x y w)) (w.drewN (fask .add k x y).toNat) := by
  simpa [binOp] using run_fbinAny (P := P) w .add (by simp) k x y
@[go_sem] theorem run_fsub (t : TypeId) (k : FloatKind) (x y : Nat) : (binOp .sub t (.float k x) (.float k y)).run P w = .ok (.float k (fbin .sub k x y w)) (w.drewN (fask .sub k x y).toNat) := by
  simpa [binOp] using run_fbinAny (P := P) w .sub (by simp) k x y
@[go_sem] theorem run_fmul (t : TypeId) (k : FloatKind) (x y : Nat) : (binOp .mul t (.float k x) (.float k y)).run P w = .ok (.float k (fbin .mul k x y w)) (w.drewN (fask .mul k x y).toNat) := by
  simpa [binOp] using run_fbinAny (P := P) w .mul (by simp) k x y
@[go_sem] theorem run_fquo (t : TypeId) (k : FloatKind) (x y : Nat) : (binOp .quo t (.float k x) (.float k y)).run P w = .ok (.float k (fbin .quo k x y w)) (w.drewN (fask .quo k x y).toNat) := by
  simpa [binOp] using run_fbinAny (P := P) w .quo (by simp) k x y
@[go_sem] theorem run_fneg (k : FloatKind) (b : Nat) : Op.unary .neg (.float k b) = pure (.float k (Op.negFloat k b)) := rfl
end

/-- A float of one kind as a float of another. -/
def fconv (s : FloatKind) (b : Nat) (k : FloatKind) (w : World) : Nat :=
  if s = k then b else
  match s.decode b with
  | .nan _ _ => nanOf (.nanConv k b) w
  | .infinity sg => k.encode (.infinity sg)
  | .number sg m e => if (k.decode (k.encode (.number sg m e))).isInfinity then nanOf (.floatToFloat b) w else k.encode (.number sg m e)
def fconvAsk (s : FloatKind) (b : Nat) (k : FloatKind) : Bool :=
  if s = k then false else
  match s.decode b with
  | .nan _ _ => true
  | .infinity _ => false
  | .number sg m e => (k.decode (k.encode (.number sg m e))).isInfinity

section
variable {P : Program} (w : World)
theorem run_fconvAny (s k : FloatKind) (b : Nat) : (Conv.floatToFloat s b k).run P w = .ok (.float k (fconv s b k w)) (w.drewN (fconvAsk s b k).toNat) := by
  unfold fconv fconvAsk Conv.floatToFloat
  by_cases e : s = k
  · simp [e, World.drewN_zero]
  · simp only [e, if_false]
    cases hd : s.decode b with
    | nan sg fr => simp [Question.forced, nanOf, World.drew_is_drewN]
    | infinity sg => simp [World.drewN_zero]
    | number sg m e' =>
      by_cases hi : (k.decode (k.encode (.number sg m e'))).isInfinity = true
      · simp [hi, Question.forced, nanOf, World.drew_is_drewN]
      · simp [hi, World.drewN_zero]
@[go_sem] theorem run_fconv (src dst : TypeId) (s k : FloatKind) (b : Nat) (hs : (P.underlying src).isSome = true) (hd : P.underlying dst = some (.float k)) :
    (convert src dst (.float s b)).run P w = .ok (.float k (fconv s b k w)) (w.drewN (fconvAsk s b k).toNat) := by
  obtain ⟨u, hs'⟩ := Option.isSome_iff_exists.1 hs
  have h := run_fconvAny (P := P) w s k b
  cases u <;> simp [convert, run_underlying hs', run_underlying hd, h]
@[go_sem] theorem run_cconv (src dst : TypeId) (s k : FloatKind) (a b : Nat) (hs : (P.underlying src).isSome = true) (hd : P.underlying dst = some (.complex k)) :
    (convert src dst (.complex s a b)).run P w = .ok (.complex k (fconv s a k w) (fconv s b k (w.drewN (fconvAsk s a k).toNat))) ((w.drewN (fconvAsk s a k).toNat).drewN (fconvAsk s b k).toNat) := by
  obtain ⟨u, hs'⟩ := Option.isSome_iff_exists.1 hs
  have h := run_fconvAny (P := P) w s k a
  have h' := run_fconvAny (P := P) (w.drewN (fconvAsk s a k).toNat) s k b
  cases u <;> simp [convert, run_underlying hs', run_underlying hd, Conv.complexToComplex, h, h']
@[go_sem] theorem run_ctoi (src dst : TypeId) (s : FloatKind) (k : IntKind) (b : Nat) (hs : (P.underlying src).isSome = true) (hd : P.underlying dst = some (.int k)) (n : Int) (h : floatToIntVal s b k = some n) :
    (convert src dst (.float s b)).run P w = .ok (.int k n) w := run_convert_float_int w src dst s k b n hs hd h
end
section
variable (P : Program) (w : World) (a : Addr) (m : Mode)
@[go_sem] theorem run_store_float (k : FloatKind) (b : Nat) : (store a (.float k b) m).run P w = stored P w a (.float k b) m := run_store P w a _ m rfl
@[go_sem] theorem run_store_complex (k : FloatKind) (x y : Nat) : (store a (.complex k x y) m).run P w = stored P w a (.complex k x y) m := run_store P w a _ m rfl
end
end Go.Proofs.Ytopkehknaclhlaa

/- Plain facts on IEEE words: what is a NaN, when two words are the same number, what a drawn NaN is. No condition. -/
namespace Go.Proofs.Ytopkehknaclhlaa
open Go Ieee

/-- Is the word a NaN? -/
def isN (k : FloatKind) (x : Nat) : Bool := (k.decode x).isNaN

theorem order_self (k : FloatKind) (x : Nat) : k.format.order x x = if isN k x then none else some .eq := by
  unfold Format.order isN FloatKind.decode
  cases h : k.format.read x with
  | number s m i => simp [Datum.order, Datum.isNaN]
  | infinity s => simp [Datum.order, Datum.isNaN]
  | nan s t => simp [Datum.order, Datum.isNaN]

theorem order_nan_left (k : FloatKind) (x y : Nat) (h : isN k x = true) : k.format.order x y = none := by
  unfold Format.order
  unfold isN FloatKind.decode at h
  cases hx : k.format.read x <;> simp_all [Datum.isNaN, Datum.order]

theorem order_nan_right (k : FloatKind) (x y : Nat) (h : isN k y = true) : k.format.order x y = none := by
  unfold Format.order
  unfold isN FloatKind.decode at h
  cases hx : k.format.read x <;> cases hy : k.format.read y <;> simp_all [Datum.isNaN, Datum.order]

/-- A sum, a difference, a product, a quotient with a NaN is invalid. -/
theorem floatBits_nan_left (op : BinOp) (k : FloatKind) (x y : Nat) (h : isN k x = true) : floatBits op k x y = none := by
  unfold isN FloatKind.decode at h
  cases hx : k.format.read x <;> simp_all [Datum.isNaN]
  unfold floatBits
  cases op <;> simp [Format.add, Format.sub, Format.mul, Format.div, hx, Datum.sum, Datum.product, Datum.quotient]

theorem floatBits_nan_right (op : BinOp) (k : FloatKind) (x y : Nat) (h : isN k y = true) : floatBits op k x y = none := by
  unfold isN FloatKind.decode at h
  cases hy : k.format.read y <;> simp_all [Datum.isNaN]
  unfold floatBits
  cases op <;> simp [Format.add, Format.sub, Format.mul, Format.div, hy, Datum.opposite] <;>
    (cases hx : k.format.read x <;> simp [Datum.sum, Datum.product, Datum.quotient])

theorem isN_f32 (s u : Nat) (hu : u < 2 ^ 23 - 1) : isN .f32 (s * 2 ^ 31 + 0x7f800000 + 1 + u) = true := by
  unfold isN FloatKind.decode Format.read
  have h1 : single.signWeight = 2147483648 := by decide
  have h2 : single.binade = 8388608 := by decide
  have h3 : single.infRung = 2139095040 := by decide
  simp only [FloatKind.format, h1, h2, h3]
  have e : (s * 2 ^ 31 + 0x7f800000 + 1 + u) % 2147483648 = 2139095041 + u := by omega
  rw [e, if_neg (by omega), if_neg (by omega), if_neg (by omega)]
  rfl

theorem isN_f64 (s u : Nat) (hu : u < 2 ^ 52 - 1) : isN .f64 (s * 2 ^ 63 + 0x7ff0000000000000 + 1 + u) = true := by
  unfold isN FloatKind.decode Format.read
  have h1 : double.signWeight = 9223372036854775808 := by decide
  have h2 : double.binade = 4503599627370496 := by decide
  have h3 : double.infRung = 9218868437227405312 := by decide
  simp only [FloatKind.format, h1, h2, h3]
  have e : (s * 2 ^ 63 + 0x7ff0000000000000 + 1 + u) % 9223372036854775808 = 9218868437227405313 + u := by omega
  rw [e, if_neg (by omega), if_neg (by omega), if_neg (by omega)]
  rfl

theorem isN_bin (k : FloatKind) (x y t : Nat) : isN k ((Question.nanBits k x y).cut t) = true := by
  cases k
  · exact isN_f32 (t % 2) _ (Nat.mod_lt _ (by omega))
  · exact isN_f64 (t % 2) _ (Nat.mod_lt _ (by omega))

theorem isN_conv (k : FloatKind) (x t : Nat) : isN k ((Question.nanConv k x).cut t) = true := by
  cases k
  · exact isN_f32 (t % 2) _ (Nat.mod_lt _ (by omega))
  · exact isN_f64 (t % 2) _ (Nat.mod_lt _ (by omega))

theorem cut_bin_lt32 (x y t : Nat) : (Question.nanBits .f32 x y).cut t < 4294967296 := by
  show t % 2 * 2 ^ 31 + 0x7f800000 + 1 + t / 2 % (2 ^ 23 - 1) < 4294967296
  have h1 := Nat.mod_lt t (show 0 < 2 by omega)
  have h2 := Nat.mod_lt (t / 2) (show 0 < 2 ^ 23 - 1 by omega)
  omega
theorem cut_conv_lt32 (x t : Nat) : (Question.nanConv .f32 x).cut t < 4294967296 := by
  show t % 2 * 2 ^ 31 + 0x7f800000 + 1 + t / 2 % (2 ^ 23 - 1) < 4294967296
  have h1 := Nat.mod_lt t (show 0 < 2 by omega)
  have h2 := Nat.mod_lt (t / 2) (show 0 < 2 ^ 23 - 1 by omega)
  omega
theorem lt32_of_wf {b : Nat} (h : (Lit.float .f32 b).wf = true) : b < 4294967296 := by
  simpa [Lit.wf] using h
theorem wf_of_lt32 {b : Nat} (h : b < 4294967296) : (Lit.float .f32 b).wf = true := by
  simpa [Lit.wf] using h

/-- The bits of a result of single precision fit 32 bits. -/
theorem fbin_lt (op : BinOp) (x y : Nat) (w : World) : fbin op .f32 x y w < 4294967296 := by
  unfold fbin
  split
  · rename_i r h; exact lt32_of_wf (floatBits_wf h)
  · exact cut_bin_lt32 _ _ _
theorem ofInt_lt (n : Int) : floatOfInt .f32 n < 4294967296 := lt32_of_wf (floatOfInt_wf _ _)
theorem fconv_lt (b : Nat) (w : World) : fconv .f64 b .f32 w < 4294967296 := by
  unfold fconv
  rw [if_neg (by decide)]
  split
  · exact cut_conv_lt32 _ _
  · exact lt32_of_wf (encode_wf _ _)
  · split
    · exact Nat.mod_lt _ (by omega)
    · exact lt32_of_wf (encode_wf _ _)
theorem neg_lt {b : Nat} (h : b < 4294967296) : Op.negFloat .f32 b < 4294967296 := by
  have e : Op.negFloat .f32 b = b ^^^ 2 ^ 31 := rfl
  rw [e]
  exact Nat.xor_lt_two_pow (n := 32) h (by decide)

/-- A conversion that is valid: no draw. -/
theorem fconv_of {s k : FloatKind} {b r : Nat} (h : floatToFloatBits s b k = some r) (w : World) : fconv s b k w = r := by
  unfold floatToFloatBits at h
  unfold fconv
  split at h
  · rename_i e; cases h; rw [if_pos e]
  · rename_i ne
    rw [if_neg ne]
    cases hd : s.decode b with
    | nan sg fr => simp [hd] at h
    | infinity sg => simp [hd] at h; simp [h]
    | number sg m e =>
      simp only [hd] at h
      split at h
      · cases h
      · rename_i ho; cases h; simp [ho]
theorem fconvAsk_of {s k : FloatKind} {b r : Nat} (h : floatToFloatBits s b k = some r) : fconvAsk s b k = false := by
  unfold floatToFloatBits at h
  unfold fconvAsk
  split at h
  · rename_i e; rw [if_pos e]
  · rename_i ne
    rw [if_neg ne]
    cases hd : s.decode b with
    | nan sg fr => simp [hd] at h
    | infinity sg => simp
    | number sg m e =>
      simp only [hd] at h
      split at h
      · cases h
      · rename_i ho; simpa using ho
theorem fbin_of {op : BinOp} {k : FloatKind} {x y r : Nat} (h : floatBits op k x y = some r) (w : World) : fbin op k x y w = r := by
  unfold fbin; rw [h]
theorem fask_of {op : BinOp} {k : FloatKind} {x y r : Nat} (h : floatBits op k x y = some r) : fask op k x y = false := by
  unfold fask; rw [h]; rfl

/-- Whether the result is greater (and so on) hangs on no draw. -/
theorem bin_order_indep (op : BinOp) (k : FloatKind) (a x z : Nat) (w1 w2 : World) : k.format.order (fbin op k a x w1) z = k.format.order (fbin op k a x w2) z := by
  unfold fbin
  cases h : floatBits op k a x with
  | some r => rfl
  | none =>
    simp only [nanOf]
    rw [order_nan_left k _ z (isN_bin k a x _), order_nan_left k _ z (isN_bin k a x _)]

/-- Whole numbers from 0 to 40, in both precisions. -/
theorem small_ints : ∀ n : Fin 41, floatToFloatBits .f64 (floatOfInt .f64 (n.val : Int)) .f32 = some (floatOfInt .f32 (n.val : Int)) ∧ isN .f32 (floatOfInt .f32 (n.val : Int)) = false := by decide +kernel
theorem one_conv : floatToFloatBits .f64 4607182418800017408 .f32 = some 1065353216 := by decide +kernel
theorem zero_conv : floatToFloatBits .f32 0 .f64 = some 0 := by decide +kernel

/-- Two numbers of double precision that are the same: both NaN, or the same word. -/
def SameF (x y : Nat) : Prop := (isN .f64 x = true ∧ isN .f64 y = true) ∨ (isN .f64 x = false ∧ x = y)

end Go.Proofs.Ytopkehknaclhlaa

/- Words for what a call does to memory: which old blocks it may change; blocks known whole; a cursor over bytes. Plain facts, no condition. -/
namespace Go.Proofs.Ytopkehknaclhlaa
open Go Go.RowKit

/-- A fact kept from the walk. -/
theorem hid {p : Prop} (h : p) : Hid p := h

theorem i64_and255 (n : Int) : bits .and .i64 n 255 = n % 256 := by
  have h : (BitVec.ofInt 64 255).toNat = 2 ^ 8 - 1 := by decide
  have key : (BitVec.ofInt 64 n &&& BitVec.ofInt 64 255).toNat = (n % ((2 ^ 64 : Nat) : Int)).toNat % 2 ^ 8 := by
    rw [BitVec.toNat_and, BitVec.toNat_ofInt, h, Nat.and_two_pow_sub_one_eq_mod]
  show IntKind.i64.wrap ((BitVec.ofInt 64 n &&& BitVec.ofInt 64 255).toNat : Nat) = n % 256
  rw [key, IntKind.wrap_i64]
  omega

/-- Of the blocks that were there only those of S may have turned. -/
structure Chg (S : Nat → Prop) (w w' : World) : Prop where
  os : w'.os = w.os
  tape : w'.tape = w.tape
  output : w'.output = w.output
  size : w.heap.size ≤ w'.heap.size
  block : ∀ k, k < w.heap.size → ¬ S k → w'.heap[k]? = w.heap[k]?

namespace Chg
variable {S T : Nat → Prop} {a b c w w' : World}
theorem refl (S : Nat → Prop) (w : World) : Chg S w w := ⟨rfl, rfl, rfl, Nat.le_refl _, fun _ _ _ => rfl⟩
theorem trans (h : Chg S a b) (k : Chg T b c) (hT : ∀ n, n < a.heap.size → T n → S n) : Chg S a c :=
  ⟨k.os.trans h.os, k.tape.trans h.tape, k.output.trans h.output, Nat.le_trans h.size k.size,
   fun n hn hs => (k.block n (Nat.lt_of_lt_of_le hn h.size) fun ht => hs (hT n hn ht)).trans (h.block n hn hs)⟩
theorem mono (h : Chg T a b) (hT : ∀ n, n < a.heap.size → T n → S n) : Chg S a b := (refl S a).trans h hT
theorem drew (h : Chg S a b) : Chg S a b.drew := ⟨h.os, h.tape, h.output, h.size, h.block⟩
theorem drewN (h : Chg S a b) (n : Nat) : Chg S a (b.drewN n) := ⟨h.os, h.tape, h.output, h.size, h.block⟩
theorem alloc (h : Chg S a b) (o : Obj) : Chg S a (b.alloc o) :=
  h.trans (T := fun _ => False) ⟨rfl, rfl, rfl, by simp, fun k hk _ => Below.heap_alloc _ _ _ hk⟩ (fun _ _ x => x.elim)
theorem setCell (h : Chg S a b) {p : Addr} (hp : S p.block ∨ a.heap.size ≤ p.block) (u : Value) : Chg S a (b.setCell p u) :=
  h.trans (T := fun k => k = p.block) ⟨rfl, rfl, rfl, by simp, fun k _ hk => Below.heap_setCell _ _ _ _ hk⟩ (fun n hn e => by
    subst e
    rcases hp with hp | hp
    · exact hp
    · omega)
theorem of_below (h : Below w.heap.size w w') : Chg S w w' := ⟨h.os, h.tape, h.output, h.size, fun k hk _ => h.block k hk⟩
theorem of_grown {r : Option Nat} (h : w.grownBy w' r) (hr : ∀ n, some n = r → n < w.heap.size → S n) : Chg S w w' :=
  ⟨h.os, h.tape, h.output, h.size, fun k hk hs => h.block k hk fun e => hs (hr k e hk)⟩
theorem below (h : Chg (fun _ => False) w w') : Below w.heap.size w w' := ⟨h.os, h.tape, h.output, h.size, fun k hk => h.block k hk id⟩
theorem heap (h : Chg S w w') {k : Nat} {o : Obj} (ho : w.heap[k]? = some o) (hs : ¬ S k) : w'.heap[k]? = some o := by
  have hk : k < w.heap.size := by
    rcases Nat.lt_or_ge k w.heap.size with hk | hk
    · exact hk
    · simp [Array.getElem?_eq_none hk] at ho
  rw [h.block k hk hs, ho]
theorem cell (h : Chg S w w') {p : Addr} {v : Value} (hv : w.cell? p = some v) (hs : ¬ S p.block) : w'.cell? p = some v := by
  have hk : p.block < w.heap.size := World.block_lt_of_cell? _ _ hv
  rw [World.cell?_of_block (h.block p.block hk hs), hv]
end Chg

theorem heap_set {w : World} {c k : Nat} {arr : Array Value} {T : TypeId} {f : Nat × Nat} {v : Value} (h : w.heap[c]? = some (.cells arr T f)) :
    (w.setCell ⟨c, k, none⟩ v).heap[c]? = some (.cells (arr.setIfInBounds k v) T f) := by
  simp [World.setCell, Array.getElem?_modify, h]

theorem heap_new (w : World) (o : Obj) : (w.alloc o).heap[w.heap.size]? = some o := by
  show (w.heap.push o)[w.heap.size]? = some o
  simp

theorem heap_new' {w : World} {o : Obj} {b : Nat} (h : b = w.heap.size) : (w.alloc o).heap[b]? = some o := by
  subst h
  exact heap_new w o

theorem heap_old {w : World} {o o' : Obj} {b : Nat} (h : w.heap[b]? = some o) : (w.alloc o').heap[b]? = some o := by
  have hb : b < w.heap.size := by
    rcases Nat.lt_or_ge b w.heap.size with hk | hk
    · exact hk
    · simp [Array.getElem?_eq_none hk] at h
  rw [Below.heap_alloc _ _ _ hb, h]

theorem heap_lt {w : World} {k : Nat} {o : Obj} (h : w.heap[k]? = some o) : k < w.heap.size := by
  rcases Nat.lt_or_ge k w.heap.size with hk | hk
  · exact hk
  · simp [Array.getElem?_eq_none hk] at h

theorem cell_at {w : World} {c k : Nat} {arr : Array Value} {T : TypeId} {f : Nat × Nat} (h : w.heap[c]? = some (.cells arr T f)) : w.cell? ⟨c, k, none⟩ = arr[k]? := by
  simp [World.cell?, h]
theorem cells_at {w : World} {c : Nat} {arr : Array Value} {T : TypeId} {f : Nat × Nat} (h : w.heap[c]? = some (.cells arr T f)) : ∀ k, w.cell? ⟨c, k, none⟩ = arr[k]? := fun _ => cell_at h
theorem frees_at {w : World} {c : Nat} {arr : Array Value} {T : TypeId} (h : w.heap[c]? = some (.cells arr T (0, 0))) : ∀ k, w.frozen? ⟨c, k, none⟩ = false := fun k => by simp [World.frozen?, h]
theorem free_at {w : World} {c k : Nat} {arr : Array Value} {T : TypeId} (h : w.heap[c]? = some (.cells arr T (0, 0))) : w.frozen? ⟨c, k, none⟩ = false := by
  simp [World.frozen?, h]

/-- A slice of bytes that lies below block B. -/
def Bytes0 (w : World) (B : Nat) (a : Option Addr) (len cap : Nat) : Prop :=
  len ≤ cap ∧ len ≤ 9223372036854775807 ∧ ∀ k, k < len → ∃ b off z, a = some ⟨b, off, none⟩ ∧ b < B ∧ w.cell? ⟨b, off + k, none⟩ = some (.int .u8 z) ∧ 0 ≤ z ∧ z ≤ 255

/-- .. of at most 2^20 bytes. -/
def Bytes (w : World) (B : Nat) (a : Option Addr) (len cap : Nat) : Prop :=
  len ≤ cap ∧ len ≤ 1048576 ∧ ∀ k, k < len → ∃ b off z, a = some ⟨b, off, none⟩ ∧ b < B ∧ w.cell? ⟨b, off + k, none⟩ = some (.int .u8 z) ∧ 0 ≤ z ∧ z ≤ 255

/-- Block c is a cursor over bytes that lie below it. -/
def Cur (w : World) (c : Nat) : Prop :=
  ∃ a len cap i h, w.heap[c]? = some (.cells #[.slice a len cap, .int .i64 ((i : Nat) : Int), .int .i64 h] 158 (0, 0)) ∧ i ≤ len ∧ Bytes w c a len cap

theorem Bytes.chg {S : Nat → Prop} {w w' : World} {B : Nat} {a : Option Addr} {len cap : Nat} (h : Bytes w B a len cap) (g : Chg S w w') (hS : ∀ n, n < B → ¬ S n) : Bytes w' B a len cap :=
  ⟨h.1, h.2.1, fun k hk => by
    obtain ⟨b, off, z, e, hb, hz, h0⟩ := h.2.2 k hk
    exact ⟨b, off, z, e, hb, g.cell hz (hS b hb), h0⟩⟩

theorem Bytes0.of_row {w : World} {x : Addr} {len cap : Nat} {zs : List Int} (hl : len ≤ cap) (hm : cap ≤ maxLen) (hz : zs.length = cap) (hcell : ∀ i, i < zs.length → w.cell? (x.add i) = some (.int .u8 (zs.getD i 0))) (hwz : ∀ n ∈ zs, (Lit.int .u8 n).wf = true) :
    Bytes0 w w.heap.size (some x) len cap := by
  refine ⟨hl, by unfold maxLen at hm; omega, fun k hk => ?_⟩
  have hc := hcell k (by omega)
  obtain ⟨b, off, spot⟩ := x
  have hspot : spot = none := by
    have h := World.cell?_spot (hcell 0 (by omega))
    simpa [Addr.add] using h
  subst hspot
  rw [Addr.add_lit] at hc
  have hwf := hwz (zs.getD k 0) (by
    have hk' : k < zs.length := by omega
    simp [List.getD, hk'])
  have hr : 0 ≤ zs.getD k 0 ∧ zs.getD k 0 ≤ 255 := by simpa [Lit.wf, IntKind.min, IntKind.max, IntKind.signed, IntKind.bits] using hwf
  exact ⟨b, off, zs.getD k 0, rfl, World.block_lt_of_cell? _ _ hc, hc, hr⟩

/-- What a law's walk comes to: true; nothing that was there has turned. -/
def LawPost (w : World) (e : Ending) (w' : World) : Prop := e = .returned (.bool true) ∧ Chg (fun _ => False) w w'

/-- A cursor outlives what turns blocks behind it alone. -/
theorem Cur.chg {S : Nat → Prop} {w w' : World} {c : Nat} (h : Cur w c) (g : Chg S w w') (hS : ∀ n, n ≤ c → ¬ S n) : Cur w' c := by
  obtain ⟨a, len, cap, i, h, hb, hi, hy⟩ := h
  exact ⟨a, len, cap, i, h, g.heap hb (hS c (Nat.le_refl _)), hi, hy.chg g fun n hn => hS n (Nat.le_of_lt hn)⟩

theorem Cur.lt {w : World} {c : Nat} (h : Cur w c) : c < w.heap.size := by
  obtain ⟨_, _, _, _, _, hb, _⟩ := h
  exact heap_lt hb

/-- A number from lo to hi comes back; the cursor moves. -/
def RI (w : World) (c : Nat) (lo hi : Int) (e : Ending) (w' : World) : Prop :=
  ∃ x : Int, lo ≤ x ∧ x ≤ hi ∧ e = .returned (.int .i64 x) ∧ Cur w' c ∧ Chg (fun k => k = c) w w'

theorem RI.mk {w W : World} {c : Nat} {lo hi x : Int} {a : Option Addr} {len cap i : Nat} {h : Int} (hx : lo ≤ x ∧ x ≤ hi) (g : Chg (fun k => k = c) w W)
    (hb : W.heap[c]? = some (.cells #[.slice a len cap, .int .i64 ((i : Nat) : Int), .int .i64 h] 158 (0, 0))) (hi' : i ≤ len) (hy : Bytes w c a len cap) :
    RI w c lo hi (.returned (.int .i64 x)) W :=
  ⟨x, hx.1, hx.2, rfl, ⟨a, len, cap, i, h, hb, hi', hy.chg g fun n hn => by omega⟩, g⟩

/-- A bool comes back; the cursor moves. -/
def RB (w : World) (c : Nat) (e : Ending) (w' : World) : Prop :=
  ∃ x : Bool, e = .returned (.bool x) ∧ Cur w' c ∧ Chg (fun k => k = c) w w'

/-- A pointer to a new cursor comes back. -/
def RCur (w : World) (e : Ending) (w' : World) : Prop :=
  ∃ c, w.heap.size ≤ c ∧ e = .returned (.pointer (some ⟨c, 0, none⟩)) ∧ Cur w' c ∧ Chg (fun _ => False) w w'

/-- One of the list's numbers comes back; the cursor moves. -/
def ROne (w : World) (c : Nat) (zs : List Int) (e : Ending) (w' : World) : Prop :=
  ∃ x : Int, x ∈ zs ∧ e = .returned (.int .i64 x) ∧ Cur w' c ∧ Chg (fun k => k = c) w w'

/-- A number of single precision comes back; the cursor moves. -/
def RF (w : World) (c : Nat) (e : Ending) (w' : World) : Prop :=
  ∃ b : Nat, b < 4294967296 ∧ e = .returned (.float .f32 b) ∧ Cur w' c ∧ Chg (fun k => k = c) w w'

/-- A complex number comes back; the cursor moves. -/
def RC (w : World) (c : Nat) (e : Ending) (w' : World) : Prop :=
  ∃ a b : Nat, a < 4294967296 ∧ b < 4294967296 ∧ e = .returned (.complex .f32 a b) ∧ Cur w' c ∧ Chg (fun k => k = c) w w'

/-- 'float32(n)' of a whole number n from lo to hi. -/
def RSmall (w : World) (c : Nat) (e : Ending) (w' : World) : Prop :=
  ∃ x y : Int, -3 ≤ x ∧ x ≤ 3 ∧ -3 ≤ y ∧ y ≤ 3 ∧ e = .returned (.complex .f32 (floatOfInt .f32 x) (floatOfInt .f32 y)) ∧ Cur w' c ∧ Chg (fun k => k = c) w w'

/-- Some number of single precision and a bool come back; at most the tape was asked. -/
def RFany (w : World) (e : Ending) (w' : World) : Prop :=
  ∃ (b : Nat) (t : Bool) (n : Nat), b < 4294967296 ∧ e = .returned (.tuple #[.float .f32 b, .bool t]) ∧ w' = w.drewN n

theorem Cur.drewN {w : World} {c : Nat} (h : Cur w c) (n : Nat) : Cur (w.drewN n) c := h
theorem Cur.alloc {w : World} {c : Nat} (h : Cur w c) (o : Obj) : Cur (w.alloc o) c := h.chg ((Chg.refl (fun _ => False) w).alloc o) fun _ _ x => x

end Go.Proofs.Ytopkehknaclhlaa
