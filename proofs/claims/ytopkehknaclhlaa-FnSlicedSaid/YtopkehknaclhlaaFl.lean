/- What the operations on floats and complex numbers give, whatever the operands: where the language leaves the result open the bits come off the tape. No condition. -/
import Derived.WalkKit
import Derived.WalkLawsBesides
import Derived.Deep.Draws
namespace Go.Proofs.Ytopkehknaclhlaa
open Go

attribute [go_sem, simp] World.drewN_zero
theorem drewN_false (w : World) : w.drewN false.toNat = w := rfl
theorem drewN_true (w : World) : w.drewN true.toNat = w.drew := rfl

/-- The bits of a NaN that the tape gives. -/
def nanOf (q : Question) (w : World) : Nat := q.cut (w.tape w.drawn q)

/-- The result's bits of '+', '-', '*', '/'. -/
def fbin (op : BinOp) (k : FloatKind) (x y : Nat) (w : World) : Nat :=
  match floatBits op k x y with
  | some r => r
  | none => nanOf (.nanBits k x y) w
/-- Was the tape asked? -/
def fask (op : BinOp) (k : FloatKind) (x y : Nat) : Bool := (floatBits op k x y).isNone

section
variable {P : Program} (w : World)
theorem run_fbinAny (op : BinOp) (hop : op = .add ∨ op = .sub ∨ op = .mul ∨ op = .quo) (k : FloatKind) (x y : Nat) :
    (Op.floatArith op k x y).run P w = .ok (.float k (fbin op k x y w)) (w.drewN (fask op k x y).toNat) := by
  unfold fbin fask
  rcases hop with rfl | rfl | rfl | rfl <;> simp only [Op.floatArith, floatBits]
  · cases h : k.format.add x y <;> simp [Question.forced, nanOf, World.drew_is_drewN, World.drewN_zero]
  · cases h : k.format.sub x y <;> simp [Question.forced, nanOf, World.drew_is_drewN, World.drewN_zero]
  · cases h : k.format.mul x y <;> simp [Question.forced, nanOf, World.drew_is_drewN, World.drewN_zero]
  · cases h : k.format.div x y <;> simp [Question.forced, nanOf, World.drew_is_drewN, World.drewN_zero]
@[go_sem] theorem run_fadd (t : TypeId) (k : FloatKind) (x y : Nat) : (binOp .add t (.float k x) (.float k y)).run P w = .ok (.float k (fbin .add k x y w)) (w.drewN (fask .add k x y).toNat) := by
  simpa [binOp] using run_fbinAny (P := P) w .add (by simp) k x y
@[go_sem] theorem run_fsub (t : TypeId) (k : FloatKind) (x y : Nat) : (binOp .sub t (.float k x) (.float k y)).run P w = .ok (.float k (fbin .sub k x y w)) (w.drewN (fask .sub k x y).toNat) := by
  simpa [binOp] using run_fbinAny (P := P) w .sub (by simp) k x y
@[go_sem] theorem run_fmul (t : TypeId) (k : FloatKind) (x y : Nat) : (binOp .mul t (.float k x) (.float k y)).run P w = .ok (.float k (fbin .mul k x y w)) (w.drewN (fask .mul k x y).toNat) := by
  simpa [binOp] using run_fbinAny (P := P) w .mul (by simp) k x y
@[go_sem] theorem run_fquo (t : TypeId) (k : FloatKind) (x y : Nat) : (binOp .quo t (.float k x) (.float k y)).run P w = .ok (.float k (fbin .quo k x y w)) (w.drewN (fask .quo k x y).toNat) := by
  simpa [binOp] using run_fbinAny (P := P) w .quo (by simp) k x y
@[go_sem] theorem run_fneg (k : FloatKind) (b : Nat) : Op.unary .neg (.float k b) = pure (.float k (Op.negFloat k b)) := rfl
end

/-- A float of one kind as a float of another. -/
def fconv (s : FloatKind) (b : Nat) (k : FloatKind) (w : World) : Nat :=
  if s = k then b else
  match s.decode b with
  | .nan _ _ => nanOf (.nanConv k b) w
  | .infinity sg => k.encode (.infinity sg)
  | .number sg m e => if (k.decode (k.encode (.number sg m e))).isInfinity then nanOf (.floatToFloat b) w else k.encode (.number sg m e)
def fconvAsk (s : FloatKind) (b : Nat) (k : FloatKind) : Bool :=
  if s = k then false else
  match s.decode b with
  | .nan _ _ => true
  | .infinity _ => false
  | .number sg m e => (k.decode (k.encode (.number sg m e))).isInfinity

section
variable {P : Program} (w : World)
theorem run_fconvAny (s k : FloatKind) (b : Nat) : (Conv.floatToFloat s b k).run P w = .ok (.float k (fconv s b k w)) (w.drewN (fconvAsk s b k).toNat) := by
  unfold fconv fconvAsk Conv.floatToFloat
  by_cases e : s = k
  · simp [e, World.drewN_zero]
  · simp only [e, if_false]
    cases hd : s.decode b with
    | nan sg fr => simp [Question.forced, nanOf, World.drew_is_drewN]
    | infinity sg => simp [World.drewN_zero]
    | number sg m e' =>
      by_cases hi : (k.decode (k.encode (.number sg m e'))).isInfinity = true
      · simp [hi, Question.forced, nanOf, World.drew_is_drewN]
      · simp [hi, World.drewN_zero]
@[go_sem] theorem run_fconv (src dst : TypeId) (s k : FloatKind) (b : Nat) (hs : (P.underlying src).isSome = true) (hd : P.underlying dst = some (.float k)) :
    (convert src dst (.float s b)).run P w = .ok (.float k (fconv s b k w)) (w.drewN (fconvAsk s b k).toNat) := by
  obtain ⟨u, hs'⟩ := Option.isSome_iff_exists.1 hs
  have h := run_fconvAny (P := P) w s k b
  cases u <;> simp [convert, run_underlying hs', run_underlying hd, h]
@[go_sem] theorem run_cconv (src dst : TypeId) (s k : FloatKind) (a b : Nat) (hs : (P.underlying src).isSome = true) (hd : P.underlying dst = some (.complex k)) :
    (convert src dst (.complex s a b)).run P w = .ok (.complex k (fconv s a k w) (fconv s b k (w.drewN (fconvAsk s a k).toNat))) ((w.drewN (fconvAsk s a k).toNat).drewN (fconvAsk s b k).toNat) := by
  obtain ⟨u, hs'⟩ := Option.isSome_iff_exists.1 hs
  have h := run_fconvAny (P := P) w s k a
  have h' := run_fconvAny (P := P) (w.drewN (fconvAsk s a k).toNat) s k b
  cases u <;> simp [convert, run_underlying hs', run_underlying hd, Conv.complexToComplex, h, h']
@[go_sem] theorem run_ctoi (src dst : TypeId) (s : FloatKind) (k : IntKind) (b : Nat) (hs : (P.underlying src).isSome = true) (hd : P.underlying dst = some (.int k)) (n : Int) (h : floatToIntVal s b k = some n) :
    (convert src dst (.float s b)).run P w = .ok (.int k n) w := run_convert_float_int w src dst s k b n hs hd h
end
section
variable (P : Program) (w : World) (a : Addr) (m : Mode)
@[go_sem] theorem run_store_float (k : FloatKind) (b : Nat) : (store a (.float k b) m).run P w = stored P w a (.float k b) m := run_store P w a _ m rfl
@[go_sem] theorem run_store_complex (k : FloatKind) (x y : Nat) : (store a (.complex k x y) m).run P w = stored P w a (.complex k x y) m := run_store P w a _ m rfl
end
end Go.Proofs.Ytopkehknaclhlaa
