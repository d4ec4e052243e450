/- Distances of points, plainly: determined bits, or a NaN; the nearest of a list. Plain facts; conditions: as each says. -/
import Derived.Test.YtopkehknaclhlaaTb
namespace Go.Proofs.Ytopkehknaclhlaa
open Go Ieee

theorem isN_le {x : Nat} (h : x % 2147483648 ≤ 2139095040) : isN .f32 x = false := by
  rcases Nat.lt_or_ge (x % 2147483648) 2139095040 with h1 | h1
  · exact fin_notN (by simpa [fin] using h1)
  · have h2 : single.signWeight = 2147483648 := by decide
    have h3 : single.binade = 8388608 := by decide
    have h4 : single.infRung = 2139095040 := by decide
    have e : x % 2147483648 = 2139095040 := by omega
    unfold isN FloatKind.decode Format.read
    simp only [FloatKind.format, h2, h3, h4]
    rw [if_neg (by omega), if_neg (by omega), if_pos e]
    rfl
theorem word_notN (s : Bool) {r : Nat} (h : r ≤ 2139095040) : isN .f32 (single.word s r) = false := by
  refine isN_le ?_
  have h2 : single.signWeight = 2147483648 := by decide
  unfold Format.word
  rw [h2]
  split <;> omega
theorem write_notN (d : Datum) (h : d.isNaN = false) : isN .f32 (single.write d) = false := by
  have h4 : single.infRung = 2139095040 := by decide
  cases d with
  | number s m p =>
    show isN .f32 (single.nearest s m p) = false
    unfold Format.nearest
    dsimp only
    split
    · exact word_notN s (by omega)
    · exact word_notN s (by rw [h4]; exact Nat.min_le_right _ _)
  | infinity s => exact word_notN s (by rw [h4]; exact Nat.le_refl _)
  | nan s t => cases h
theorem sum_notN {a b d : Datum} (h : a.sum b = some d) : d.isNaN = false := by
  cases a <;> cases b <;> simp only [Datum.sum] at h
  all_goals first | (cases h; done) | (split at h <;> first | (cases h; done) | (obtain rfl := Option.some.inj h; rfl)) | (obtain rfl := Option.some.inj h; rfl)
theorem product_notN {a b d : Datum} (h : a.product b = some d) : d.isNaN = false := by
  cases a <;> cases b <;> simp only [Datum.product] at h
  all_goals first | (cases h; done) | (split at h <;> first | (cases h; done) | (obtain rfl := Option.some.inj h; rfl)) | (obtain rfl := Option.some.inj h; rfl)
theorem map_write {o : Option Datum} {r : Nat} (h : o.map single.write = some r) (hn : ∀ d, o = some d → d.isNaN = false) : isN .f32 r = false := by
  cases o with
  | none => cases h
  | some d =>
    obtain rfl := Option.some.inj h
    exact write_notN d (hn d rfl)
theorem sub_notN {x y r : Nat} (h : floatBits .sub .f32 x y = some r) : isN .f32 r = false := map_write (h : ((single.read x).sum (single.read y).opposite).map single.write = some r) fun d hd => sum_notN hd
theorem add_notN {x y r : Nat} (h : floatBits .add .f32 x y = some r) : isN .f32 r = false := map_write (h : ((single.read x).sum (single.read y)).map single.write = some r) fun d hd => sum_notN hd
theorem mul_notN {x y r : Nat} (h : floatBits .mul .f32 x y = some r) : isN .f32 r = false := map_write (h : ((single.read x).product (single.read y)).map single.write = some r) fun d hd => product_notN hd

/-- An operation gives determined bits, or a NaN. -/
theorem fbin_none {op : BinOp} {x y : Nat} (h : floatBits op .f32 x y = none) (w : World) : isN .f32 (fbin op .f32 x y w) = true := by
  unfold fbin
  rw [h]
  exact isN_bin _ _ _ _
theorem fbin_nanL (op : BinOp) {x y : Nat} (h : isN .f32 x = true) (w : World) : isN .f32 (fbin op .f32 x y w) = true := fbin_none (floatBits_nan_left op .f32 x y h) w
theorem fbin_nanR (op : BinOp) {x y : Nat} (h : isN .f32 y = true) (w : World) : isN .f32 (fbin op .f32 x y w) = true := fbin_none (floatBits_nan_right op .f32 x y h) w

/-- The square of a distance, where it is determined. -/
def dO (p z : Nat × Nat) : Option Nat :=
  match floatBits .sub .f32 p.1 z.1, floatBits .sub .f32 p.2 z.2 with
  | some dx, some dy => match floatBits .mul .f32 dx dx, floatBits .mul .f32 dy dy with
    | some xx, some yy => floatBits .add .f32 xx yy
    | _, _ => none
  | _, _ => none
def DistV (o : Option Nat) (d : Nat) : Prop := match o with
  | some r => d = r ∧ isN .f32 r = false
  | none => isN .f32 d = true
theorem dist_val (p z : Nat × Nat) (w1 w2 w3 w4 w5 : World) :
    DistV (dO p z) (fbin .add .f32 (fbin .mul .f32 (fbin .sub .f32 p.1 z.1 w1) (fbin .sub .f32 p.1 z.1 w1) w3) (fbin .mul .f32 (fbin .sub .f32 p.2 z.2 w2) (fbin .sub .f32 p.2 z.2 w2) w4) w5) := by
  unfold dO
  cases h1 : floatBits .sub .f32 p.1 z.1 with
  | none => exact fbin_nanL _ (fbin_nanL _ (fbin_none h1 w1) w3) w5
  | some dx =>
    cases h2 : floatBits .sub .f32 p.2 z.2 with
    | none => exact fbin_nanR _ (fbin_nanL _ (fbin_none h2 w2) w4) w5
    | some dy =>
      rw [fbin_of h1, fbin_of h2]
      dsimp only
      cases h3 : floatBits .mul .f32 dx dx with
      | none => exact fbin_nanL _ (fbin_none h3 w3) w5
      | some xx =>
        cases h4 : floatBits .mul .f32 dy dy with
        | none => exact fbin_nanR _ (fbin_none h4 w4) w5
        | some yy =>
          rw [fbin_of h3, fbin_of h4]
          dsimp only
          cases h5 : floatBits .add .f32 xx yy with
          | none => exact fbin_none h5 w5
          | some r => exact ⟨fbin_of h5 w5, add_notN h5⟩

/-- Less, for numbers. -/
def ltD (x y : Nat) : Bool := FloatKind.f32.format.order x y == some .lt
def nrStep (z : Nat × Nat) (s : Int × Nat) (i : Nat) (p : Nat × Nat) : Int × Nat :=
  match dO p z with
  | none => s
  | some d => if s.1 < 0 ∨ ltD d s.2 = true then ((i : Int), d) else s
/-- The nearest one of the first k points: its index (-1: none) and its distance. -/
def nrTo (xs : List (Nat × Nat)) (z : Nat × Nat) : Nat → Int × Nat
  | 0 => (-1, 0)
  | k + 1 => nrStep z (nrTo xs z k) k (xs.getD k (0, 0))
theorem nrTo_range (xs : List (Nat × Nat)) (z : Nat × Nat) : ∀ k, -1 ≤ (nrTo xs z k).1 ∧ (nrTo xs z k).1 < (k : Int)
  | 0 => by simp [nrTo]
  | k + 1 => by
    have h := nrTo_range xs z k
    show -1 ≤ (nrStep z (nrTo xs z k) k (xs.getD k (0, 0))).1 ∧ (nrStep z (nrTo xs z k) k (xs.getD k (0, 0))).1 < ((k + 1 : Nat) : Int)
    unfold nrStep
    split
    · omega
    · split
      · show -1 ≤ (k : Int) ∧ (k : Int) < ((k + 1 : Nat) : Int)
        omega
      · omega
def nrI (xs : List (Nat × Nat)) (z : Nat × Nat) : Int := (nrTo xs z xs.length).1
theorem nrI_range (xs : List (Nat × Nat)) (z : Nat × Nat) : -1 ≤ nrI xs z ∧ nrI xs z < (xs.length : Int) := nrTo_range xs z xs.length
end Go.Proofs.Ytopkehknaclhlaa
