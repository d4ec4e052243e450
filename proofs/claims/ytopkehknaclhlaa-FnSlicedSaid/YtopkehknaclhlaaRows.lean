/-
  No cell of these rows narrows 'for every input' (looked for: loops, veiled, ifaces, maps, wideKeys, modest, calm, conditions, laid).
  DERIVED. THE GIVEN ROWS OF THIS SEAT. 17 by the template 'for every input the law returns true; each argument reads behind the call as it read before'; 0 by the template 'total and deterministic' (their statements: YtopkehknaclhlaaTotals.lean).
  GIVEN WITH THE SEED: the statements are not yours to turn. If you find one false, say at which input.
  Laid BY PROGRAM, IN A SANDBOX (cutbox-rows.mjs): the forced cells as the released guide's own fill.sh prints them over the translation 4b8618ffe3b29f4d… (all of the seat's roots in one cut). By AI agents, Wed Nov 11 2026. No macro, syntax, notation, axiom, sorry.
-/
import Derived.Test.YtopkehknaclhlaaChecked
import GoSem.Claim
import GoSem.ClaimJoined
import GoSem.ClaimMapViews
import Derived.JoinedTies
import Derived.KernelRfl
namespace Go.Proofs.Ytopkehknaclhlaa
/- THE CELL 'sum', in the pinned program and in every row, IS THE sha256 OF THE DUMP (.gsa) THAT YtopkehknaclhlaaProg.lean LOADS. Nothing in Lean hashes anything: it is a label: what it is worth is what the hold of that sum in a sandbox is worth. -/
noncomputable def Try.pinned : Pinned := { name := "ytopkehknaclhlaa", sum := "4b8618ffe3b29f4d7efc63a94be1b8da757fa9b93bd554bd561b44d7080b6fe4", checked := Try.checked }
namespace Rows
def none {H : Type} : Left H := { results := [], args := [] }

/-- 'laws.FnExactPowersOf': WHATEVER THE INPUT: true; the input reads as it did. -/
def fnExactPowersOfSpec : ChangeSpec := { name := "fnExactPowersOf", fn := fun _ => fun
  | [d] => { results := [.lit (.bool true)], args := [d] }
  | _ => none }
def fnExactPowersOfRow : OpenClaim := { program := "ytopkehknaclhlaa", sum := "4b8618ffe3b29f4d7efc63a94be1b8da757fa9b93bd554bd561b44d7080b6fe4", func := "loop.example/g03223/laws.FnExactPowersOf", spec := "fnExactPowersOf", apart := false }
def FnExactPowersOfSaid : Prop := fnExactPowersOfRow.holds Try.pinned (OpenSpec.ofChange fnExactPowersOfSpec)

/-- ITS FALSE NEIGHBOUR: 'it returns false'. Refute it at one input. -/
def fnExactPowersOfWrong : ChangeSpec := { name := "fnExactPowersOf", fn := fun _ => fun
  | [d] => { results := [.lit (.bool false)], args := [d] }
  | _ => none }
def FnExactPowersOfWrongFalsely : Prop := fnExactPowersOfRow.holds Try.pinned (OpenSpec.ofChange fnExactPowersOfWrong)

/-- 'laws.FnExactNewRing': WHATEVER THE INPUT: true; the input reads as it did. -/
def fnExactNewRingSpec : ChangeSpec := { name := "fnExactNewRing", fn := fun _ => fun
  | [d] => { results := [.lit (.bool true)], args := [d] }
  | _ => none }
def fnExactNewRingRow : OpenClaim := { program := "ytopkehknaclhlaa", sum := "4b8618ffe3b29f4d7efc63a94be1b8da757fa9b93bd554bd561b44d7080b6fe4", func := "loop.example/g03223/laws.FnExactNewRing", spec := "fnExactNewRing", apart := false }
def FnExactNewRingSaid : Prop := fnExactNewRingRow.holds Try.pinned (OpenSpec.ofChange fnExactNewRingSpec)

/-- ITS FALSE NEIGHBOUR: 'it returns false'. Refute it at one input. -/
def fnExactNewRingWrong : ChangeSpec := { name := "fnExactNewRing", fn := fun _ => fun
  | [d] => { results := [.lit (.bool false)], args := [d] }
  | _ => none }
def FnExactNewRingWrongFalsely : Prop := fnExactNewRingRow.holds Try.pinned (OpenSpec.ofChange fnExactNewRingWrong)

/-- 'laws.FnExactNewGain': WHATEVER THE INPUT: true; the input reads as it did. -/
def fnExactNewGainSpec : ChangeSpec := { name := "fnExactNewGain", fn := fun _ => fun
  | [d] => { results := [.lit (.bool true)], args := [d] }
  | _ => none }
def fnExactNewGainRow : OpenClaim := { program := "ytopkehknaclhlaa", sum := "4b8618ffe3b29f4d7efc63a94be1b8da757fa9b93bd554bd561b44d7080b6fe4", func := "loop.example/g03223/laws.FnExactNewGain", spec := "fnExactNewGain", apart := false }
def FnExactNewGainSaid : Prop := fnExactNewGainRow.holds Try.pinned (OpenSpec.ofChange fnExactNewGainSpec)

/-- ITS FALSE NEIGHBOUR: 'it returns false'. Refute it at one input. -/
def fnExactNewGainWrong : ChangeSpec := { name := "fnExactNewGain", fn := fun _ => fun
  | [d] => { results := [.lit (.bool false)], args := [d] }
  | _ => none }
def FnExactNewGainWrongFalsely : Prop := fnExactNewGainRow.holds Try.pinned (OpenSpec.ofChange fnExactNewGainWrong)

/-- 'laws.FnExactNewMeter': WHATEVER THE INPUT: true; the input reads as it did. -/
def fnExactNewMeterSpec : ChangeSpec := { name := "fnExactNewMeter", fn := fun _ => fun
  | [] => { results := [.lit (.bool true)], args := [] }
  | _ => none }
def fnExactNewMeterRow : OpenClaim := { program := "ytopkehknaclhlaa", sum := "4b8618ffe3b29f4d7efc63a94be1b8da757fa9b93bd554bd561b44d7080b6fe4", func := "loop.example/g03223/laws.FnExactNewMeter", spec := "fnExactNewMeter", apart := false }
def FnExactNewMeterSaid : Prop := fnExactNewMeterRow.holds Try.pinned (OpenSpec.ofChange fnExactNewMeterSpec)

/-- ITS FALSE NEIGHBOUR: 'it returns false'. Refute it at one input. -/
def fnExactNewMeterWrong : ChangeSpec := { name := "fnExactNewMeter", fn := fun _ => fun
  | [] => { results := [.lit (.bool false)], args := [] }
  | _ => none }
def FnExactNewMeterWrongFalsely : Prop := fnExactNewMeterRow.holds Try.pinned (OpenSpec.ofChange fnExactNewMeterWrong)

/-- 'laws.FnExactNewSum': WHATEVER THE INPUT: true; the input reads as it did. -/
def fnExactNewSumSpec : ChangeSpec := { name := "fnExactNewSum", fn := fun _ => fun
  | [] => { results := [.lit (.bool true)], args := [] }
  | _ => none }
def fnExactNewSumRow : OpenClaim := { program := "ytopkehknaclhlaa", sum := "4b8618ffe3b29f4d7efc63a94be1b8da757fa9b93bd554bd561b44d7080b6fe4", func := "loop.example/g03223/laws.FnExactNewSum", spec := "fnExactNewSum", apart := false }
def FnExactNewSumSaid : Prop := fnExactNewSumRow.holds Try.pinned (OpenSpec.ofChange fnExactNewSumSpec)

/-- ITS FALSE NEIGHBOUR: 'it returns false'. Refute it at one input. -/
def fnExactNewSumWrong : ChangeSpec := { name := "fnExactNewSum", fn := fun _ => fun
  | [] => { results := [.lit (.bool false)], args := [] }
  | _ => none }
def FnExactNewSumWrongFalsely : Prop := fnExactNewSumRow.holds Try.pinned (OpenSpec.ofChange fnExactNewSumWrong)

/-- 'laws.FnExactNewHold': WHATEVER THE INPUT: true; the input reads as it did. -/
def fnExactNewHoldSpec : ChangeSpec := { name := "fnExactNewHold", fn := fun _ => fun
  | [d] => { results := [.lit (.bool true)], args := [d] }
  | _ => none }
def fnExactNewHoldRow : OpenClaim := { program := "ytopkehknaclhlaa", sum := "4b8618ffe3b29f4d7efc63a94be1b8da757fa9b93bd554bd561b44d7080b6fe4", func := "loop.example/g03223/laws.FnExactNewHold", spec := "fnExactNewHold", inPlace := ["math.Float32bits"], unfollowed := true, recurses := true, apart := false }
def FnExactNewHoldSaid : Prop := fnExactNewHoldRow.holds Try.pinned (OpenSpec.ofChange fnExactNewHoldSpec)

/-- ITS FALSE NEIGHBOUR: 'it returns false'. Refute it at one input. -/
def fnExactNewHoldWrong : ChangeSpec := { name := "fnExactNewHold", fn := fun _ => fun
  | [d] => { results := [.lit (.bool false)], args := [d] }
  | _ => none }
def FnExactNewHoldWrongFalsely : Prop := fnExactNewHoldRow.holds Try.pinned (OpenSpec.ofChange fnExactNewHoldWrong)

/-- 'laws.FnExactNewDelay': WHATEVER THE INPUT: true; the input reads as it did. -/
def fnExactNewDelaySpec : ChangeSpec := { name := "fnExactNewDelay", fn := fun _ => fun
  | [d] => { results := [.lit (.bool true)], args := [d] }
  | _ => none }
def fnExactNewDelayRow : OpenClaim := { program := "ytopkehknaclhlaa", sum := "4b8618ffe3b29f4d7efc63a94be1b8da757fa9b93bd554bd561b44d7080b6fe4", func := "loop.example/g03223/laws.FnExactNewDelay", spec := "fnExactNewDelay", inPlace := ["math.Float32bits"], unfollowed := true, recurses := true, apart := false }
def FnExactNewDelaySaid : Prop := fnExactNewDelayRow.holds Try.pinned (OpenSpec.ofChange fnExactNewDelaySpec)

/-- ITS FALSE NEIGHBOUR: 'it returns false'. Refute it at one input. -/
def fnExactNewDelayWrong : ChangeSpec := { name := "fnExactNewDelay", fn := fun _ => fun
  | [d] => { results := [.lit (.bool false)], args := [d] }
  | _ => none }
def FnExactNewDelayWrongFalsely : Prop := fnExactNewDelayRow.holds Try.pinned (OpenSpec.ofChange fnExactNewDelayWrong)

/-- 'laws.FnFrames': WHATEVER THE INPUT: true; the input reads as it did. -/
def fnFramesSpec : ChangeSpec := { name := "fnFrames", fn := fun _ => fun
  | [d] => { results := [.lit (.bool true)], args := [d] }
  | _ => none }
def fnFramesRow : OpenClaim := { program := "ytopkehknaclhlaa", sum := "4b8618ffe3b29f4d7efc63a94be1b8da757fa9b93bd554bd561b44d7080b6fe4", func := "loop.example/g03223/laws.FnFrames", spec := "fnFrames", inPlace := ["math.Float32bits", "math.Float32frombits"], unfollowed := true, recurses := true, apart := false }
def FnFramesSaid : Prop := fnFramesRow.holds Try.pinned (OpenSpec.ofChange fnFramesSpec)

/-- ITS FALSE NEIGHBOUR: 'it returns false'. Refute it at one input. -/
def fnFramesWrong : ChangeSpec := { name := "fnFrames", fn := fun _ => fun
  | [d] => { results := [.lit (.bool false)], args := [d] }
  | _ => none }
def FnFramesWrongFalsely : Prop := fnFramesRow.holds Try.pinned (OpenSpec.ofChange fnFramesWrong)

/-- 'laws.FnPool': WHATEVER THE INPUT: true; the input reads as it did. -/
def fnPoolSpec : ChangeSpec := { name := "fnPool", fn := fun _ => fun
  | [d] => { results := [.lit (.bool true)], args := [d] }
  | _ => none }
def fnPoolRow : OpenClaim := { program := "ytopkehknaclhlaa", sum := "4b8618ffe3b29f4d7efc63a94be1b8da757fa9b93bd554bd561b44d7080b6fe4", func := "loop.example/g03223/laws.FnPool", spec := "fnPool", unfollowed := true, recurses := true, apart := false }
def FnPoolSaid : Prop := fnPoolRow.holds Try.pinned (OpenSpec.ofChange fnPoolSpec)

/-- ITS FALSE NEIGHBOUR: 'it returns false'. Refute it at one input. -/
def fnPoolWrong : ChangeSpec := { name := "fnPool", fn := fun _ => fun
  | [d] => { results := [.lit (.bool false)], args := [d] }
  | _ => none }
def FnPoolWrongFalsely : Prop := fnPoolRow.holds Try.pinned (OpenSpec.ofChange fnPoolWrong)

/-- 'laws.FnApart': WHATEVER THE INPUT: true; the input reads as it did. -/
def fnApartSpec : ChangeSpec := { name := "fnApart", fn := fun _ => fun
  | [d] => { results := [.lit (.bool true)], args := [d] }
  | _ => none }
def fnApartRow : OpenClaim := { program := "ytopkehknaclhlaa", sum := "4b8618ffe3b29f4d7efc63a94be1b8da757fa9b93bd554bd561b44d7080b6fe4", func := "loop.example/g03223/laws.FnApart", spec := "fnApart", inPlace := ["math.Float32bits"], unfollowed := true, recurses := true, apart := false }
def FnApartSaid : Prop := fnApartRow.holds Try.pinned (OpenSpec.ofChange fnApartSpec)

/-- ITS FALSE NEIGHBOUR: 'it returns false'. Refute it at one input. -/
def fnApartWrong : ChangeSpec := { name := "fnApart", fn := fun _ => fun
  | [d] => { results := [.lit (.bool false)], args := [d] }
  | _ => none }
def FnApartWrongFalsely : Prop := fnApartRow.holds Try.pinned (OpenSpec.ofChange fnApartWrong)

/-- 'laws.FnRings': WHATEVER THE INPUT: true; the input reads as it did. -/
def fnRingsSpec : ChangeSpec := { name := "fnRings", fn := fun _ => fun
  | [d] => { results := [.lit (.bool true)], args := [d] }
  | _ => none }
def fnRingsRow : OpenClaim := { program := "ytopkehknaclhlaa", sum := "4b8618ffe3b29f4d7efc63a94be1b8da757fa9b93bd554bd561b44d7080b6fe4", func := "loop.example/g03223/laws.FnRings", spec := "fnRings", inPlace := ["math.Float32bits"], apart := false }
def FnRingsSaid : Prop := fnRingsRow.holds Try.pinned (OpenSpec.ofChange fnRingsSpec)

/-- ITS FALSE NEIGHBOUR: 'it returns false'. Refute it at one input. -/
def fnRingsWrong : ChangeSpec := { name := "fnRings", fn := fun _ => fun
  | [d] => { results := [.lit (.bool false)], args := [d] }
  | _ => none }
def FnRingsWrongFalsely : Prop := fnRingsRow.holds Try.pinned (OpenSpec.ofChange fnRingsWrong)

/-- 'laws.FnThrough': WHATEVER THE INPUT: true; the input reads as it did. -/
def fnThroughSpec : ChangeSpec := { name := "fnThrough", fn := fun _ => fun
  | [d] => { results := [.lit (.bool true)], args := [d] }
  | _ => none }
def fnThroughRow : OpenClaim := { program := "ytopkehknaclhlaa", sum := "4b8618ffe3b29f4d7efc63a94be1b8da757fa9b93bd554bd561b44d7080b6fe4", func := "loop.example/g03223/laws.FnThrough", spec := "fnThrough", inPlace := ["math.Float32bits", "math.Float32frombits"], unfollowed := true, recurses := true, apart := false }
def FnThroughSaid : Prop := fnThroughRow.holds Try.pinned (OpenSpec.ofChange fnThroughSpec)

/-- ITS FALSE NEIGHBOUR: 'it returns false'. Refute it at one input. -/
def fnThroughWrong : ChangeSpec := { name := "fnThrough", fn := fun _ => fun
  | [d] => { results := [.lit (.bool false)], args := [d] }
  | _ => none }
def FnThroughWrongFalsely : Prop := fnThroughRow.holds Try.pinned (OpenSpec.ofChange fnThroughWrong)

/-- 'laws.FnMixed': WHATEVER THE INPUT: true; the input reads as it did. -/
def fnMixedSpec : ChangeSpec := { name := "fnMixed", fn := fun _ => fun
  | [d] => { results := [.lit (.bool true)], args := [d] }
  | _ => none }
def fnMixedRow : OpenClaim := { program := "ytopkehknaclhlaa", sum := "4b8618ffe3b29f4d7efc63a94be1b8da757fa9b93bd554bd561b44d7080b6fe4", func := "loop.example/g03223/laws.FnMixed", spec := "fnMixed", inPlace := ["math.Float32bits", "math.Float32frombits"], unfollowed := true, recurses := true, apart := false }
def FnMixedSaid : Prop := fnMixedRow.holds Try.pinned (OpenSpec.ofChange fnMixedSpec)

/-- ITS FALSE NEIGHBOUR: 'it returns false'. Refute it at one input. -/
def fnMixedWrong : ChangeSpec := { name := "fnMixed", fn := fun _ => fun
  | [d] => { results := [.lit (.bool false)], args := [d] }
  | _ => none }
def FnMixedWrongFalsely : Prop := fnMixedRow.holds Try.pinned (OpenSpec.ofChange fnMixedWrong)

/-- 'laws.FnMeter': WHATEVER THE INPUT: true; the input reads as it did. -/
def fnMeterSpec : ChangeSpec := { name := "fnMeter", fn := fun _ => fun
  | [d] => { results := [.lit (.bool true)], args := [d] }
  | _ => none }
def fnMeterRow : OpenClaim := { program := "ytopkehknaclhlaa", sum := "4b8618ffe3b29f4d7efc63a94be1b8da757fa9b93bd554bd561b44d7080b6fe4", func := "loop.example/g03223/laws.FnMeter", spec := "fnMeter", inPlace := ["math.Float32bits", "math.Float32frombits"], unfollowed := true, recurses := true, apart := false }
def FnMeterSaid : Prop := fnMeterRow.holds Try.pinned (OpenSpec.ofChange fnMeterSpec)

/-- ITS FALSE NEIGHBOUR: 'it returns false'. Refute it at one input. -/
def fnMeterWrong : ChangeSpec := { name := "fnMeter", fn := fun _ => fun
  | [d] => { results := [.lit (.bool false)], args := [d] }
  | _ => none }
def FnMeterWrongFalsely : Prop := fnMeterRow.holds Try.pinned (OpenSpec.ofChange fnMeterWrong)

/-- 'laws.FnLent': WHATEVER THE INPUT: true; the input reads as it did. -/
def fnLentSpec : ChangeSpec := { name := "fnLent", fn := fun _ => fun
  | [d] => { results := [.lit (.bool true)], args := [d] }
  | _ => none }
def fnLentRow : OpenClaim := { program := "ytopkehknaclhlaa", sum := "4b8618ffe3b29f4d7efc63a94be1b8da757fa9b93bd554bd561b44d7080b6fe4", func := "loop.example/g03223/laws.FnLent", spec := "fnLent", unfollowed := true, recurses := true, apart := false }
def FnLentSaid : Prop := fnLentRow.holds Try.pinned (OpenSpec.ofChange fnLentSpec)

/-- ITS FALSE NEIGHBOUR: 'it returns false'. Refute it at one input. -/
def fnLentWrong : ChangeSpec := { name := "fnLent", fn := fun _ => fun
  | [d] => { results := [.lit (.bool false)], args := [d] }
  | _ => none }
def FnLentWrongFalsely : Prop := fnLentRow.holds Try.pinned (OpenSpec.ofChange fnLentWrong)

/-- 'laws.FnSliced': WHATEVER THE INPUT: true; the input reads as it did. -/
def fnSlicedSpec : ChangeSpec := { name := "fnSliced", fn := fun _ => fun
  | [d] => { results := [.lit (.bool true)], args := [d] }
  | _ => none }
def fnSlicedRow : OpenClaim := { program := "ytopkehknaclhlaa", sum := "4b8618ffe3b29f4d7efc63a94be1b8da757fa9b93bd554bd561b44d7080b6fe4", func := "loop.example/g03223/laws.FnSliced", spec := "fnSliced", inPlace := ["math.Float32bits", "math.Float32frombits"], unfollowed := true, recurses := true, apart := false }
def FnSlicedSaid : Prop := fnSlicedRow.holds Try.pinned (OpenSpec.ofChange fnSlicedSpec)

/-- ITS FALSE NEIGHBOUR: 'it returns false'. Refute it at one input. -/
def fnSlicedWrong : ChangeSpec := { name := "fnSliced", fn := fun _ => fun
  | [d] => { results := [.lit (.bool false)], args := [d] }
  | _ => none }
def FnSlicedWrongFalsely : Prop := fnSlicedRow.holds Try.pinned (OpenSpec.ofChange fnSlicedWrong)

/-- 'laws.FnExhausted': WHATEVER THE INPUT: true; the input reads as it did. -/
def fnExhaustedSpec : ChangeSpec := { name := "fnExhausted", fn := fun _ => fun
  | [d] => { results := [.lit (.bool true)], args := [d] }
  | _ => none }
def fnExhaustedRow : OpenClaim := { program := "ytopkehknaclhlaa", sum := "4b8618ffe3b29f4d7efc63a94be1b8da757fa9b93bd554bd561b44d7080b6fe4", func := "loop.example/g03223/laws.FnExhausted", spec := "fnExhausted", unfollowed := true, recurses := true, apart := false }
def FnExhaustedSaid : Prop := fnExhaustedRow.holds Try.pinned (OpenSpec.ofChange fnExhaustedSpec)

/-- ITS FALSE NEIGHBOUR: 'it returns false'. Refute it at one input. -/
def fnExhaustedWrong : ChangeSpec := { name := "fnExhausted", fn := fun _ => fun
  | [d] => { results := [.lit (.bool false)], args := [d] }
  | _ => none }
def FnExhaustedWrongFalsely : Prop := fnExhaustedRow.holds Try.pinned (OpenSpec.ofChange fnExhaustedWrong)

/- THE SECOND FORM. 'bulk': how many values and letters a reading holds, each counted each time it is reached (what is shared counts as often as it is met; a slice's spare places count too). A statement '..UptoSaid' is the law's where the arguments, and the package variables that the reading takes, are together of bulk at most 1048576: NARROWER than '..Said'. Prove '..Said' where nothing that the law and all that it calls make is longer than what came in: it says more and counts as full. Else prove '..UptoSaid'. A law counts once. -/
mutual
def uptoBulk {H : Type} : DataW H → Nat
  | .lit (.string bytes) => bytes.length + 1
  | .lit _ => 1
  | .nil => 1
  | .ptr d => uptoBulk d + 1
  | .slice elems spare => uptoBulkAll elems + uptoBulkAll spare + 1
  | .agg parts => uptoBulkAll parts + 1
  | .iface _ d => uptoBulk d + 1
  | .map entries => uptoBulkEntries entries + 1
  | .held _ => 1
def uptoBulkAll {H : Type} : List (DataW H) → Nat
  | [] => 0
  | d :: r => uptoBulk d + uptoBulkAll r
def uptoBulkEntries {H : Type} : List (Lit × DataW H) → Nat
  | [] => 0
  | x :: r => uptoBulkEntry x + uptoBulkEntries r
def uptoBulkEntry {H : Type} : Lit × DataW H → Nat
  | (.string bytes, d) => bytes.length + uptoBulk d + 1
  | (_, d) => uptoBulk d + 1
 end
def uptoSmall : (H : Type) → List (DataW H) → Bool := fun _ ds => decide (uptoBulkAll ds ≤ 1048576)
def OpenSpec.upto (s : _root_.Go.ChangeSpec) : _root_.Go.OpenSpec := { _root_.Go.OpenSpec.ofChange s with cond := some uptoSmall }

/-- 'laws.FnExactPowersOf', WHERE WHAT IT READS IS OF BULK AT MOST 1048576: true; the input reads as it did. -/
def fnExactPowersOfUptoRow : OpenClaim := { program := "ytopkehknaclhlaa", sum := "4b8618ffe3b29f4d7efc63a94be1b8da757fa9b93bd554bd561b44d7080b6fe4", func := "loop.example/g03223/laws.FnExactPowersOf", spec := "fnExactPowersOf", apart := false, narrowed := true }
def FnExactPowersOfUptoSaid : Prop := fnExactPowersOfUptoRow.holds Try.pinned (OpenSpec.upto fnExactPowersOfSpec)

/-- 'laws.FnExactNewRing', WHERE WHAT IT READS IS OF BULK AT MOST 1048576: true; the input reads as it did. -/
def fnExactNewRingUptoRow : OpenClaim := { program := "ytopkehknaclhlaa", sum := "4b8618ffe3b29f4d7efc63a94be1b8da757fa9b93bd554bd561b44d7080b6fe4", func := "loop.example/g03223/laws.FnExactNewRing", spec := "fnExactNewRing", apart := false, narrowed := true }
def FnExactNewRingUptoSaid : Prop := fnExactNewRingUptoRow.holds Try.pinned (OpenSpec.upto fnExactNewRingSpec)

/-- 'laws.FnExactNewGain', WHERE WHAT IT READS IS OF BULK AT MOST 1048576: true; the input reads as it did. -/
def fnExactNewGainUptoRow : OpenClaim := { program := "ytopkehknaclhlaa", sum := "4b8618ffe3b29f4d7efc63a94be1b8da757fa9b93bd554bd561b44d7080b6fe4", func := "loop.example/g03223/laws.FnExactNewGain", spec := "fnExactNewGain", apart := false, narrowed := true }
def FnExactNewGainUptoSaid : Prop := fnExactNewGainUptoRow.holds Try.pinned (OpenSpec.upto fnExactNewGainSpec)

/-- 'laws.FnExactNewMeter', WHERE WHAT IT READS IS OF BULK AT MOST 1048576: true; the input reads as it did. -/
def fnExactNewMeterUptoRow : OpenClaim := { program := "ytopkehknaclhlaa", sum := "4b8618ffe3b29f4d7efc63a94be1b8da757fa9b93bd554bd561b44d7080b6fe4", func := "loop.example/g03223/laws.FnExactNewMeter", spec := "fnExactNewMeter", apart := false, narrowed := true }
def FnExactNewMeterUptoSaid : Prop := fnExactNewMeterUptoRow.holds Try.pinned (OpenSpec.upto fnExactNewMeterSpec)

/-- 'laws.FnExactNewSum', WHERE WHAT IT READS IS OF BULK AT MOST 1048576: true; the input reads as it did. -/
def fnExactNewSumUptoRow : OpenClaim := { program := "ytopkehknaclhlaa", sum := "4b8618ffe3b29f4d7efc63a94be1b8da757fa9b93bd554bd561b44d7080b6fe4", func := "loop.example/g03223/laws.FnExactNewSum", spec := "fnExactNewSum", apart := false, narrowed := true }
def FnExactNewSumUptoSaid : Prop := fnExactNewSumUptoRow.holds Try.pinned (OpenSpec.upto fnExactNewSumSpec)

/-- 'laws.FnExactNewHold', WHERE WHAT IT READS IS OF BULK AT MOST 1048576: true; the input reads as it did. -/
def fnExactNewHoldUptoRow : OpenClaim := { program := "ytopkehknaclhlaa", sum := "4b8618ffe3b29f4d7efc63a94be1b8da757fa9b93bd554bd561b44d7080b6fe4", func := "loop.example/g03223/laws.FnExactNewHold", spec := "fnExactNewHold", inPlace := ["math.Float32bits"], unfollowed := true, recurses := true, apart := false, narrowed := true }
def FnExactNewHoldUptoSaid : Prop := fnExactNewHoldUptoRow.holds Try.pinned (OpenSpec.upto fnExactNewHoldSpec)

/-- 'laws.FnExactNewDelay', WHERE WHAT IT READS IS OF BULK AT MOST 1048576: true; the input reads as it did. -/
def fnExactNewDelayUptoRow : OpenClaim := { program := "ytopkehknaclhlaa", sum := "4b8618ffe3b29f4d7efc63a94be1b8da757fa9b93bd554bd561b44d7080b6fe4", func := "loop.example/g03223/laws.FnExactNewDelay", spec := "fnExactNewDelay", inPlace := ["math.Float32bits"], unfollowed := true, recurses := true, apart := false, narrowed := true }
def FnExactNewDelayUptoSaid : Prop := fnExactNewDelayUptoRow.holds Try.pinned (OpenSpec.upto fnExactNewDelaySpec)

/-- 'laws.FnFrames', WHERE WHAT IT READS IS OF BULK AT MOST 1048576: true; the input reads as it did. -/
def fnFramesUptoRow : OpenClaim := { program := "ytopkehknaclhlaa", sum := "4b8618ffe3b29f4d7efc63a94be1b8da757fa9b93bd554bd561b44d7080b6fe4", func := "loop.example/g03223/laws.FnFrames", spec := "fnFrames", inPlace := ["math.Float32bits", "math.Float32frombits"], unfollowed := true, recurses := true, apart := false, narrowed := true }
def FnFramesUptoSaid : Prop := fnFramesUptoRow.holds Try.pinned (OpenSpec.upto fnFramesSpec)

/-- 'laws.FnPool', WHERE WHAT IT READS IS OF BULK AT MOST 1048576: true; the input reads as it did. -/
def fnPoolUptoRow : OpenClaim := { program := "ytopkehknaclhlaa", sum := "4b8618ffe3b29f4d7efc63a94be1b8da757fa9b93bd554bd561b44d7080b6fe4", func := "loop.example/g03223/laws.FnPool", spec := "fnPool", unfollowed := true, recurses := true, apart := false, narrowed := true }
def FnPoolUptoSaid : Prop := fnPoolUptoRow.holds Try.pinned (OpenSpec.upto fnPoolSpec)

/-- 'laws.FnApart', WHERE WHAT IT READS IS OF BULK AT MOST 1048576: true; the input reads as it did. -/
def fnApartUptoRow : OpenClaim := { program := "ytopkehknaclhlaa", sum := "4b8618ffe3b29f4d7efc63a94be1b8da757fa9b93bd554bd561b44d7080b6fe4", func := "loop.example/g03223/laws.FnApart", spec := "fnApart", inPlace := ["math.Float32bits"], unfollowed := true, recurses := true, apart := false, narrowed := true }
def FnApartUptoSaid : Prop := fnApartUptoRow.holds Try.pinned (OpenSpec.upto fnApartSpec)

/-- 'laws.FnRings', WHERE WHAT IT READS IS OF BULK AT MOST 1048576: true; the input reads as it did. -/
def fnRingsUptoRow : OpenClaim := { program := "ytopkehknaclhlaa", sum := "4b8618ffe3b29f4d7efc63a94be1b8da757fa9b93bd554bd561b44d7080b6fe4", func := "loop.example/g03223/laws.FnRings", spec := "fnRings", inPlace := ["math.Float32bits"], apart := false, narrowed := true }
def FnRingsUptoSaid : Prop := fnRingsUptoRow.holds Try.pinned (OpenSpec.upto fnRingsSpec)

/-- 'laws.FnThrough', WHERE WHAT IT READS IS OF BULK AT MOST 1048576: true; the input reads as it did. -/
def fnThroughUptoRow : OpenClaim := { program := "ytopkehknaclhlaa", sum := "4b8618ffe3b29f4d7efc63a94be1b8da757fa9b93bd554bd561b44d7080b6fe4", func := "loop.example/g03223/laws.FnThrough", spec := "fnThrough", inPlace := ["math.Float32bits", "math.Float32frombits"], unfollowed := true, recurses := true, apart := false, narrowed := true }
def FnThroughUptoSaid : Prop := fnThroughUptoRow.holds Try.pinned (OpenSpec.upto fnThroughSpec)

/-- 'laws.FnMixed', WHERE WHAT IT READS IS OF BULK AT MOST 1048576: true; the input reads as it did. -/
def fnMixedUptoRow : OpenClaim := { program := "ytopkehknaclhlaa", sum := "4b8618ffe3b29f4d7efc63a94be1b8da757fa9b93bd554bd561b44d7080b6fe4", func := "loop.example/g03223/laws.FnMixed", spec := "fnMixed", inPlace := ["math.Float32bits", "math.Float32frombits"], unfollowed := true, recurses := true, apart := false, narrowed := true }
def FnMixedUptoSaid : Prop := fnMixedUptoRow.holds Try.pinned (OpenSpec.upto fnMixedSpec)

/-- 'laws.FnMeter', WHERE WHAT IT READS IS OF BULK AT MOST 1048576: true; the input reads as it did. -/
def fnMeterUptoRow : OpenClaim := { program := "ytopkehknaclhlaa", sum := "4b8618ffe3b29f4d7efc63a94be1b8da757fa9b93bd554bd561b44d7080b6fe4", func := "loop.example/g03223/laws.FnMeter", spec := "fnMeter", inPlace := ["math.Float32bits", "math.Float32frombits"], unfollowed := true, recurses := true, apart := false, narrowed := true }
def FnMeterUptoSaid : Prop := fnMeterUptoRow.holds Try.pinned (OpenSpec.upto fnMeterSpec)

/-- 'laws.FnLent', WHERE WHAT IT READS IS OF BULK AT MOST 1048576: true; the input reads as it did. -/
def fnLentUptoRow : OpenClaim := { program := "ytopkehknaclhlaa", sum := "4b8618ffe3b29f4d7efc63a94be1b8da757fa9b93bd554bd561b44d7080b6fe4", func := "loop.example/g03223/laws.FnLent", spec := "fnLent", unfollowed := true, recurses := true, apart := false, narrowed := true }
def FnLentUptoSaid : Prop := fnLentUptoRow.holds Try.pinned (OpenSpec.upto fnLentSpec)

/-- 'laws.FnSliced', WHERE WHAT IT READS IS OF BULK AT MOST 1048576: true; the input reads as it did. -/
def fnSlicedUptoRow : OpenClaim := { program := "ytopkehknaclhlaa", sum := "4b8618ffe3b29f4d7efc63a94be1b8da757fa9b93bd554bd561b44d7080b6fe4", func := "loop.example/g03223/laws.FnSliced", spec := "fnSliced", inPlace := ["math.Float32bits", "math.Float32frombits"], unfollowed := true, recurses := true, apart := false, narrowed := true }
def FnSlicedUptoSaid : Prop := fnSlicedUptoRow.holds Try.pinned (OpenSpec.upto fnSlicedSpec)

/-- 'laws.FnExhausted', WHERE WHAT IT READS IS OF BULK AT MOST 1048576: true; the input reads as it did. -/
def fnExhaustedUptoRow : OpenClaim := { program := "ytopkehknaclhlaa", sum := "4b8618ffe3b29f4d7efc63a94be1b8da757fa9b93bd554bd561b44d7080b6fe4", func := "loop.example/g03223/laws.FnExhausted", spec := "fnExhausted", unfollowed := true, recurses := true, apart := false, narrowed := true }
def FnExhaustedUptoSaid : Prop := fnExhaustedUptoRow.holds Try.pinned (OpenSpec.upto fnExhaustedSpec)

end Rows
end Go.Proofs.Ytopkehknaclhlaa
