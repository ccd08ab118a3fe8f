/-
  No cell of these rows narrows 'for every input' (looked for: loops, veiled, ifaces, maps, wideKeys, modest, calm, conditions, laid).
  DERIVED. THE GIVEN ROWS OF THIS SEAT. 15 by the template 'for every input the law returns true; each argument reads behind the call as it read before'; 0 by the template 'total and deterministic' (their statements: YtadldndpphdmpaaTotals.lean).
  GIVEN WITH THE SEED: the statements are not yours to turn. If you find one false, say at which input.
  Laid BY PROGRAM, IN A SANDBOX (cutbox-rows.mjs): the forced cells as the released guide's own fill.sh prints them over the translation b6170c1d7f895f55… (all of the seat's roots in one cut). By AI agents, Wed Nov 11 2026. No macro, syntax, notation, axiom, sorry.
-/
import Derived.Test.YtadldndpphdmpaaChecked
import GoSem.Claim
import GoSem.ClaimJoined
import GoSem.ClaimMapViews
import Derived.JoinedTies
import Derived.KernelRfl
namespace Go.Proofs.Ytadldndpphdmpaa
/- THE CELL 'sum', in the pinned program and in every row, IS THE sha256 OF THE DUMP (.gsa) THAT YtadldndpphdmpaaProg.lean LOADS. Nothing in Lean hashes anything: it is a label: what it is worth is what the hold of that sum in a sandbox is worth. -/
noncomputable def Try.pinned : Pinned := { name := "ytadldndpphdmpaa", sum := "b6170c1d7f895f5539821df46c0d285679f682951d843f4c91173b5e11f38b68", checked := Try.checked }
namespace Rows
def none {H : Type} : Left H := { results := [], args := [] }

/-- 'barragelaw09.FailureChecks': WHATEVER THE INPUT: true; the input reads as it did. -/
def failureChecksSpec : ChangeSpec := { name := "failureChecks", fn := fun _ => fun
  | [d] => { results := [.lit (.bool true)], args := [d] }
  | _ => none }
def failureChecksRow : OpenClaim := { program := "ytadldndpphdmpaa", sum := "b6170c1d7f895f5539821df46c0d285679f682951d843f4c91173b5e11f38b68", func := "barrage/barragelaw09.FailureChecks", spec := "failureChecks", unfollowed := true, recurses := true, apart := false }
def FailureChecksSaid : Prop := failureChecksRow.holds Try.pinned (OpenSpec.ofChange failureChecksSpec)

/-- ITS FALSE NEIGHBOUR: 'it returns false'. Refute it at one input. -/
def failureChecksWrong : ChangeSpec := { name := "failureChecks", fn := fun _ => fun
  | [d] => { results := [.lit (.bool false)], args := [d] }
  | _ => none }
def FailureChecksWrongFalsely : Prop := failureChecksRow.holds Try.pinned (OpenSpec.ofChange failureChecksWrong)

/-- 'barragelaw09.FailureEffects': WHATEVER THE INPUT: true; the input reads as it did. -/
def failureEffectsSpec : ChangeSpec := { name := "failureEffects", fn := fun _ => fun
  | [d1, d2, d3] => { results := [.lit (.bool true)], args := [d1, d2, d3] }
  | _ => none }
def failureEffectsRow : OpenClaim := { program := "ytadldndpphdmpaa", sum := "b6170c1d7f895f5539821df46c0d285679f682951d843f4c91173b5e11f38b68", func := "barrage/barragelaw09.FailureEffects", spec := "failureEffects", unfollowed := true, recurses := true, apart := false }
def FailureEffectsSaid : Prop := failureEffectsRow.holds Try.pinned (OpenSpec.ofChange failureEffectsSpec)

/-- ITS FALSE NEIGHBOUR: 'it returns false'. Refute it at one input. -/
def failureEffectsWrong : ChangeSpec := { name := "failureEffects", fn := fun _ => fun
  | [d1, d2, d3] => { results := [.lit (.bool false)], args := [d1, d2, d3] }
  | _ => none }
def FailureEffectsWrongFalsely : Prop := failureEffectsRow.holds Try.pinned (OpenSpec.ofChange failureEffectsWrong)

/-- 'barragelaw09.FailureSaves': WHATEVER THE INPUT: true; the input reads as it did. -/
def failureSavesSpec : ChangeSpec := { name := "failureSaves", fn := fun _ => fun
  | [d1, d2, d3] => { results := [.lit (.bool true)], args := [d1, d2, d3] }
  | _ => none }
def failureSavesRow : OpenClaim := { program := "ytadldndpphdmpaa", sum := "b6170c1d7f895f5539821df46c0d285679f682951d843f4c91173b5e11f38b68", func := "barrage/barragelaw09.FailureSaves", spec := "failureSaves", unfollowed := true, recurses := true, apart := false }
def FailureSavesSaid : Prop := failureSavesRow.holds Try.pinned (OpenSpec.ofChange failureSavesSpec)

/-- ITS FALSE NEIGHBOUR: 'it returns false'. Refute it at one input. -/
def failureSavesWrong : ChangeSpec := { name := "failureSaves", fn := fun _ => fun
  | [d1, d2, d3] => { results := [.lit (.bool false)], args := [d1, d2, d3] }
  | _ => none }
def FailureSavesWrongFalsely : Prop := failureSavesRow.holds Try.pinned (OpenSpec.ofChange failureSavesWrong)

/-- 'barragelaw09.FailureMore': WHATEVER THE INPUT: true; the input reads as it did. -/
def failureMoreSpec : ChangeSpec := { name := "failureMore", fn := fun _ => fun
  | [d1, d2, d3] => { results := [.lit (.bool true)], args := [d1, d2, d3] }
  | _ => none }
def failureMoreRow : OpenClaim := { program := "ytadldndpphdmpaa", sum := "b6170c1d7f895f5539821df46c0d285679f682951d843f4c91173b5e11f38b68", func := "barrage/barragelaw09.FailureMore", spec := "failureMore", unfollowed := true, recurses := true, apart := false }
def FailureMoreSaid : Prop := failureMoreRow.holds Try.pinned (OpenSpec.ofChange failureMoreSpec)

/-- ITS FALSE NEIGHBOUR: 'it returns false'. Refute it at one input. -/
def failureMoreWrong : ChangeSpec := { name := "failureMore", fn := fun _ => fun
  | [d1, d2, d3] => { results := [.lit (.bool false)], args := [d1, d2, d3] }
  | _ => none }
def FailureMoreWrongFalsely : Prop := failureMoreRow.holds Try.pinned (OpenSpec.ofChange failureMoreWrong)

/-- 'barragelaw09.FailureCaused': WHATEVER THE INPUT: true; the input reads as it did. -/
def failureCausedSpec : ChangeSpec := { name := "failureCaused", fn := fun _ => fun
  | [d1, d2, d3] => { results := [.lit (.bool true)], args := [d1, d2, d3] }
  | _ => none }
def failureCausedRow : OpenClaim := { program := "ytadldndpphdmpaa", sum := "b6170c1d7f895f5539821df46c0d285679f682951d843f4c91173b5e11f38b68", func := "barrage/barragelaw09.FailureCaused", spec := "failureCaused", unfollowed := true, recurses := true, apart := false }
def FailureCausedSaid : Prop := failureCausedRow.holds Try.pinned (OpenSpec.ofChange failureCausedSpec)

/-- ITS FALSE NEIGHBOUR: 'it returns false'. Refute it at one input. -/
def failureCausedWrong : ChangeSpec := { name := "failureCaused", fn := fun _ => fun
  | [d1, d2, d3] => { results := [.lit (.bool false)], args := [d1, d2, d3] }
  | _ => none }
def FailureCausedWrongFalsely : Prop := failureCausedRow.holds Try.pinned (OpenSpec.ofChange failureCausedWrong)

/-- 'barragelaw09.FailureProofs': WHATEVER THE INPUT: true; the input reads as it did. -/
def failureProofsSpec : ChangeSpec := { name := "failureProofs", fn := fun _ => fun
  | [d1, d2, d3] => { results := [.lit (.bool true)], args := [d1, d2, d3] }
  | _ => none }
def failureProofsRow : OpenClaim := { program := "ytadldndpphdmpaa", sum := "b6170c1d7f895f5539821df46c0d285679f682951d843f4c91173b5e11f38b68", func := "barrage/barragelaw09.FailureProofs", spec := "failureProofs", unfollowed := true, recurses := true, apart := false }
def FailureProofsSaid : Prop := failureProofsRow.holds Try.pinned (OpenSpec.ofChange failureProofsSpec)

/-- ITS FALSE NEIGHBOUR: 'it returns false'. Refute it at one input. -/
def failureProofsWrong : ChangeSpec := { name := "failureProofs", fn := fun _ => fun
  | [d1, d2, d3] => { results := [.lit (.bool false)], args := [d1, d2, d3] }
  | _ => none }
def FailureProofsWrongFalsely : Prop := failureProofsRow.holds Try.pinned (OpenSpec.ofChange failureProofsWrong)

/-- 'barragelaw09.FailureDual': WHATEVER THE INPUT: true; the input reads as it did. -/
def failureDualSpec : ChangeSpec := { name := "failureDual", fn := fun _ => fun
  | [d1, d2] => { results := [.lit (.bool true)], args := [d1, d2] }
  | _ => none }
def failureDualRow : OpenClaim := { program := "ytadldndpphdmpaa", sum := "b6170c1d7f895f5539821df46c0d285679f682951d843f4c91173b5e11f38b68", func := "barrage/barragelaw09.FailureDual", spec := "failureDual", unfollowed := true, recurses := true, apart := false }
def FailureDualSaid : Prop := failureDualRow.holds Try.pinned (OpenSpec.ofChange failureDualSpec)

/-- ITS FALSE NEIGHBOUR: 'it returns false'. Refute it at one input. -/
def failureDualWrong : ChangeSpec := { name := "failureDual", fn := fun _ => fun
  | [d1, d2] => { results := [.lit (.bool false)], args := [d1, d2] }
  | _ => none }
def FailureDualWrongFalsely : Prop := failureDualRow.holds Try.pinned (OpenSpec.ofChange failureDualWrong)

/-- 'barragelaw09.FailureGuarded': WHATEVER THE INPUT: true; the input reads as it did. -/
def failureGuardedSpec : ChangeSpec := { name := "failureGuarded", fn := fun _ => fun
  | [d1, d2, d3] => { results := [.lit (.bool true)], args := [d1, d2, d3] }
  | _ => none }
def failureGuardedRow : OpenClaim := { program := "ytadldndpphdmpaa", sum := "b6170c1d7f895f5539821df46c0d285679f682951d843f4c91173b5e11f38b68", func := "barrage/barragelaw09.FailureGuarded", spec := "failureGuarded", unfollowed := true, recurses := true, apart := false }
def FailureGuardedSaid : Prop := failureGuardedRow.holds Try.pinned (OpenSpec.ofChange failureGuardedSpec)

/-- ITS FALSE NEIGHBOUR: 'it returns false'. Refute it at one input. -/
def failureGuardedWrong : ChangeSpec := { name := "failureGuarded", fn := fun _ => fun
  | [d1, d2, d3] => { results := [.lit (.bool false)], args := [d1, d2, d3] }
  | _ => none }
def FailureGuardedWrongFalsely : Prop := failureGuardedRow.holds Try.pinned (OpenSpec.ofChange failureGuardedWrong)

/-- 'barragelaw09.FailureRuns': WHATEVER THE INPUT: true; the input reads as it did. -/
def failureRunsSpec : ChangeSpec := { name := "failureRuns", fn := fun _ => fun
  | [d1, d2, d3] => { results := [.lit (.bool true)], args := [d1, d2, d3] }
  | _ => none }
def failureRunsRow : OpenClaim := { program := "ytadldndpphdmpaa", sum := "b6170c1d7f895f5539821df46c0d285679f682951d843f4c91173b5e11f38b68", func := "barrage/barragelaw09.FailureRuns", spec := "failureRuns", unfollowed := true, recurses := true, apart := false }
def FailureRunsSaid : Prop := failureRunsRow.holds Try.pinned (OpenSpec.ofChange failureRunsSpec)

/-- ITS FALSE NEIGHBOUR: 'it returns false'. Refute it at one input. -/
def failureRunsWrong : ChangeSpec := { name := "failureRuns", fn := fun _ => fun
  | [d1, d2, d3] => { results := [.lit (.bool false)], args := [d1, d2, d3] }
  | _ => none }
def FailureRunsWrongFalsely : Prop := failureRunsRow.holds Try.pinned (OpenSpec.ofChange failureRunsWrong)

/-- 'barragelaw09.FailureNow': WHATEVER THE INPUT: true; the input reads as it did. -/
def failureNowSpec : ChangeSpec := { name := "failureNow", fn := fun _ => fun
  | [d1, d2, d3] => { results := [.lit (.bool true)], args := [d1, d2, d3] }
  | _ => none }
def failureNowRow : OpenClaim := { program := "ytadldndpphdmpaa", sum := "b6170c1d7f895f5539821df46c0d285679f682951d843f4c91173b5e11f38b68", func := "barrage/barragelaw09.FailureNow", spec := "failureNow", unfollowed := true, recurses := true, apart := false }
def FailureNowSaid : Prop := failureNowRow.holds Try.pinned (OpenSpec.ofChange failureNowSpec)

/-- ITS FALSE NEIGHBOUR: 'it returns false'. Refute it at one input. -/
def failureNowWrong : ChangeSpec := { name := "failureNow", fn := fun _ => fun
  | [d1, d2, d3] => { results := [.lit (.bool false)], args := [d1, d2, d3] }
  | _ => none }
def FailureNowWrongFalsely : Prop := failureNowRow.holds Try.pinned (OpenSpec.ofChange failureNowWrong)

/-- 'barragelaw09.FailureTold': WHATEVER THE INPUT: true; the input reads as it did. -/
def failureToldSpec : ChangeSpec := { name := "failureTold", fn := fun _ => fun
  | [d1, d2, d3] => { results := [.lit (.bool true)], args := [d1, d2, d3] }
  | _ => none }
def failureToldRow : OpenClaim := { program := "ytadldndpphdmpaa", sum := "b6170c1d7f895f5539821df46c0d285679f682951d843f4c91173b5e11f38b68", func := "barrage/barragelaw09.FailureTold", spec := "failureTold", unfollowed := true, recurses := true, apart := false }
def FailureToldSaid : Prop := failureToldRow.holds Try.pinned (OpenSpec.ofChange failureToldSpec)

/-- ITS FALSE NEIGHBOUR: 'it returns false'. Refute it at one input. -/
def failureToldWrong : ChangeSpec := { name := "failureTold", fn := fun _ => fun
  | [d1, d2, d3] => { results := [.lit (.bool false)], args := [d1, d2, d3] }
  | _ => none }
def FailureToldWrongFalsely : Prop := failureToldRow.holds Try.pinned (OpenSpec.ofChange failureToldWrong)

/-- 'barragelaw09.FailureInTime': WHATEVER THE INPUT: true; the input reads as it did. -/
def failureInTimeSpec : ChangeSpec := { name := "failureInTime", fn := fun _ => fun
  | [d1, d2, d3] => { results := [.lit (.bool true)], args := [d1, d2, d3] }
  | _ => none }
def failureInTimeRow : OpenClaim := { program := "ytadldndpphdmpaa", sum := "b6170c1d7f895f5539821df46c0d285679f682951d843f4c91173b5e11f38b68", func := "barrage/barragelaw09.FailureInTime", spec := "failureInTime", unfollowed := true, recurses := true, apart := false }
def FailureInTimeSaid : Prop := failureInTimeRow.holds Try.pinned (OpenSpec.ofChange failureInTimeSpec)

/-- ITS FALSE NEIGHBOUR: 'it returns false'. Refute it at one input. -/
def failureInTimeWrong : ChangeSpec := { name := "failureInTime", fn := fun _ => fun
  | [d1, d2, d3] => { results := [.lit (.bool false)], args := [d1, d2, d3] }
  | _ => none }
def FailureInTimeWrongFalsely : Prop := failureInTimeRow.holds Try.pinned (OpenSpec.ofChange failureInTimeWrong)

/-- 'barragelaw09.FailureLater': WHATEVER THE INPUT: true; the input reads as it did. -/
def failureLaterSpec : ChangeSpec := { name := "failureLater", fn := fun _ => fun
  | [d1, d2, d3] => { results := [.lit (.bool true)], args := [d1, d2, d3] }
  | _ => none }
def failureLaterRow : OpenClaim := { program := "ytadldndpphdmpaa", sum := "b6170c1d7f895f5539821df46c0d285679f682951d843f4c91173b5e11f38b68", func := "barrage/barragelaw09.FailureLater", spec := "failureLater", unfollowed := true, recurses := true, apart := false }
def FailureLaterSaid : Prop := failureLaterRow.holds Try.pinned (OpenSpec.ofChange failureLaterSpec)

/-- ITS FALSE NEIGHBOUR: 'it returns false'. Refute it at one input. -/
def failureLaterWrong : ChangeSpec := { name := "failureLater", fn := fun _ => fun
  | [d1, d2, d3] => { results := [.lit (.bool false)], args := [d1, d2, d3] }
  | _ => none }
def FailureLaterWrongFalsely : Prop := failureLaterRow.holds Try.pinned (OpenSpec.ofChange failureLaterWrong)

/-- 'barragelaw09.FailureWeights': WHATEVER THE INPUT: true; the input reads as it did. -/
def failureWeightsSpec : ChangeSpec := { name := "failureWeights", fn := fun _ => fun
  | [d1, d2] => { results := [.lit (.bool true)], args := [d1, d2] }
  | _ => none }
def failureWeightsRow : OpenClaim := { program := "ytadldndpphdmpaa", sum := "b6170c1d7f895f5539821df46c0d285679f682951d843f4c91173b5e11f38b68", func := "barrage/barragelaw09.FailureWeights", spec := "failureWeights", unfollowed := true, recurses := true, apart := false }
def FailureWeightsSaid : Prop := failureWeightsRow.holds Try.pinned (OpenSpec.ofChange failureWeightsSpec)

/-- ITS FALSE NEIGHBOUR: 'it returns false'. Refute it at one input. -/
def failureWeightsWrong : ChangeSpec := { name := "failureWeights", fn := fun _ => fun
  | [d1, d2] => { results := [.lit (.bool false)], args := [d1, d2] }
  | _ => none }
def FailureWeightsWrongFalsely : Prop := failureWeightsRow.holds Try.pinned (OpenSpec.ofChange failureWeightsWrong)

/-- 'barragelaw09.FailureKnown': WHATEVER THE INPUT: true; the input reads as it did. -/
def failureKnownSpec : ChangeSpec := { name := "failureKnown", fn := fun _ => fun
  | [] => { results := [.lit (.bool true)], args := [] }
  | _ => none }
def failureKnownRow : OpenClaim := { program := "ytadldndpphdmpaa", sum := "b6170c1d7f895f5539821df46c0d285679f682951d843f4c91173b5e11f38b68", func := "barrage/barragelaw09.FailureKnown", spec := "failureKnown", unfollowed := true, recurses := true, apart := false }
def FailureKnownSaid : Prop := failureKnownRow.holds Try.pinned (OpenSpec.ofChange failureKnownSpec)

/-- ITS FALSE NEIGHBOUR: 'it returns false'. Refute it at one input. -/
def failureKnownWrong : ChangeSpec := { name := "failureKnown", fn := fun _ => fun
  | [] => { results := [.lit (.bool false)], args := [] }
  | _ => none }
def FailureKnownWrongFalsely : Prop := failureKnownRow.holds Try.pinned (OpenSpec.ofChange failureKnownWrong)

/- THE SECOND FORM. 'bulk': how many values and letters a reading holds, each counted each time it is reached (what is shared counts as often as it is met; a slice's spare places count too). A statement '..UptoSaid' is the law's where the arguments, and the package variables that the reading takes, are together of bulk at most 1048576: NARROWER than '..Said'. Prove '..Said' where nothing that the law and all that it calls make is longer than what came in: it says more and counts as full. Else prove '..UptoSaid'. A law counts once. -/
mutual
def uptoBulk {H : Type} : DataW H → Nat
  | .lit (.string bytes) => bytes.length + 1
  | .lit _ => 1
  | .nil => 1
  | .ptr d => uptoBulk d + 1
  | .slice elems spare => uptoBulkAll elems + uptoBulkAll spare + 1
  | .agg parts => uptoBulkAll parts + 1
  | .iface _ d => uptoBulk d + 1
  | .map entries => uptoBulkEntries entries + 1
  | .held _ => 1
def uptoBulkAll {H : Type} : List (DataW H) → Nat
  | [] => 0
  | d :: r => uptoBulk d + uptoBulkAll r
def uptoBulkEntries {H : Type} : List (Lit × DataW H) → Nat
  | [] => 0
  | x :: r => uptoBulkEntry x + uptoBulkEntries r
def uptoBulkEntry {H : Type} : Lit × DataW H → Nat
  | (.string bytes, d) => bytes.length + uptoBulk d + 1
  | (_, d) => uptoBulk d + 1
 end
def uptoSmall : (H : Type) → List (DataW H) → Bool := fun _ ds => decide (uptoBulkAll ds ≤ 1048576)
def OpenSpec.upto (s : _root_.Go.ChangeSpec) : _root_.Go.OpenSpec := { _root_.Go.OpenSpec.ofChange s with cond := some uptoSmall }

/-- 'barragelaw09.FailureChecks', WHERE WHAT IT READS IS OF BULK AT MOST 1048576: true; the input reads as it did. -/
def failureChecksUptoRow : OpenClaim := { program := "ytadldndpphdmpaa", sum := "b6170c1d7f895f5539821df46c0d285679f682951d843f4c91173b5e11f38b68", func := "barrage/barragelaw09.FailureChecks", spec := "failureChecks", unfollowed := true, recurses := true, apart := false, narrowed := true }
def FailureChecksUptoSaid : Prop := failureChecksUptoRow.holds Try.pinned (OpenSpec.upto failureChecksSpec)

/-- 'barragelaw09.FailureEffects', WHERE WHAT IT READS IS OF BULK AT MOST 1048576: true; the input reads as it did. -/
def failureEffectsUptoRow : OpenClaim := { program := "ytadldndpphdmpaa", sum := "b6170c1d7f895f5539821df46c0d285679f682951d843f4c91173b5e11f38b68", func := "barrage/barragelaw09.FailureEffects", spec := "failureEffects", unfollowed := true, recurses := true, apart := false, narrowed := true }
def FailureEffectsUptoSaid : Prop := failureEffectsUptoRow.holds Try.pinned (OpenSpec.upto failureEffectsSpec)

/-- 'barragelaw09.FailureSaves', WHERE WHAT IT READS IS OF BULK AT MOST 1048576: true; the input reads as it did. -/
def failureSavesUptoRow : OpenClaim := { program := "ytadldndpphdmpaa", sum := "b6170c1d7f895f5539821df46c0d285679f682951d843f4c91173b5e11f38b68", func := "barrage/barragelaw09.FailureSaves", spec := "failureSaves", unfollowed := true, recurses := true, apart := false, narrowed := true }
def FailureSavesUptoSaid : Prop := failureSavesUptoRow.holds Try.pinned (OpenSpec.upto failureSavesSpec)

/-- 'barragelaw09.FailureMore', WHERE WHAT IT READS IS OF BULK AT MOST 1048576: true; the input reads as it did. -/
def failureMoreUptoRow : OpenClaim := { program := "ytadldndpphdmpaa", sum := "b6170c1d7f895f5539821df46c0d285679f682951d843f4c91173b5e11f38b68", func := "barrage/barragelaw09.FailureMore", spec := "failureMore", unfollowed := true, recurses := true, apart := false, narrowed := true }
def FailureMoreUptoSaid : Prop := failureMoreUptoRow.holds Try.pinned (OpenSpec.upto failureMoreSpec)

/-- 'barragelaw09.FailureCaused', WHERE WHAT IT READS IS OF BULK AT MOST 1048576: true; the input reads as it did. -/
def failureCausedUptoRow : OpenClaim := { program := "ytadldndpphdmpaa", sum := "b6170c1d7f895f5539821df46c0d285679f682951d843f4c91173b5e11f38b68", func := "barrage/barragelaw09.FailureCaused", spec := "failureCaused", unfollowed := true, recurses := true, apart := false, narrowed := true }
def FailureCausedUptoSaid : Prop := failureCausedUptoRow.holds Try.pinned (OpenSpec.upto failureCausedSpec)

/-- 'barragelaw09.FailureProofs', WHERE WHAT IT READS IS OF BULK AT MOST 1048576: true; the input reads as it did. -/
def failureProofsUptoRow : OpenClaim := { program := "ytadldndpphdmpaa", sum := "b6170c1d7f895f5539821df46c0d285679f682951d843f4c91173b5e11f38b68", func := "barrage/barragelaw09.FailureProofs", spec := "failureProofs", unfollowed := true, recurses := true, apart := false, narrowed := true }
def FailureProofsUptoSaid : Prop := failureProofsUptoRow.holds Try.pinned (OpenSpec.upto failureProofsSpec)

/-- 'barragelaw09.FailureDual', WHERE WHAT IT READS IS OF BULK AT MOST 1048576: true; the input reads as it did. -/
def failureDualUptoRow : OpenClaim := { program := "ytadldndpphdmpaa", sum := "b6170c1d7f895f5539821df46c0d285679f682951d843f4c91173b5e11f38b68", func := "barrage/barragelaw09.FailureDual", spec := "failureDual", unfollowed := true, recurses := true, apart := false, narrowed := true }
def FailureDualUptoSaid : Prop := failureDualUptoRow.holds Try.pinned (OpenSpec.upto failureDualSpec)

/-- 'barragelaw09.FailureGuarded', WHERE WHAT IT READS IS OF BULK AT MOST 1048576: true; the input reads as it did. -/
def failureGuardedUptoRow : OpenClaim := { program := "ytadldndpphdmpaa", sum := "b6170c1d7f895f5539821df46c0d285679f682951d843f4c91173b5e11f38b68", func := "barrage/barragelaw09.FailureGuarded", spec := "failureGuarded", unfollowed := true, recurses := true, apart := false, narrowed := true }
def FailureGuardedUptoSaid : Prop := failureGuardedUptoRow.holds Try.pinned (OpenSpec.upto failureGuardedSpec)

/-- 'barragelaw09.FailureRuns', WHERE WHAT IT READS IS OF BULK AT MOST 1048576: true; the input reads as it did. -/
def failureRunsUptoRow : OpenClaim := { program := "ytadldndpphdmpaa", sum := "b6170c1d7f895f5539821df46c0d285679f682951d843f4c91173b5e11f38b68", func := "barrage/barragelaw09.FailureRuns", spec := "failureRuns", unfollowed := true, recurses := true, apart := false, narrowed := true }
def FailureRunsUptoSaid : Prop := failureRunsUptoRow.holds Try.pinned (OpenSpec.upto failureRunsSpec)

/-- 'barragelaw09.FailureNow', WHERE WHAT IT READS IS OF BULK AT MOST 1048576: true; the input reads as it did. -/
def failureNowUptoRow : OpenClaim := { program := "ytadldndpphdmpaa", sum := "b6170c1d7f895f5539821df46c0d285679f682951d843f4c91173b5e11f38b68", func := "barrage/barragelaw09.FailureNow", spec := "failureNow", unfollowed := true, recurses := true, apart := false, narrowed := true }
def FailureNowUptoSaid : Prop := failureNowUptoRow.holds Try.pinned (OpenSpec.upto failureNowSpec)

/-- 'barragelaw09.FailureTold', WHERE WHAT IT READS IS OF BULK AT MOST 1048576: true; the input reads as it did. -/
def failureToldUptoRow : OpenClaim := { program := "ytadldndpphdmpaa", sum := "b6170c1d7f895f5539821df46c0d285679f682951d843f4c91173b5e11f38b68", func := "barrage/barragelaw09.FailureTold", spec := "failureTold", unfollowed := true, recurses := true, apart := false, narrowed := true }
def FailureToldUptoSaid : Prop := failureToldUptoRow.holds Try.pinned (OpenSpec.upto failureToldSpec)

/-- 'barragelaw09.FailureInTime', WHERE WHAT IT READS IS OF BULK AT MOST 1048576: true; the input reads as it did. -/
def failureInTimeUptoRow : OpenClaim := { program := "ytadldndpphdmpaa", sum := "b6170c1d7f895f5539821df46c0d285679f682951d843f4c91173b5e11f38b68", func := "barrage/barragelaw09.FailureInTime", spec := "failureInTime", unfollowed := true, recurses := true, apart := false, narrowed := true }
def FailureInTimeUptoSaid : Prop := failureInTimeUptoRow.holds Try.pinned (OpenSpec.upto failureInTimeSpec)

/-- 'barragelaw09.FailureLater', WHERE WHAT IT READS IS OF BULK AT MOST 1048576: true; the input reads as it did. -/
def failureLaterUptoRow : OpenClaim := { program := "ytadldndpphdmpaa", sum := "b6170c1d7f895f5539821df46c0d285679f682951d843f4c91173b5e11f38b68", func := "barrage/barragelaw09.FailureLater", spec := "failureLater", unfollowed := true, recurses := true, apart := false, narrowed := true }
def FailureLaterUptoSaid : Prop := failureLaterUptoRow.holds Try.pinned (OpenSpec.upto failureLaterSpec)

/-- 'barragelaw09.FailureWeights', WHERE WHAT IT READS IS OF BULK AT MOST 1048576: true; the input reads as it did. -/
def failureWeightsUptoRow : OpenClaim := { program := "ytadldndpphdmpaa", sum := "b6170c1d7f895f5539821df46c0d285679f682951d843f4c91173b5e11f38b68", func := "barrage/barragelaw09.FailureWeights", spec := "failureWeights", unfollowed := true, recurses := true, apart := false, narrowed := true }
def FailureWeightsUptoSaid : Prop := failureWeightsUptoRow.holds Try.pinned (OpenSpec.upto failureWeightsSpec)

/-- 'barragelaw09.FailureKnown', WHERE WHAT IT READS IS OF BULK AT MOST 1048576: true; the input reads as it did. -/
def failureKnownUptoRow : OpenClaim := { program := "ytadldndpphdmpaa", sum := "b6170c1d7f895f5539821df46c0d285679f682951d843f4c91173b5e11f38b68", func := "barrage/barragelaw09.FailureKnown", spec := "failureKnown", unfollowed := true, recurses := true, apart := false, narrowed := true }
def FailureKnownUptoSaid : Prop := failureKnownUptoRow.holds Try.pinned (OpenSpec.upto failureKnownSpec)

end Rows
end Go.Proofs.Ytadldndpphdmpaa
