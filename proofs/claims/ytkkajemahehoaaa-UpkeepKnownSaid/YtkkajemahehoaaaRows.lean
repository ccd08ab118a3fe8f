/-
  No cell of these rows narrows 'for every input' (looked for: loops, veiled, ifaces, maps, wideKeys, modest, calm, conditions, laid).
  DERIVED. THE GIVEN ROWS OF THIS SEAT. 15 by the template 'for every input the law returns true; each argument reads behind the call as it read before'; 0 by the template 'total and deterministic' (their statements: YtkkajemahehoaaaTotals.lean).
  GIVEN WITH THE SEED: the statements are not yours to turn. If you find one false, say at which input.
  Laid BY PROGRAM, IN A SANDBOX (cutbox-rows.mjs): the forced cells as the released guide's own fill.sh prints them over the translation ce1c0f1476e5ea6e… (all of the seat's roots in one cut). By AI agents, Wed Nov 11 2026. No macro, syntax, notation, axiom, sorry.
-/
import Derived.Test.YtkkajemahehoaaaChecked
import GoSem.Claim
import GoSem.ClaimJoined
import GoSem.ClaimMapViews
import Derived.JoinedTies
import Derived.KernelRfl
namespace Go.Proofs.Ytkkajemahehoaaa
/- THE CELL 'sum', in the pinned program and in every row, IS THE sha256 OF THE DUMP (.gsa) THAT YtkkajemahehoaaaProg.lean LOADS. Nothing in Lean hashes anything: it is a label: what it is worth is what the hold of that sum in a sandbox is worth. -/
noncomputable def Try.pinned : Pinned := { name := "ytkkajemahehoaaa", sum := "ce1c0f1476e5ea6e68137aff618645d0f3e70fbbb2edcbb10a3a0f79a57e5360", checked := Try.checked }
namespace Rows
def none {H : Type} : Left H := { results := [], args := [] }

/-- 'barragelaw08.UpkeepChecks': WHATEVER THE INPUT: true; the input reads as it did. -/
def upkeepChecksSpec : ChangeSpec := { name := "upkeepChecks", fn := fun _ => fun
  | [d1, d2] => { results := [.lit (.bool true)], args := [d1, d2] }
  | _ => none }
def upkeepChecksRow : OpenClaim := { program := "ytkkajemahehoaaa", sum := "ce1c0f1476e5ea6e68137aff618645d0f3e70fbbb2edcbb10a3a0f79a57e5360", func := "barrage/barragelaw08.UpkeepChecks", spec := "upkeepChecks", unfollowed := true, recurses := true, apart := false }
def UpkeepChecksSaid : Prop := upkeepChecksRow.holds Try.pinned (OpenSpec.ofChange upkeepChecksSpec)

/-- ITS FALSE NEIGHBOUR: 'it returns false'. Refute it at one input. -/
def upkeepChecksWrong : ChangeSpec := { name := "upkeepChecks", fn := fun _ => fun
  | [d1, d2] => { results := [.lit (.bool false)], args := [d1, d2] }
  | _ => none }
def UpkeepChecksWrongFalsely : Prop := upkeepChecksRow.holds Try.pinned (OpenSpec.ofChange upkeepChecksWrong)

/-- 'barragelaw08.UpkeepFinds': WHATEVER THE INPUT: true; the input reads as it did. -/
def upkeepFindsSpec : ChangeSpec := { name := "upkeepFinds", fn := fun _ => fun
  | [d] => { results := [.lit (.bool true)], args := [d] }
  | _ => none }
def upkeepFindsRow : OpenClaim := { program := "ytkkajemahehoaaa", sum := "ce1c0f1476e5ea6e68137aff618645d0f3e70fbbb2edcbb10a3a0f79a57e5360", func := "barrage/barragelaw08.UpkeepFinds", spec := "upkeepFinds", unfollowed := true, recurses := true, apart := false }
def UpkeepFindsSaid : Prop := upkeepFindsRow.holds Try.pinned (OpenSpec.ofChange upkeepFindsSpec)

/-- ITS FALSE NEIGHBOUR: 'it returns false'. Refute it at one input. -/
def upkeepFindsWrong : ChangeSpec := { name := "upkeepFinds", fn := fun _ => fun
  | [d] => { results := [.lit (.bool false)], args := [d] }
  | _ => none }
def UpkeepFindsWrongFalsely : Prop := upkeepFindsRow.holds Try.pinned (OpenSpec.ofChange upkeepFindsWrong)

/-- 'barragelaw08.UpkeepCounts': WHATEVER THE INPUT: true; the input reads as it did. -/
def upkeepCountsSpec : ChangeSpec := { name := "upkeepCounts", fn := fun _ => fun
  | [d1, d2] => { results := [.lit (.bool true)], args := [d1, d2] }
  | _ => none }
def upkeepCountsRow : OpenClaim := { program := "ytkkajemahehoaaa", sum := "ce1c0f1476e5ea6e68137aff618645d0f3e70fbbb2edcbb10a3a0f79a57e5360", func := "barrage/barragelaw08.UpkeepCounts", spec := "upkeepCounts", unfollowed := true, recurses := true, apart := false }
def UpkeepCountsSaid : Prop := upkeepCountsRow.holds Try.pinned (OpenSpec.ofChange upkeepCountsSpec)

/-- ITS FALSE NEIGHBOUR: 'it returns false'. Refute it at one input. -/
def upkeepCountsWrong : ChangeSpec := { name := "upkeepCounts", fn := fun _ => fun
  | [d1, d2] => { results := [.lit (.bool false)], args := [d1, d2] }
  | _ => none }
def UpkeepCountsWrongFalsely : Prop := upkeepCountsRow.holds Try.pinned (OpenSpec.ofChange upkeepCountsWrong)

/-- 'barragelaw08.UpkeepLess': WHATEVER THE INPUT: true; the input reads as it did. -/
def upkeepLessSpec : ChangeSpec := { name := "upkeepLess", fn := fun _ => fun
  | [d1, d2, d3] => { results := [.lit (.bool true)], args := [d1, d2, d3] }
  | _ => none }
def upkeepLessRow : OpenClaim := { program := "ytkkajemahehoaaa", sum := "ce1c0f1476e5ea6e68137aff618645d0f3e70fbbb2edcbb10a3a0f79a57e5360", func := "barrage/barragelaw08.UpkeepLess", spec := "upkeepLess", unfollowed := true, recurses := true, apart := false }
def UpkeepLessSaid : Prop := upkeepLessRow.holds Try.pinned (OpenSpec.ofChange upkeepLessSpec)

/-- ITS FALSE NEIGHBOUR: 'it returns false'. Refute it at one input. -/
def upkeepLessWrong : ChangeSpec := { name := "upkeepLess", fn := fun _ => fun
  | [d1, d2, d3] => { results := [.lit (.bool false)], args := [d1, d2, d3] }
  | _ => none }
def UpkeepLessWrongFalsely : Prop := upkeepLessRow.holds Try.pinned (OpenSpec.ofChange upkeepLessWrong)

/-- 'barragelaw08.UpkeepSeasons': WHATEVER THE INPUT: true; the input reads as it did. -/
def upkeepSeasonsSpec : ChangeSpec := { name := "upkeepSeasons", fn := fun _ => fun
  | [d1, d2, d3] => { results := [.lit (.bool true)], args := [d1, d2, d3] }
  | _ => none }
def upkeepSeasonsRow : OpenClaim := { program := "ytkkajemahehoaaa", sum := "ce1c0f1476e5ea6e68137aff618645d0f3e70fbbb2edcbb10a3a0f79a57e5360", func := "barrage/barragelaw08.UpkeepSeasons", spec := "upkeepSeasons", unfollowed := true, recurses := true, apart := false }
def UpkeepSeasonsSaid : Prop := upkeepSeasonsRow.holds Try.pinned (OpenSpec.ofChange upkeepSeasonsSpec)

/-- ITS FALSE NEIGHBOUR: 'it returns false'. Refute it at one input. -/
def upkeepSeasonsWrong : ChangeSpec := { name := "upkeepSeasons", fn := fun _ => fun
  | [d1, d2, d3] => { results := [.lit (.bool false)], args := [d1, d2, d3] }
  | _ => none }
def UpkeepSeasonsWrongFalsely : Prop := upkeepSeasonsRow.holds Try.pinned (OpenSpec.ofChange upkeepSeasonsWrong)

/-- 'barragelaw08.UpkeepDays': WHATEVER THE INPUT: true; the input reads as it did. -/
def upkeepDaysSpec : ChangeSpec := { name := "upkeepDays", fn := fun _ => fun
  | [d1, d2, d3] => { results := [.lit (.bool true)], args := [d1, d2, d3] }
  | _ => none }
def upkeepDaysRow : OpenClaim := { program := "ytkkajemahehoaaa", sum := "ce1c0f1476e5ea6e68137aff618645d0f3e70fbbb2edcbb10a3a0f79a57e5360", func := "barrage/barragelaw08.UpkeepDays", spec := "upkeepDays", unfollowed := true, recurses := true, apart := false }
def UpkeepDaysSaid : Prop := upkeepDaysRow.holds Try.pinned (OpenSpec.ofChange upkeepDaysSpec)

/-- ITS FALSE NEIGHBOUR: 'it returns false'. Refute it at one input. -/
def upkeepDaysWrong : ChangeSpec := { name := "upkeepDays", fn := fun _ => fun
  | [d1, d2, d3] => { results := [.lit (.bool false)], args := [d1, d2, d3] }
  | _ => none }
def UpkeepDaysWrongFalsely : Prop := upkeepDaysRow.holds Try.pinned (OpenSpec.ofChange upkeepDaysWrong)

/-- 'barragelaw08.UpkeepMeets': WHATEVER THE INPUT: true; the input reads as it did. -/
def upkeepMeetsSpec : ChangeSpec := { name := "upkeepMeets", fn := fun _ => fun
  | [d1, d2, d3] => { results := [.lit (.bool true)], args := [d1, d2, d3] }
  | _ => none }
def upkeepMeetsRow : OpenClaim := { program := "ytkkajemahehoaaa", sum := "ce1c0f1476e5ea6e68137aff618645d0f3e70fbbb2edcbb10a3a0f79a57e5360", func := "barrage/barragelaw08.UpkeepMeets", spec := "upkeepMeets", unfollowed := true, recurses := true, apart := false }
def UpkeepMeetsSaid : Prop := upkeepMeetsRow.holds Try.pinned (OpenSpec.ofChange upkeepMeetsSpec)

/-- ITS FALSE NEIGHBOUR: 'it returns false'. Refute it at one input. -/
def upkeepMeetsWrong : ChangeSpec := { name := "upkeepMeets", fn := fun _ => fun
  | [d1, d2, d3] => { results := [.lit (.bool false)], args := [d1, d2, d3] }
  | _ => none }
def UpkeepMeetsWrongFalsely : Prop := upkeepMeetsRow.holds Try.pinned (OpenSpec.ofChange upkeepMeetsWrong)

/-- 'barragelaw08.UpkeepParts': WHATEVER THE INPUT: true; the input reads as it did. -/
def upkeepPartsSpec : ChangeSpec := { name := "upkeepParts", fn := fun _ => fun
  | [d1, d2] => { results := [.lit (.bool true)], args := [d1, d2] }
  | _ => none }
def upkeepPartsRow : OpenClaim := { program := "ytkkajemahehoaaa", sum := "ce1c0f1476e5ea6e68137aff618645d0f3e70fbbb2edcbb10a3a0f79a57e5360", func := "barrage/barragelaw08.UpkeepParts", spec := "upkeepParts", unfollowed := true, recurses := true, apart := false }
def UpkeepPartsSaid : Prop := upkeepPartsRow.holds Try.pinned (OpenSpec.ofChange upkeepPartsSpec)

/-- ITS FALSE NEIGHBOUR: 'it returns false'. Refute it at one input. -/
def upkeepPartsWrong : ChangeSpec := { name := "upkeepParts", fn := fun _ => fun
  | [d1, d2] => { results := [.lit (.bool false)], args := [d1, d2] }
  | _ => none }
def UpkeepPartsWrongFalsely : Prop := upkeepPartsRow.holds Try.pinned (OpenSpec.ofChange upkeepPartsWrong)

/-- 'barragelaw08.UpkeepJudges': WHATEVER THE INPUT: true; the input reads as it did. -/
def upkeepJudgesSpec : ChangeSpec := { name := "upkeepJudges", fn := fun _ => fun
  | [d1, d2] => { results := [.lit (.bool true)], args := [d1, d2] }
  | _ => none }
def upkeepJudgesRow : OpenClaim := { program := "ytkkajemahehoaaa", sum := "ce1c0f1476e5ea6e68137aff618645d0f3e70fbbb2edcbb10a3a0f79a57e5360", func := "barrage/barragelaw08.UpkeepJudges", spec := "upkeepJudges", unfollowed := true, recurses := true, apart := false }
def UpkeepJudgesSaid : Prop := upkeepJudgesRow.holds Try.pinned (OpenSpec.ofChange upkeepJudgesSpec)

/-- ITS FALSE NEIGHBOUR: 'it returns false'. Refute it at one input. -/
def upkeepJudgesWrong : ChangeSpec := { name := "upkeepJudges", fn := fun _ => fun
  | [d1, d2] => { results := [.lit (.bool false)], args := [d1, d2] }
  | _ => none }
def UpkeepJudgesWrongFalsely : Prop := upkeepJudgesRow.holds Try.pinned (OpenSpec.ofChange upkeepJudgesWrong)

/-- 'barragelaw08.UpkeepBest': WHATEVER THE INPUT: true; the input reads as it did. -/
def upkeepBestSpec : ChangeSpec := { name := "upkeepBest", fn := fun _ => fun
  | [d1, d2] => { results := [.lit (.bool true)], args := [d1, d2] }
  | _ => none }
def upkeepBestRow : OpenClaim := { program := "ytkkajemahehoaaa", sum := "ce1c0f1476e5ea6e68137aff618645d0f3e70fbbb2edcbb10a3a0f79a57e5360", func := "barrage/barragelaw08.UpkeepBest", spec := "upkeepBest", unfollowed := true, recurses := true, apart := false }
def UpkeepBestSaid : Prop := upkeepBestRow.holds Try.pinned (OpenSpec.ofChange upkeepBestSpec)

/-- ITS FALSE NEIGHBOUR: 'it returns false'. Refute it at one input. -/
def upkeepBestWrong : ChangeSpec := { name := "upkeepBest", fn := fun _ => fun
  | [d1, d2] => { results := [.lit (.bool false)], args := [d1, d2] }
  | _ => none }
def UpkeepBestWrongFalsely : Prop := upkeepBestRow.holds Try.pinned (OpenSpec.ofChange upkeepBestWrong)

/-- 'barragelaw08.UpkeepWithout': WHATEVER THE INPUT: true; the input reads as it did. -/
def upkeepWithoutSpec : ChangeSpec := { name := "upkeepWithout", fn := fun _ => fun
  | [d1, d2] => { results := [.lit (.bool true)], args := [d1, d2] }
  | _ => none }
def upkeepWithoutRow : OpenClaim := { program := "ytkkajemahehoaaa", sum := "ce1c0f1476e5ea6e68137aff618645d0f3e70fbbb2edcbb10a3a0f79a57e5360", func := "barrage/barragelaw08.UpkeepWithout", spec := "upkeepWithout", unfollowed := true, recurses := true, apart := false }
def UpkeepWithoutSaid : Prop := upkeepWithoutRow.holds Try.pinned (OpenSpec.ofChange upkeepWithoutSpec)

/-- ITS FALSE NEIGHBOUR: 'it returns false'. Refute it at one input. -/
def upkeepWithoutWrong : ChangeSpec := { name := "upkeepWithout", fn := fun _ => fun
  | [d1, d2] => { results := [.lit (.bool false)], args := [d1, d2] }
  | _ => none }
def UpkeepWithoutWrongFalsely : Prop := upkeepWithoutRow.holds Try.pinned (OpenSpec.ofChange upkeepWithoutWrong)

/-- 'barragelaw08.UpkeepOutside': WHATEVER THE INPUT: true; the input reads as it did. -/
def upkeepOutsideSpec : ChangeSpec := { name := "upkeepOutside", fn := fun _ => fun
  | [d1, d2] => { results := [.lit (.bool true)], args := [d1, d2] }
  | _ => none }
def upkeepOutsideRow : OpenClaim := { program := "ytkkajemahehoaaa", sum := "ce1c0f1476e5ea6e68137aff618645d0f3e70fbbb2edcbb10a3a0f79a57e5360", func := "barrage/barragelaw08.UpkeepOutside", spec := "upkeepOutside", unfollowed := true, recurses := true, apart := false }
def UpkeepOutsideSaid : Prop := upkeepOutsideRow.holds Try.pinned (OpenSpec.ofChange upkeepOutsideSpec)

/-- ITS FALSE NEIGHBOUR: 'it returns false'. Refute it at one input. -/
def upkeepOutsideWrong : ChangeSpec := { name := "upkeepOutside", fn := fun _ => fun
  | [d1, d2] => { results := [.lit (.bool false)], args := [d1, d2] }
  | _ => none }
def UpkeepOutsideWrongFalsely : Prop := upkeepOutsideRow.holds Try.pinned (OpenSpec.ofChange upkeepOutsideWrong)

/-- 'barragelaw08.UpkeepRecords': WHATEVER THE INPUT: true; the input reads as it did. -/
def upkeepRecordsSpec : ChangeSpec := { name := "upkeepRecords", fn := fun _ => fun
  | [d1, d2] => { results := [.lit (.bool true)], args := [d1, d2] }
  | _ => none }
def upkeepRecordsRow : OpenClaim := { program := "ytkkajemahehoaaa", sum := "ce1c0f1476e5ea6e68137aff618645d0f3e70fbbb2edcbb10a3a0f79a57e5360", func := "barrage/barragelaw08.UpkeepRecords", spec := "upkeepRecords", unfollowed := true, recurses := true, apart := false }
def UpkeepRecordsSaid : Prop := upkeepRecordsRow.holds Try.pinned (OpenSpec.ofChange upkeepRecordsSpec)

/-- ITS FALSE NEIGHBOUR: 'it returns false'. Refute it at one input. -/
def upkeepRecordsWrong : ChangeSpec := { name := "upkeepRecords", fn := fun _ => fun
  | [d1, d2] => { results := [.lit (.bool false)], args := [d1, d2] }
  | _ => none }
def UpkeepRecordsWrongFalsely : Prop := upkeepRecordsRow.holds Try.pinned (OpenSpec.ofChange upkeepRecordsWrong)

/-- 'barragelaw08.UpkeepRanks': WHATEVER THE INPUT: true; the input reads as it did. -/
def upkeepRanksSpec : ChangeSpec := { name := "upkeepRanks", fn := fun _ => fun
  | [d1, d2] => { results := [.lit (.bool true)], args := [d1, d2] }
  | _ => none }
def upkeepRanksRow : OpenClaim := { program := "ytkkajemahehoaaa", sum := "ce1c0f1476e5ea6e68137aff618645d0f3e70fbbb2edcbb10a3a0f79a57e5360", func := "barrage/barragelaw08.UpkeepRanks", spec := "upkeepRanks", unfollowed := true, recurses := true, apart := false }
def UpkeepRanksSaid : Prop := upkeepRanksRow.holds Try.pinned (OpenSpec.ofChange upkeepRanksSpec)

/-- ITS FALSE NEIGHBOUR: 'it returns false'. Refute it at one input. -/
def upkeepRanksWrong : ChangeSpec := { name := "upkeepRanks", fn := fun _ => fun
  | [d1, d2] => { results := [.lit (.bool false)], args := [d1, d2] }
  | _ => none }
def UpkeepRanksWrongFalsely : Prop := upkeepRanksRow.holds Try.pinned (OpenSpec.ofChange upkeepRanksWrong)

/-- 'barragelaw08.UpkeepKnown': WHATEVER THE INPUT: true; the input reads as it did. -/
def upkeepKnownSpec : ChangeSpec := { name := "upkeepKnown", fn := fun _ => fun
  | [] => { results := [.lit (.bool true)], args := [] }
  | _ => none }
def upkeepKnownRow : OpenClaim := { program := "ytkkajemahehoaaa", sum := "ce1c0f1476e5ea6e68137aff618645d0f3e70fbbb2edcbb10a3a0f79a57e5360", func := "barrage/barragelaw08.UpkeepKnown", spec := "upkeepKnown", unfollowed := true, recurses := true, apart := false }
def UpkeepKnownSaid : Prop := upkeepKnownRow.holds Try.pinned (OpenSpec.ofChange upkeepKnownSpec)

/-- ITS FALSE NEIGHBOUR: 'it returns false'. Refute it at one input. -/
def upkeepKnownWrong : ChangeSpec := { name := "upkeepKnown", fn := fun _ => fun
  | [] => { results := [.lit (.bool false)], args := [] }
  | _ => none }
def UpkeepKnownWrongFalsely : Prop := upkeepKnownRow.holds Try.pinned (OpenSpec.ofChange upkeepKnownWrong)

/- THE SECOND FORM. 'bulk': how many values and letters a reading holds, each counted each time it is reached (what is shared counts as often as it is met; a slice's spare places count too). A statement '..UptoSaid' is the law's where the arguments, and the package variables that the reading takes, are together of bulk at most 1048576: NARROWER than '..Said'. Prove '..Said' where nothing that the law and all that it calls make is longer than what came in: it says more and counts as full. Else prove '..UptoSaid'. A law counts once. -/
mutual
def uptoBulk {H : Type} : DataW H → Nat
  | .lit (.string bytes) => bytes.length + 1
  | .lit _ => 1
  | .nil => 1
  | .ptr d => uptoBulk d + 1
  | .slice elems spare => uptoBulkAll elems + uptoBulkAll spare + 1
  | .agg parts => uptoBulkAll parts + 1
  | .iface _ d => uptoBulk d + 1
  | .map entries => uptoBulkEntries entries + 1
  | .held _ => 1
def uptoBulkAll {H : Type} : List (DataW H) → Nat
  | [] => 0
  | d :: r => uptoBulk d + uptoBulkAll r
def uptoBulkEntries {H : Type} : List (Lit × DataW H) → Nat
  | [] => 0
  | x :: r => uptoBulkEntry x + uptoBulkEntries r
def uptoBulkEntry {H : Type} : Lit × DataW H → Nat
  | (.string bytes, d) => bytes.length + uptoBulk d + 1
  | (_, d) => uptoBulk d + 1
 end
def uptoSmall : (H : Type) → List (DataW H) → Bool := fun _ ds => decide (uptoBulkAll ds ≤ 1048576)
def OpenSpec.upto (s : _root_.Go.ChangeSpec) : _root_.Go.OpenSpec := { _root_.Go.OpenSpec.ofChange s with cond := some uptoSmall }

/-- 'barragelaw08.UpkeepChecks', WHERE WHAT IT READS IS OF BULK AT MOST 1048576: true; the input reads as it did. -/
def upkeepChecksUptoRow : OpenClaim := { program := "ytkkajemahehoaaa", sum := "ce1c0f1476e5ea6e68137aff618645d0f3e70fbbb2edcbb10a3a0f79a57e5360", func := "barrage/barragelaw08.UpkeepChecks", spec := "upkeepChecks", unfollowed := true, recurses := true, apart := false, narrowed := true }
def UpkeepChecksUptoSaid : Prop := upkeepChecksUptoRow.holds Try.pinned (OpenSpec.upto upkeepChecksSpec)

/-- 'barragelaw08.UpkeepFinds', WHERE WHAT IT READS IS OF BULK AT MOST 1048576: true; the input reads as it did. -/
def upkeepFindsUptoRow : OpenClaim := { program := "ytkkajemahehoaaa", sum := "ce1c0f1476e5ea6e68137aff618645d0f3e70fbbb2edcbb10a3a0f79a57e5360", func := "barrage/barragelaw08.UpkeepFinds", spec := "upkeepFinds", unfollowed := true, recurses := true, apart := false, narrowed := true }
def UpkeepFindsUptoSaid : Prop := upkeepFindsUptoRow.holds Try.pinned (OpenSpec.upto upkeepFindsSpec)

/-- 'barragelaw08.UpkeepCounts', WHERE WHAT IT READS IS OF BULK AT MOST 1048576: true; the input reads as it did. -/
def upkeepCountsUptoRow : OpenClaim := { program := "ytkkajemahehoaaa", sum := "ce1c0f1476e5ea6e68137aff618645d0f3e70fbbb2edcbb10a3a0f79a57e5360", func := "barrage/barragelaw08.UpkeepCounts", spec := "upkeepCounts", unfollowed := true, recurses := true, apart := false, narrowed := true }
def UpkeepCountsUptoSaid : Prop := upkeepCountsUptoRow.holds Try.pinned (OpenSpec.upto upkeepCountsSpec)

/-- 'barragelaw08.UpkeepLess', WHERE WHAT IT READS IS OF BULK AT MOST 1048576: true; the input reads as it did. -/
def upkeepLessUptoRow : OpenClaim := { program := "ytkkajemahehoaaa", sum := "ce1c0f1476e5ea6e68137aff618645d0f3e70fbbb2edcbb10a3a0f79a57e5360", func := "barrage/barragelaw08.UpkeepLess", spec := "upkeepLess", unfollowed := true, recurses := true, apart := false, narrowed := true }
def UpkeepLessUptoSaid : Prop := upkeepLessUptoRow.holds Try.pinned (OpenSpec.upto upkeepLessSpec)

/-- 'barragelaw08.UpkeepSeasons', WHERE WHAT IT READS IS OF BULK AT MOST 1048576: true; the input reads as it did. -/
def upkeepSeasonsUptoRow : OpenClaim := { program := "ytkkajemahehoaaa", sum := "ce1c0f1476e5ea6e68137aff618645d0f3e70fbbb2edcbb10a3a0f79a57e5360", func := "barrage/barragelaw08.UpkeepSeasons", spec := "upkeepSeasons", unfollowed := true, recurses := true, apart := false, narrowed := true }
def UpkeepSeasonsUptoSaid : Prop := upkeepSeasonsUptoRow.holds Try.pinned (OpenSpec.upto upkeepSeasonsSpec)

/-- 'barragelaw08.UpkeepDays', WHERE WHAT IT READS IS OF BULK AT MOST 1048576: true; the input reads as it did. -/
def upkeepDaysUptoRow : OpenClaim := { program := "ytkkajemahehoaaa", sum := "ce1c0f1476e5ea6e68137aff618645d0f3e70fbbb2edcbb10a3a0f79a57e5360", func := "barrage/barragelaw08.UpkeepDays", spec := "upkeepDays", unfollowed := true, recurses := true, apart := false, narrowed := true }
def UpkeepDaysUptoSaid : Prop := upkeepDaysUptoRow.holds Try.pinned (OpenSpec.upto upkeepDaysSpec)

/-- 'barragelaw08.UpkeepMeets', WHERE WHAT IT READS IS OF BULK AT MOST 1048576: true; the input reads as it did. -/
def upkeepMeetsUptoRow : OpenClaim := { program := "ytkkajemahehoaaa", sum := "ce1c0f1476e5ea6e68137aff618645d0f3e70fbbb2edcbb10a3a0f79a57e5360", func := "barrage/barragelaw08.UpkeepMeets", spec := "upkeepMeets", unfollowed := true, recurses := true, apart := false, narrowed := true }
def UpkeepMeetsUptoSaid : Prop := upkeepMeetsUptoRow.holds Try.pinned (OpenSpec.upto upkeepMeetsSpec)

/-- 'barragelaw08.UpkeepParts', WHERE WHAT IT READS IS OF BULK AT MOST 1048576: true; the input reads as it did. -/
def upkeepPartsUptoRow : OpenClaim := { program := "ytkkajemahehoaaa", sum := "ce1c0f1476e5ea6e68137aff618645d0f3e70fbbb2edcbb10a3a0f79a57e5360", func := "barrage/barragelaw08.UpkeepParts", spec := "upkeepParts", unfollowed := true, recurses := true, apart := false, narrowed := true }
def UpkeepPartsUptoSaid : Prop := upkeepPartsUptoRow.holds Try.pinned (OpenSpec.upto upkeepPartsSpec)

/-- 'barragelaw08.UpkeepJudges', WHERE WHAT IT READS IS OF BULK AT MOST 1048576: true; the input reads as it did. -/
def upkeepJudgesUptoRow : OpenClaim := { program := "ytkkajemahehoaaa", sum := "ce1c0f1476e5ea6e68137aff618645d0f3e70fbbb2edcbb10a3a0f79a57e5360", func := "barrage/barragelaw08.UpkeepJudges", spec := "upkeepJudges", unfollowed := true, recurses := true, apart := false, narrowed := true }
def UpkeepJudgesUptoSaid : Prop := upkeepJudgesUptoRow.holds Try.pinned (OpenSpec.upto upkeepJudgesSpec)

/-- 'barragelaw08.UpkeepBest', WHERE WHAT IT READS IS OF BULK AT MOST 1048576: true; the input reads as it did. -/
def upkeepBestUptoRow : OpenClaim := { program := "ytkkajemahehoaaa", sum := "ce1c0f1476e5ea6e68137aff618645d0f3e70fbbb2edcbb10a3a0f79a57e5360", func := "barrage/barragelaw08.UpkeepBest", spec := "upkeepBest", unfollowed := true, recurses := true, apart := false, narrowed := true }
def UpkeepBestUptoSaid : Prop := upkeepBestUptoRow.holds Try.pinned (OpenSpec.upto upkeepBestSpec)

/-- 'barragelaw08.UpkeepWithout', WHERE WHAT IT READS IS OF BULK AT MOST 1048576: true; the input reads as it did. -/
def upkeepWithoutUptoRow : OpenClaim := { program := "ytkkajemahehoaaa", sum := "ce1c0f1476e5ea6e68137aff618645d0f3e70fbbb2edcbb10a3a0f79a57e5360", func := "barrage/barragelaw08.UpkeepWithout", spec := "upkeepWithout", unfollowed := true, recurses := true, apart := false, narrowed := true }
def UpkeepWithoutUptoSaid : Prop := upkeepWithoutUptoRow.holds Try.pinned (OpenSpec.upto upkeepWithoutSpec)

/-- 'barragelaw08.UpkeepOutside', WHERE WHAT IT READS IS OF BULK AT MOST 1048576: true; the input reads as it did. -/
def upkeepOutsideUptoRow : OpenClaim := { program := "ytkkajemahehoaaa", sum := "ce1c0f1476e5ea6e68137aff618645d0f3e70fbbb2edcbb10a3a0f79a57e5360", func := "barrage/barragelaw08.UpkeepOutside", spec := "upkeepOutside", unfollowed := true, recurses := true, apart := false, narrowed := true }
def UpkeepOutsideUptoSaid : Prop := upkeepOutsideUptoRow.holds Try.pinned (OpenSpec.upto upkeepOutsideSpec)

/-- 'barragelaw08.UpkeepRecords', WHERE WHAT IT READS IS OF BULK AT MOST 1048576: true; the input reads as it did. -/
def upkeepRecordsUptoRow : OpenClaim := { program := "ytkkajemahehoaaa", sum := "ce1c0f1476e5ea6e68137aff618645d0f3e70fbbb2edcbb10a3a0f79a57e5360", func := "barrage/barragelaw08.UpkeepRecords", spec := "upkeepRecords", unfollowed := true, recurses := true, apart := false, narrowed := true }
def UpkeepRecordsUptoSaid : Prop := upkeepRecordsUptoRow.holds Try.pinned (OpenSpec.upto upkeepRecordsSpec)

/-- 'barragelaw08.UpkeepRanks', WHERE WHAT IT READS IS OF BULK AT MOST 1048576: true; the input reads as it did. -/
def upkeepRanksUptoRow : OpenClaim := { program := "ytkkajemahehoaaa", sum := "ce1c0f1476e5ea6e68137aff618645d0f3e70fbbb2edcbb10a3a0f79a57e5360", func := "barrage/barragelaw08.UpkeepRanks", spec := "upkeepRanks", unfollowed := true, recurses := true, apart := false, narrowed := true }
def UpkeepRanksUptoSaid : Prop := upkeepRanksUptoRow.holds Try.pinned (OpenSpec.upto upkeepRanksSpec)

/-- 'barragelaw08.UpkeepKnown', WHERE WHAT IT READS IS OF BULK AT MOST 1048576: true; the input reads as it did. -/
def upkeepKnownUptoRow : OpenClaim := { program := "ytkkajemahehoaaa", sum := "ce1c0f1476e5ea6e68137aff618645d0f3e70fbbb2edcbb10a3a0f79a57e5360", func := "barrage/barragelaw08.UpkeepKnown", spec := "upkeepKnown", unfollowed := true, recurses := true, apart := false, narrowed := true }
def UpkeepKnownUptoSaid : Prop := upkeepKnownUptoRow.holds Try.pinned (OpenSpec.upto upkeepKnownSpec)

end Rows
end Go.Proofs.Ytkkajemahehoaaa
