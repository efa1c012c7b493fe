/-
  No cell of these rows narrows 'for every input' (looked for: loops, veiled, ifaces, maps, wideKeys, modest, calm, conditions, laid).
  DERIVED. THE GIVEN ROWS OF THIS SEAT. 14 by the template 'for every input the law returns true; each argument reads behind the call as it read before'; 0 by the template 'total and deterministic' (their statements: YtjjobgolpedgeaaTotals.lean).
  GIVEN WITH THE SEED: the statements are not yours to turn. If you find one false, say at which input.
  Laid BY PROGRAM, IN A SANDBOX (cutbox-rows.mjs): the forced cells as the released guide's own fill.sh prints them over the translation 1f24be86f778b5e6… (all of the seat's roots in one cut). By AI agents, Wed Nov 11 2026. No macro, syntax, notation, axiom, sorry.
-/
import Derived.Test.YtjjobgolpedgeaaChecked
import GoSem.Claim
import GoSem.ClaimJoined
import GoSem.ClaimMapViews
import Derived.JoinedTies
import Derived.KernelRfl
namespace Go.Proofs.Ytjjobgolpedgeaa
/- THE CELL 'sum', in the pinned program and in every row, IS THE sha256 OF THE DUMP (.gsa) THAT YtjjobgolpedgeaaProg.lean LOADS. Nothing in Lean hashes anything: it is a label: what it is worth is what the hold of that sum in a sandbox is worth. -/
noncomputable def Try.pinned : Pinned := { name := "ytjjobgolpedgeaa", sum := "1f24be86f778b5e653e614744768e7f88f431c5d3495ec2789604b5c4d17c995", checked := Try.checked }
namespace Rows
def none {H : Type} : Left H := { results := [], args := [] }

/-- 'amnesialaw08.TallyOnce': WHATEVER THE INPUT: true; the input reads as it did. -/
def tallyOnceSpec : ChangeSpec := { name := "tallyOnce", fn := fun _ => fun
  | [d1, d2] => { results := [.lit (.bool true)], args := [d1, d2] }
  | _ => none }
def tallyOnceRow : OpenClaim := { program := "ytjjobgolpedgeaa", sum := "1f24be86f778b5e653e614744768e7f88f431c5d3495ec2789604b5c4d17c995", func := "amnesia/amnesialaw08.TallyOnce", spec := "tallyOnce", unfollowed := true, recurses := true, apart := false }
def TallyOnceSaid : Prop := tallyOnceRow.holds Try.pinned (OpenSpec.ofChange tallyOnceSpec)

/-- ITS FALSE NEIGHBOUR: 'it returns false'. Refute it at one input. -/
def tallyOnceWrong : ChangeSpec := { name := "tallyOnce", fn := fun _ => fun
  | [d1, d2] => { results := [.lit (.bool false)], args := [d1, d2] }
  | _ => none }
def TallyOnceWrongFalsely : Prop := tallyOnceRow.holds Try.pinned (OpenSpec.ofChange tallyOnceWrong)

/-- 'amnesialaw08.TallySettled': WHATEVER THE INPUT: true; the input reads as it did. -/
def tallySettledSpec : ChangeSpec := { name := "tallySettled", fn := fun _ => fun
  | [d1, d2] => { results := [.lit (.bool true)], args := [d1, d2] }
  | _ => none }
def tallySettledRow : OpenClaim := { program := "ytjjobgolpedgeaa", sum := "1f24be86f778b5e653e614744768e7f88f431c5d3495ec2789604b5c4d17c995", func := "amnesia/amnesialaw08.TallySettled", spec := "tallySettled", unfollowed := true, recurses := true, apart := false }
def TallySettledSaid : Prop := tallySettledRow.holds Try.pinned (OpenSpec.ofChange tallySettledSpec)

/-- ITS FALSE NEIGHBOUR: 'it returns false'. Refute it at one input. -/
def tallySettledWrong : ChangeSpec := { name := "tallySettled", fn := fun _ => fun
  | [d1, d2] => { results := [.lit (.bool false)], args := [d1, d2] }
  | _ => none }
def TallySettledWrongFalsely : Prop := tallySettledRow.holds Try.pinned (OpenSpec.ofChange tallySettledWrong)

/-- 'amnesialaw08.TallyMeet': WHATEVER THE INPUT: true; the input reads as it did. -/
def tallyMeetSpec : ChangeSpec := { name := "tallyMeet", fn := fun _ => fun
  | [d1, d2, d3, d4] => { results := [.lit (.bool true)], args := [d1, d2, d3, d4] }
  | _ => none }
def tallyMeetRow : OpenClaim := { program := "ytjjobgolpedgeaa", sum := "1f24be86f778b5e653e614744768e7f88f431c5d3495ec2789604b5c4d17c995", func := "amnesia/amnesialaw08.TallyMeet", spec := "tallyMeet", unfollowed := true, recurses := true, apart := false }
def TallyMeetSaid : Prop := tallyMeetRow.holds Try.pinned (OpenSpec.ofChange tallyMeetSpec)

/-- ITS FALSE NEIGHBOUR: 'it returns false'. Refute it at one input. -/
def tallyMeetWrong : ChangeSpec := { name := "tallyMeet", fn := fun _ => fun
  | [d1, d2, d3, d4] => { results := [.lit (.bool false)], args := [d1, d2, d3, d4] }
  | _ => none }
def TallyMeetWrongFalsely : Prop := tallyMeetRow.holds Try.pinned (OpenSpec.ofChange tallyMeetWrong)

/-- 'amnesialaw08.TallyBallotsOnce': WHATEVER THE INPUT: true; the input reads as it did. -/
def tallyBallotsOnceSpec : ChangeSpec := { name := "tallyBallotsOnce", fn := fun _ => fun
  | [d1, d2, d3] => { results := [.lit (.bool true)], args := [d1, d2, d3] }
  | _ => none }
def tallyBallotsOnceRow : OpenClaim := { program := "ytjjobgolpedgeaa", sum := "1f24be86f778b5e653e614744768e7f88f431c5d3495ec2789604b5c4d17c995", func := "amnesia/amnesialaw08.TallyBallotsOnce", spec := "tallyBallotsOnce", unfollowed := true, recurses := true, apart := false }
def TallyBallotsOnceSaid : Prop := tallyBallotsOnceRow.holds Try.pinned (OpenSpec.ofChange tallyBallotsOnceSpec)

/-- ITS FALSE NEIGHBOUR: 'it returns false'. Refute it at one input. -/
def tallyBallotsOnceWrong : ChangeSpec := { name := "tallyBallotsOnce", fn := fun _ => fun
  | [d1, d2, d3] => { results := [.lit (.bool false)], args := [d1, d2, d3] }
  | _ => none }
def TallyBallotsOnceWrongFalsely : Prop := tallyBallotsOnceRow.holds Try.pinned (OpenSpec.ofChange tallyBallotsOnceWrong)

/-- 'amnesialaw08.TallyChoice': WHATEVER THE INPUT: true; the input reads as it did. -/
def tallyChoiceSpec : ChangeSpec := { name := "tallyChoice", fn := fun _ => fun
  | [d1, d2, d3] => { results := [.lit (.bool true)], args := [d1, d2, d3] }
  | _ => none }
def tallyChoiceRow : OpenClaim := { program := "ytjjobgolpedgeaa", sum := "1f24be86f778b5e653e614744768e7f88f431c5d3495ec2789604b5c4d17c995", func := "amnesia/amnesialaw08.TallyChoice", spec := "tallyChoice", unfollowed := true, recurses := true, apart := false }
def TallyChoiceSaid : Prop := tallyChoiceRow.holds Try.pinned (OpenSpec.ofChange tallyChoiceSpec)

/-- ITS FALSE NEIGHBOUR: 'it returns false'. Refute it at one input. -/
def tallyChoiceWrong : ChangeSpec := { name := "tallyChoice", fn := fun _ => fun
  | [d1, d2, d3] => { results := [.lit (.bool false)], args := [d1, d2, d3] }
  | _ => none }
def TallyChoiceWrongFalsely : Prop := tallyChoiceRow.holds Try.pinned (OpenSpec.ofChange tallyChoiceWrong)

/-- 'amnesialaw08.TallyPrunes': WHATEVER THE INPUT: true; the input reads as it did. -/
def tallyPrunesSpec : ChangeSpec := { name := "tallyPrunes", fn := fun _ => fun
  | [d1, d2, d3] => { results := [.lit (.bool true)], args := [d1, d2, d3] }
  | _ => none }
def tallyPrunesRow : OpenClaim := { program := "ytjjobgolpedgeaa", sum := "1f24be86f778b5e653e614744768e7f88f431c5d3495ec2789604b5c4d17c995", func := "amnesia/amnesialaw08.TallyPrunes", spec := "tallyPrunes", unfollowed := true, recurses := true, apart := false }
def TallyPrunesSaid : Prop := tallyPrunesRow.holds Try.pinned (OpenSpec.ofChange tallyPrunesSpec)

/-- ITS FALSE NEIGHBOUR: 'it returns false'. Refute it at one input. -/
def tallyPrunesWrong : ChangeSpec := { name := "tallyPrunes", fn := fun _ => fun
  | [d1, d2, d3] => { results := [.lit (.bool false)], args := [d1, d2, d3] }
  | _ => none }
def TallyPrunesWrongFalsely : Prop := tallyPrunesRow.holds Try.pinned (OpenSpec.ofChange tallyPrunesWrong)

/-- 'amnesialaw08.TallyReaches': WHATEVER THE INPUT: true; the input reads as it did. -/
def tallyReachesSpec : ChangeSpec := { name := "tallyReaches", fn := fun _ => fun
  | [d1, d2, d3, d4] => { results := [.lit (.bool true)], args := [d1, d2, d3, d4] }
  | _ => none }
def tallyReachesRow : OpenClaim := { program := "ytjjobgolpedgeaa", sum := "1f24be86f778b5e653e614744768e7f88f431c5d3495ec2789604b5c4d17c995", func := "amnesia/amnesialaw08.TallyReaches", spec := "tallyReaches", unfollowed := true, recurses := true, apart := false }
def TallyReachesSaid : Prop := tallyReachesRow.holds Try.pinned (OpenSpec.ofChange tallyReachesSpec)

/-- ITS FALSE NEIGHBOUR: 'it returns false'. Refute it at one input. -/
def tallyReachesWrong : ChangeSpec := { name := "tallyReaches", fn := fun _ => fun
  | [d1, d2, d3, d4] => { results := [.lit (.bool false)], args := [d1, d2, d3, d4] }
  | _ => none }
def TallyReachesWrongFalsely : Prop := tallyReachesRow.holds Try.pinned (OpenSpec.ofChange tallyReachesWrong)

/-- 'amnesialaw08.TallyQuorum': WHATEVER THE INPUT: true; the input reads as it did. -/
def tallyQuorumSpec : ChangeSpec := { name := "tallyQuorum", fn := fun _ => fun
  | [d1, d2, d3, d4] => { results := [.lit (.bool true)], args := [d1, d2, d3, d4] }
  | _ => none }
def tallyQuorumRow : OpenClaim := { program := "ytjjobgolpedgeaa", sum := "1f24be86f778b5e653e614744768e7f88f431c5d3495ec2789604b5c4d17c995", func := "amnesia/amnesialaw08.TallyQuorum", spec := "tallyQuorum", unfollowed := true, recurses := true, apart := false }
def TallyQuorumSaid : Prop := tallyQuorumRow.holds Try.pinned (OpenSpec.ofChange tallyQuorumSpec)

/-- ITS FALSE NEIGHBOUR: 'it returns false'. Refute it at one input. -/
def tallyQuorumWrong : ChangeSpec := { name := "tallyQuorum", fn := fun _ => fun
  | [d1, d2, d3, d4] => { results := [.lit (.bool false)], args := [d1, d2, d3, d4] }
  | _ => none }
def TallyQuorumWrongFalsely : Prop := tallyQuorumRow.holds Try.pinned (OpenSpec.ofChange tallyQuorumWrong)

/-- 'amnesialaw08.TallyMarks': WHATEVER THE INPUT: true; the input reads as it did. -/
def tallyMarksSpec : ChangeSpec := { name := "tallyMarks", fn := fun _ => fun
  | [d1, d2, d3, d4, d5] => { results := [.lit (.bool true)], args := [d1, d2, d3, d4, d5] }
  | _ => none }
def tallyMarksRow : OpenClaim := { program := "ytjjobgolpedgeaa", sum := "1f24be86f778b5e653e614744768e7f88f431c5d3495ec2789604b5c4d17c995", func := "amnesia/amnesialaw08.TallyMarks", spec := "tallyMarks", unfollowed := true, recurses := true, apart := false }
def TallyMarksSaid : Prop := tallyMarksRow.holds Try.pinned (OpenSpec.ofChange tallyMarksSpec)

/-- ITS FALSE NEIGHBOUR: 'it returns false'. Refute it at one input. -/
def tallyMarksWrong : ChangeSpec := { name := "tallyMarks", fn := fun _ => fun
  | [d1, d2, d3, d4, d5] => { results := [.lit (.bool false)], args := [d1, d2, d3, d4, d5] }
  | _ => none }
def TallyMarksWrongFalsely : Prop := tallyMarksRow.holds Try.pinned (OpenSpec.ofChange tallyMarksWrong)

/-- 'amnesialaw08.TallyOwn': WHATEVER THE INPUT: true; the input reads as it did. -/
def tallyOwnSpec : ChangeSpec := { name := "tallyOwn", fn := fun _ => fun
  | [d1, d2, d3, d4, d5] => { results := [.lit (.bool true)], args := [d1, d2, d3, d4, d5] }
  | _ => none }
def tallyOwnRow : OpenClaim := { program := "ytjjobgolpedgeaa", sum := "1f24be86f778b5e653e614744768e7f88f431c5d3495ec2789604b5c4d17c995", func := "amnesia/amnesialaw08.TallyOwn", spec := "tallyOwn", unfollowed := true, recurses := true, apart := false }
def TallyOwnSaid : Prop := tallyOwnRow.holds Try.pinned (OpenSpec.ofChange tallyOwnSpec)

/-- ITS FALSE NEIGHBOUR: 'it returns false'. Refute it at one input. -/
def tallyOwnWrong : ChangeSpec := { name := "tallyOwn", fn := fun _ => fun
  | [d1, d2, d3, d4, d5] => { results := [.lit (.bool false)], args := [d1, d2, d3, d4, d5] }
  | _ => none }
def TallyOwnWrongFalsely : Prop := tallyOwnRow.holds Try.pinned (OpenSpec.ofChange tallyOwnWrong)

/-- 'amnesialaw08.TallyAcks': WHATEVER THE INPUT: true; the input reads as it did. -/
def tallyAcksSpec : ChangeSpec := { name := "tallyAcks", fn := fun _ => fun
  | [d1, d2, d3, d4, d5] => { results := [.lit (.bool true)], args := [d1, d2, d3, d4, d5] }
  | _ => none }
def tallyAcksRow : OpenClaim := { program := "ytjjobgolpedgeaa", sum := "1f24be86f778b5e653e614744768e7f88f431c5d3495ec2789604b5c4d17c995", func := "amnesia/amnesialaw08.TallyAcks", spec := "tallyAcks", unfollowed := true, recurses := true, apart := false }
def TallyAcksSaid : Prop := tallyAcksRow.holds Try.pinned (OpenSpec.ofChange tallyAcksSpec)

/-- ITS FALSE NEIGHBOUR: 'it returns false'. Refute it at one input. -/
def tallyAcksWrong : ChangeSpec := { name := "tallyAcks", fn := fun _ => fun
  | [d1, d2, d3, d4, d5] => { results := [.lit (.bool false)], args := [d1, d2, d3, d4, d5] }
  | _ => none }
def TallyAcksWrongFalsely : Prop := tallyAcksRow.holds Try.pinned (OpenSpec.ofChange tallyAcksWrong)

/-- 'amnesialaw08.TallyAnswers': WHATEVER THE INPUT: true; the input reads as it did. -/
def tallyAnswersSpec : ChangeSpec := { name := "tallyAnswers", fn := fun _ => fun
  | [d1, d2, d3, d4, d5] => { results := [.lit (.bool true)], args := [d1, d2, d3, d4, d5] }
  | _ => none }
def tallyAnswersRow : OpenClaim := { program := "ytjjobgolpedgeaa", sum := "1f24be86f778b5e653e614744768e7f88f431c5d3495ec2789604b5c4d17c995", func := "amnesia/amnesialaw08.TallyAnswers", spec := "tallyAnswers", unfollowed := true, recurses := true, apart := false }
def TallyAnswersSaid : Prop := tallyAnswersRow.holds Try.pinned (OpenSpec.ofChange tallyAnswersSpec)

/-- ITS FALSE NEIGHBOUR: 'it returns false'. Refute it at one input. -/
def tallyAnswersWrong : ChangeSpec := { name := "tallyAnswers", fn := fun _ => fun
  | [d1, d2, d3, d4, d5] => { results := [.lit (.bool false)], args := [d1, d2, d3, d4, d5] }
  | _ => none }
def TallyAnswersWrongFalsely : Prop := tallyAnswersRow.holds Try.pinned (OpenSpec.ofChange tallyAnswersWrong)

/-- 'amnesialaw08.TallyStays': WHATEVER THE INPUT: true; the input reads as it did. -/
def tallyStaysSpec : ChangeSpec := { name := "tallyStays", fn := fun _ => fun
  | [d1, d2, d3, d4, d5] => { results := [.lit (.bool true)], args := [d1, d2, d3, d4, d5] }
  | _ => none }
def tallyStaysRow : OpenClaim := { program := "ytjjobgolpedgeaa", sum := "1f24be86f778b5e653e614744768e7f88f431c5d3495ec2789604b5c4d17c995", func := "amnesia/amnesialaw08.TallyStays", spec := "tallyStays", unfollowed := true, recurses := true, apart := false }
def TallyStaysSaid : Prop := tallyStaysRow.holds Try.pinned (OpenSpec.ofChange tallyStaysSpec)

/-- ITS FALSE NEIGHBOUR: 'it returns false'. Refute it at one input. -/
def tallyStaysWrong : ChangeSpec := { name := "tallyStays", fn := fun _ => fun
  | [d1, d2, d3, d4, d5] => { results := [.lit (.bool false)], args := [d1, d2, d3, d4, d5] }
  | _ => none }
def TallyStaysWrongFalsely : Prop := tallyStaysRow.holds Try.pinned (OpenSpec.ofChange tallyStaysWrong)

/-- 'amnesialaw08.TallyBallots': WHATEVER THE INPUT: true; the input reads as it did. -/
def tallyBallotsSpec : ChangeSpec := { name := "tallyBallots", fn := fun _ => fun
  | [d1, d2, d3, d4, d5] => { results := [.lit (.bool true)], args := [d1, d2, d3, d4, d5] }
  | _ => none }
def tallyBallotsRow : OpenClaim := { program := "ytjjobgolpedgeaa", sum := "1f24be86f778b5e653e614744768e7f88f431c5d3495ec2789604b5c4d17c995", func := "amnesia/amnesialaw08.TallyBallots", spec := "tallyBallots", unfollowed := true, recurses := true, apart := false }
def TallyBallotsSaid : Prop := tallyBallotsRow.holds Try.pinned (OpenSpec.ofChange tallyBallotsSpec)

/-- ITS FALSE NEIGHBOUR: 'it returns false'. Refute it at one input. -/
def tallyBallotsWrong : ChangeSpec := { name := "tallyBallots", fn := fun _ => fun
  | [d1, d2, d3, d4, d5] => { results := [.lit (.bool false)], args := [d1, d2, d3, d4, d5] }
  | _ => none }
def TallyBallotsWrongFalsely : Prop := tallyBallotsRow.holds Try.pinned (OpenSpec.ofChange tallyBallotsWrong)

/- THE SECOND FORM. 'bulk': how many values and letters a reading holds, each counted each time it is reached (what is shared counts as often as it is met; a slice's spare places count too). A statement '..UptoSaid' is the law's where the arguments, and the package variables that the reading takes, are together of bulk at most 1048576: NARROWER than '..Said'. Prove '..Said' where nothing that the law and all that it calls make is longer than what came in: it says more and counts as full. Else prove '..UptoSaid'. A law counts once. -/
mutual
def uptoBulk {H : Type} : DataW H → Nat
  | .lit (.string bytes) => bytes.length + 1
  | .lit _ => 1
  | .nil => 1
  | .ptr d => uptoBulk d + 1
  | .slice elems spare => uptoBulkAll elems + uptoBulkAll spare + 1
  | .agg parts => uptoBulkAll parts + 1
  | .iface _ d => uptoBulk d + 1
  | .map entries => uptoBulkEntries entries + 1
  | .held _ => 1
def uptoBulkAll {H : Type} : List (DataW H) → Nat
  | [] => 0
  | d :: r => uptoBulk d + uptoBulkAll r
def uptoBulkEntries {H : Type} : List (Lit × DataW H) → Nat
  | [] => 0
  | x :: r => uptoBulkEntry x + uptoBulkEntries r
def uptoBulkEntry {H : Type} : Lit × DataW H → Nat
  | (.string bytes, d) => bytes.length + uptoBulk d + 1
  | (_, d) => uptoBulk d + 1
 end
def uptoSmall : (H : Type) → List (DataW H) → Bool := fun _ ds => decide (uptoBulkAll ds ≤ 1048576)
def OpenSpec.upto (s : _root_.Go.ChangeSpec) : _root_.Go.OpenSpec := { _root_.Go.OpenSpec.ofChange s with cond := some uptoSmall }

/-- 'amnesialaw08.TallyOnce', WHERE WHAT IT READS IS OF BULK AT MOST 1048576: true; the input reads as it did. -/
def tallyOnceUptoRow : OpenClaim := { program := "ytjjobgolpedgeaa", sum := "1f24be86f778b5e653e614744768e7f88f431c5d3495ec2789604b5c4d17c995", func := "amnesia/amnesialaw08.TallyOnce", spec := "tallyOnce", unfollowed := true, recurses := true, apart := false, narrowed := true }
def TallyOnceUptoSaid : Prop := tallyOnceUptoRow.holds Try.pinned (OpenSpec.upto tallyOnceSpec)

/-- 'amnesialaw08.TallySettled', WHERE WHAT IT READS IS OF BULK AT MOST 1048576: true; the input reads as it did. -/
def tallySettledUptoRow : OpenClaim := { program := "ytjjobgolpedgeaa", sum := "1f24be86f778b5e653e614744768e7f88f431c5d3495ec2789604b5c4d17c995", func := "amnesia/amnesialaw08.TallySettled", spec := "tallySettled", unfollowed := true, recurses := true, apart := false, narrowed := true }
def TallySettledUptoSaid : Prop := tallySettledUptoRow.holds Try.pinned (OpenSpec.upto tallySettledSpec)

/-- 'amnesialaw08.TallyMeet', WHERE WHAT IT READS IS OF BULK AT MOST 1048576: true; the input reads as it did. -/
def tallyMeetUptoRow : OpenClaim := { program := "ytjjobgolpedgeaa", sum := "1f24be86f778b5e653e614744768e7f88f431c5d3495ec2789604b5c4d17c995", func := "amnesia/amnesialaw08.TallyMeet", spec := "tallyMeet", unfollowed := true, recurses := true, apart := false, narrowed := true }
def TallyMeetUptoSaid : Prop := tallyMeetUptoRow.holds Try.pinned (OpenSpec.upto tallyMeetSpec)

/-- 'amnesialaw08.TallyBallotsOnce', WHERE WHAT IT READS IS OF BULK AT MOST 1048576: true; the input reads as it did. -/
def tallyBallotsOnceUptoRow : OpenClaim := { program := "ytjjobgolpedgeaa", sum := "1f24be86f778b5e653e614744768e7f88f431c5d3495ec2789604b5c4d17c995", func := "amnesia/amnesialaw08.TallyBallotsOnce", spec := "tallyBallotsOnce", unfollowed := true, recurses := true, apart := false, narrowed := true }
def TallyBallotsOnceUptoSaid : Prop := tallyBallotsOnceUptoRow.holds Try.pinned (OpenSpec.upto tallyBallotsOnceSpec)

/-- 'amnesialaw08.TallyChoice', WHERE WHAT IT READS IS OF BULK AT MOST 1048576: true; the input reads as it did. -/
def tallyChoiceUptoRow : OpenClaim := { program := "ytjjobgolpedgeaa", sum := "1f24be86f778b5e653e614744768e7f88f431c5d3495ec2789604b5c4d17c995", func := "amnesia/amnesialaw08.TallyChoice", spec := "tallyChoice", unfollowed := true, recurses := true, apart := false, narrowed := true }
def TallyChoiceUptoSaid : Prop := tallyChoiceUptoRow.holds Try.pinned (OpenSpec.upto tallyChoiceSpec)

/-- 'amnesialaw08.TallyPrunes', WHERE WHAT IT READS IS OF BULK AT MOST 1048576: true; the input reads as it did. -/
def tallyPrunesUptoRow : OpenClaim := { program := "ytjjobgolpedgeaa", sum := "1f24be86f778b5e653e614744768e7f88f431c5d3495ec2789604b5c4d17c995", func := "amnesia/amnesialaw08.TallyPrunes", spec := "tallyPrunes", unfollowed := true, recurses := true, apart := false, narrowed := true }
def TallyPrunesUptoSaid : Prop := tallyPrunesUptoRow.holds Try.pinned (OpenSpec.upto tallyPrunesSpec)

/-- 'amnesialaw08.TallyReaches', WHERE WHAT IT READS IS OF BULK AT MOST 1048576: true; the input reads as it did. -/
def tallyReachesUptoRow : OpenClaim := { program := "ytjjobgolpedgeaa", sum := "1f24be86f778b5e653e614744768e7f88f431c5d3495ec2789604b5c4d17c995", func := "amnesia/amnesialaw08.TallyReaches", spec := "tallyReaches", unfollowed := true, recurses := true, apart := false, narrowed := true }
def TallyReachesUptoSaid : Prop := tallyReachesUptoRow.holds Try.pinned (OpenSpec.upto tallyReachesSpec)

/-- 'amnesialaw08.TallyQuorum', WHERE WHAT IT READS IS OF BULK AT MOST 1048576: true; the input reads as it did. -/
def tallyQuorumUptoRow : OpenClaim := { program := "ytjjobgolpedgeaa", sum := "1f24be86f778b5e653e614744768e7f88f431c5d3495ec2789604b5c4d17c995", func := "amnesia/amnesialaw08.TallyQuorum", spec := "tallyQuorum", unfollowed := true, recurses := true, apart := false, narrowed := true }
def TallyQuorumUptoSaid : Prop := tallyQuorumUptoRow.holds Try.pinned (OpenSpec.upto tallyQuorumSpec)

/-- 'amnesialaw08.TallyMarks', WHERE WHAT IT READS IS OF BULK AT MOST 1048576: true; the input reads as it did. -/
def tallyMarksUptoRow : OpenClaim := { program := "ytjjobgolpedgeaa", sum := "1f24be86f778b5e653e614744768e7f88f431c5d3495ec2789604b5c4d17c995", func := "amnesia/amnesialaw08.TallyMarks", spec := "tallyMarks", unfollowed := true, recurses := true, apart := false, narrowed := true }
def TallyMarksUptoSaid : Prop := tallyMarksUptoRow.holds Try.pinned (OpenSpec.upto tallyMarksSpec)

/-- 'amnesialaw08.TallyOwn', WHERE WHAT IT READS IS OF BULK AT MOST 1048576: true; the input reads as it did. -/
def tallyOwnUptoRow : OpenClaim := { program := "ytjjobgolpedgeaa", sum := "1f24be86f778b5e653e614744768e7f88f431c5d3495ec2789604b5c4d17c995", func := "amnesia/amnesialaw08.TallyOwn", spec := "tallyOwn", unfollowed := true, recurses := true, apart := false, narrowed := true }
def TallyOwnUptoSaid : Prop := tallyOwnUptoRow.holds Try.pinned (OpenSpec.upto tallyOwnSpec)

/-- 'amnesialaw08.TallyAcks', WHERE WHAT IT READS IS OF BULK AT MOST 1048576: true; the input reads as it did. -/
def tallyAcksUptoRow : OpenClaim := { program := "ytjjobgolpedgeaa", sum := "1f24be86f778b5e653e614744768e7f88f431c5d3495ec2789604b5c4d17c995", func := "amnesia/amnesialaw08.TallyAcks", spec := "tallyAcks", unfollowed := true, recurses := true, apart := false, narrowed := true }
def TallyAcksUptoSaid : Prop := tallyAcksUptoRow.holds Try.pinned (OpenSpec.upto tallyAcksSpec)

/-- 'amnesialaw08.TallyAnswers', WHERE WHAT IT READS IS OF BULK AT MOST 1048576: true; the input reads as it did. -/
def tallyAnswersUptoRow : OpenClaim := { program := "ytjjobgolpedgeaa", sum := "1f24be86f778b5e653e614744768e7f88f431c5d3495ec2789604b5c4d17c995", func := "amnesia/amnesialaw08.TallyAnswers", spec := "tallyAnswers", unfollowed := true, recurses := true, apart := false, narrowed := true }
def TallyAnswersUptoSaid : Prop := tallyAnswersUptoRow.holds Try.pinned (OpenSpec.upto tallyAnswersSpec)

/-- 'amnesialaw08.TallyStays', WHERE WHAT IT READS IS OF BULK AT MOST 1048576: true; the input reads as it did. -/
def tallyStaysUptoRow : OpenClaim := { program := "ytjjobgolpedgeaa", sum := "1f24be86f778b5e653e614744768e7f88f431c5d3495ec2789604b5c4d17c995", func := "amnesia/amnesialaw08.TallyStays", spec := "tallyStays", unfollowed := true, recurses := true, apart := false, narrowed := true }
def TallyStaysUptoSaid : Prop := tallyStaysUptoRow.holds Try.pinned (OpenSpec.upto tallyStaysSpec)

/-- 'amnesialaw08.TallyBallots', WHERE WHAT IT READS IS OF BULK AT MOST 1048576: true; the input reads as it did. -/
def tallyBallotsUptoRow : OpenClaim := { program := "ytjjobgolpedgeaa", sum := "1f24be86f778b5e653e614744768e7f88f431c5d3495ec2789604b5c4d17c995", func := "amnesia/amnesialaw08.TallyBallots", spec := "tallyBallots", unfollowed := true, recurses := true, apart := false, narrowed := true }
def TallyBallotsUptoSaid : Prop := tallyBallotsUptoRow.holds Try.pinned (OpenSpec.upto tallyBallotsSpec)

end Rows
end Go.Proofs.Ytjjobgolpedgeaa
