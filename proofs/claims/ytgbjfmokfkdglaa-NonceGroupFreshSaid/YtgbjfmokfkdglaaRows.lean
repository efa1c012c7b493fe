/-
  No cell of these rows narrows 'for every input' (looked for: loops, veiled, ifaces, maps, wideKeys, modest, calm, conditions, laid).
  DERIVED. THE GIVEN ROWS OF THIS SEAT. 10 by the template 'for every input the law returns true; each argument reads behind the call as it read before'; 0 by the template 'total and deterministic' (their statements: YtgbjfmokfkdglaaTotals.lean).
  GIVEN WITH THE SEED: the statements are not yours to turn. If you find one false, say at which input.
  Laid BY PROGRAM, IN A SANDBOX (cutbox-rows.mjs): the forced cells as the released guide's own fill.sh prints them over the translation 9e688dec4b3d2310… (all of the seat's roots in one cut). By AI agents, Wed Nov 11 2026. No macro, syntax, notation, axiom, sorry.
-/
import Derived.Test.YtgbjfmokfkdglaaChecked
import GoSem.Claim
import GoSem.ClaimJoined
import GoSem.ClaimMapViews
import Derived.JoinedTies
import Derived.KernelRfl
namespace Go.Proofs.Ytgbjfmokfkdglaa
/- THE CELL 'sum', in the pinned program and in every row, IS THE sha256 OF THE DUMP (.gsa) THAT YtgbjfmokfkdglaaProg.lean LOADS. Nothing in Lean hashes anything: it is a label: what it is worth is what the hold of that sum in a sandbox is worth. -/
noncomputable def Try.pinned : Pinned := { name := "ytgbjfmokfkdglaa", sum := "9e688dec4b3d2310f37600f3b4c4e8bd966a6fcb715317cdfe07a8d51b3dce30", checked := Try.checked }
namespace Rows
def none {H : Type} : Left H := { results := [], args := [] }

/-- 'amnesialaw02.NonceFreshes': WHATEVER THE INPUT: true; the input reads as it did. -/
def nonceFreshesSpec : ChangeSpec := { name := "nonceFreshes", fn := fun _ => fun
  | [d] => { results := [.lit (.bool true)], args := [d] }
  | _ => none }
def nonceFreshesRow : OpenClaim := { program := "ytgbjfmokfkdglaa", sum := "9e688dec4b3d2310f37600f3b4c4e8bd966a6fcb715317cdfe07a8d51b3dce30", func := "amnesia/amnesialaw02.NonceFreshes", spec := "nonceFreshes", apart := false }
def NonceFreshesSaid : Prop := nonceFreshesRow.holds Try.pinned (OpenSpec.ofChange nonceFreshesSpec)

/-- ITS FALSE NEIGHBOUR: 'it returns false'. Refute it at one input. -/
def nonceFreshesWrong : ChangeSpec := { name := "nonceFreshes", fn := fun _ => fun
  | [d] => { results := [.lit (.bool false)], args := [d] }
  | _ => none }
def NonceFreshesWrongFalsely : Prop := nonceFreshesRow.holds Try.pinned (OpenSpec.ofChange nonceFreshesWrong)

/-- 'amnesialaw02.NonceRises': WHATEVER THE INPUT: true; the input reads as it did. -/
def nonceRisesSpec : ChangeSpec := { name := "nonceRises", fn := fun _ => fun
  | [d1, d2] => { results := [.lit (.bool true)], args := [d1, d2] }
  | _ => none }
def nonceRisesRow : OpenClaim := { program := "ytgbjfmokfkdglaa", sum := "9e688dec4b3d2310f37600f3b4c4e8bd966a6fcb715317cdfe07a8d51b3dce30", func := "amnesia/amnesialaw02.NonceRises", spec := "nonceRises", apart := false }
def NonceRisesSaid : Prop := nonceRisesRow.holds Try.pinned (OpenSpec.ofChange nonceRisesSpec)

/-- ITS FALSE NEIGHBOUR: 'it returns false'. Refute it at one input. -/
def nonceRisesWrong : ChangeSpec := { name := "nonceRises", fn := fun _ => fun
  | [d1, d2] => { results := [.lit (.bool false)], args := [d1, d2] }
  | _ => none }
def NonceRisesWrongFalsely : Prop := nonceRisesRow.holds Try.pinned (OpenSpec.ofChange nonceRisesWrong)

/-- 'amnesialaw02.NonceAlone': WHATEVER THE INPUT: true; the input reads as it did. -/
def nonceAloneSpec : ChangeSpec := { name := "nonceAlone", fn := fun _ => fun
  | [d1, d2, d3] => { results := [.lit (.bool true)], args := [d1, d2, d3] }
  | _ => none }
def nonceAloneRow : OpenClaim := { program := "ytgbjfmokfkdglaa", sum := "9e688dec4b3d2310f37600f3b4c4e8bd966a6fcb715317cdfe07a8d51b3dce30", func := "amnesia/amnesialaw02.NonceAlone", spec := "nonceAlone", apart := false }
def NonceAloneSaid : Prop := nonceAloneRow.holds Try.pinned (OpenSpec.ofChange nonceAloneSpec)

/-- ITS FALSE NEIGHBOUR: 'it returns false'. Refute it at one input. -/
def nonceAloneWrong : ChangeSpec := { name := "nonceAlone", fn := fun _ => fun
  | [d1, d2, d3] => { results := [.lit (.bool false)], args := [d1, d2, d3] }
  | _ => none }
def NonceAloneWrongFalsely : Prop := nonceAloneRow.holds Try.pinned (OpenSpec.ofChange nonceAloneWrong)

/-- 'amnesialaw02.NonceOrders': WHATEVER THE INPUT: true; the input reads as it did. -/
def nonceOrdersSpec : ChangeSpec := { name := "nonceOrders", fn := fun _ => fun
  | [d1, d2] => { results := [.lit (.bool true)], args := [d1, d2] }
  | _ => none }
def nonceOrdersRow : OpenClaim := { program := "ytgbjfmokfkdglaa", sum := "9e688dec4b3d2310f37600f3b4c4e8bd966a6fcb715317cdfe07a8d51b3dce30", func := "amnesia/amnesialaw02.NonceOrders", spec := "nonceOrders", apart := false }
def NonceOrdersSaid : Prop := nonceOrdersRow.holds Try.pinned (OpenSpec.ofChange nonceOrdersSpec)

/-- ITS FALSE NEIGHBOUR: 'it returns false'. Refute it at one input. -/
def nonceOrdersWrong : ChangeSpec := { name := "nonceOrders", fn := fun _ => fun
  | [d1, d2] => { results := [.lit (.bool false)], args := [d1, d2] }
  | _ => none }
def NonceOrdersWrongFalsely : Prop := nonceOrdersRow.holds Try.pinned (OpenSpec.ofChange nonceOrdersWrong)

/-- 'amnesialaw02.NonceSources': WHATEVER THE INPUT: true; the input reads as it did. -/
def nonceSourcesSpec : ChangeSpec := { name := "nonceSources", fn := fun _ => fun
  | [d1, d2, d3, d4] => { results := [.lit (.bool true)], args := [d1, d2, d3, d4] }
  | _ => none }
def nonceSourcesRow : OpenClaim := { program := "ytgbjfmokfkdglaa", sum := "9e688dec4b3d2310f37600f3b4c4e8bd966a6fcb715317cdfe07a8d51b3dce30", func := "amnesia/amnesialaw02.NonceSources", spec := "nonceSources", apart := false }
def NonceSourcesSaid : Prop := nonceSourcesRow.holds Try.pinned (OpenSpec.ofChange nonceSourcesSpec)

/-- ITS FALSE NEIGHBOUR: 'it returns false'. Refute it at one input. -/
def nonceSourcesWrong : ChangeSpec := { name := "nonceSources", fn := fun _ => fun
  | [d1, d2, d3, d4] => { results := [.lit (.bool false)], args := [d1, d2, d3, d4] }
  | _ => none }
def NonceSourcesWrongFalsely : Prop := nonceSourcesRow.holds Try.pinned (OpenSpec.ofChange nonceSourcesWrong)

/-- 'amnesialaw02.NonceTakes': WHATEVER THE INPUT: true; the input reads as it did. -/
def nonceTakesSpec : ChangeSpec := { name := "nonceTakes", fn := fun _ => fun
  | [d1, d2, d3] => { results := [.lit (.bool true)], args := [d1, d2, d3] }
  | _ => none }
def nonceTakesRow : OpenClaim := { program := "ytgbjfmokfkdglaa", sum := "9e688dec4b3d2310f37600f3b4c4e8bd966a6fcb715317cdfe07a8d51b3dce30", func := "amnesia/amnesialaw02.NonceTakes", spec := "nonceTakes", unfollowed := true, recurses := true, apart := false }
def NonceTakesSaid : Prop := nonceTakesRow.holds Try.pinned (OpenSpec.ofChange nonceTakesSpec)

/-- ITS FALSE NEIGHBOUR: 'it returns false'. Refute it at one input. -/
def nonceTakesWrong : ChangeSpec := { name := "nonceTakes", fn := fun _ => fun
  | [d1, d2, d3] => { results := [.lit (.bool false)], args := [d1, d2, d3] }
  | _ => none }
def NonceTakesWrongFalsely : Prop := nonceTakesRow.holds Try.pinned (OpenSpec.ofChange nonceTakesWrong)

/-- 'amnesialaw02.NonceCounts': WHATEVER THE INPUT: true; the input reads as it did. -/
def nonceCountsSpec : ChangeSpec := { name := "nonceCounts", fn := fun _ => fun
  | [d1, d2] => { results := [.lit (.bool true)], args := [d1, d2] }
  | _ => none }
def nonceCountsRow : OpenClaim := { program := "ytgbjfmokfkdglaa", sum := "9e688dec4b3d2310f37600f3b4c4e8bd966a6fcb715317cdfe07a8d51b3dce30", func := "amnesia/amnesialaw02.NonceCounts", spec := "nonceCounts", unfollowed := true, recurses := true, apart := false }
def NonceCountsSaid : Prop := nonceCountsRow.holds Try.pinned (OpenSpec.ofChange nonceCountsSpec)

/-- ITS FALSE NEIGHBOUR: 'it returns false'. Refute it at one input. -/
def nonceCountsWrong : ChangeSpec := { name := "nonceCounts", fn := fun _ => fun
  | [d1, d2] => { results := [.lit (.bool false)], args := [d1, d2] }
  | _ => none }
def NonceCountsWrongFalsely : Prop := nonceCountsRow.holds Try.pinned (OpenSpec.ofChange nonceCountsWrong)

/-- 'amnesialaw02.NonceGroupFresh': WHATEVER THE INPUT: true; the input reads as it did. -/
def nonceGroupFreshSpec : ChangeSpec := { name := "nonceGroupFresh", fn := fun _ => fun
  | [d1, d2, d3, d4] => { results := [.lit (.bool true)], args := [d1, d2, d3, d4] }
  | _ => none }
def nonceGroupFreshRow : OpenClaim := { program := "ytgbjfmokfkdglaa", sum := "9e688dec4b3d2310f37600f3b4c4e8bd966a6fcb715317cdfe07a8d51b3dce30", func := "amnesia/amnesialaw02.NonceGroupFresh", spec := "nonceGroupFresh", unfollowed := true, recurses := true, apart := false }
def NonceGroupFreshSaid : Prop := nonceGroupFreshRow.holds Try.pinned (OpenSpec.ofChange nonceGroupFreshSpec)

/-- ITS FALSE NEIGHBOUR: 'it returns false'. Refute it at one input. -/
def nonceGroupFreshWrong : ChangeSpec := { name := "nonceGroupFresh", fn := fun _ => fun
  | [d1, d2, d3, d4] => { results := [.lit (.bool false)], args := [d1, d2, d3, d4] }
  | _ => none }
def NonceGroupFreshWrongFalsely : Prop := nonceGroupFreshRow.holds Try.pinned (OpenSpec.ofChange nonceGroupFreshWrong)

/-- 'amnesialaw02.NonceGroups': WHATEVER THE INPUT: true; the input reads as it did. -/
def nonceGroupsSpec : ChangeSpec := { name := "nonceGroups", fn := fun _ => fun
  | [d1, d2, d3, d4] => { results := [.lit (.bool true)], args := [d1, d2, d3, d4] }
  | _ => none }
def nonceGroupsRow : OpenClaim := { program := "ytgbjfmokfkdglaa", sum := "9e688dec4b3d2310f37600f3b4c4e8bd966a6fcb715317cdfe07a8d51b3dce30", func := "amnesia/amnesialaw02.NonceGroups", spec := "nonceGroups", unfollowed := true, recurses := true, apart := false }
def NonceGroupsSaid : Prop := nonceGroupsRow.holds Try.pinned (OpenSpec.ofChange nonceGroupsSpec)

/-- ITS FALSE NEIGHBOUR: 'it returns false'. Refute it at one input. -/
def nonceGroupsWrong : ChangeSpec := { name := "nonceGroups", fn := fun _ => fun
  | [d1, d2, d3, d4] => { results := [.lit (.bool false)], args := [d1, d2, d3, d4] }
  | _ => none }
def NonceGroupsWrongFalsely : Prop := nonceGroupsRow.holds Try.pinned (OpenSpec.ofChange nonceGroupsWrong)

/-- 'amnesialaw02.NonceNil': WHATEVER THE INPUT: true; the input reads as it did. -/
def nonceNilSpec : ChangeSpec := { name := "nonceNil", fn := fun _ => fun
  | [] => { results := [.lit (.bool true)], args := [] }
  | _ => none }
def nonceNilRow : OpenClaim := { program := "ytgbjfmokfkdglaa", sum := "9e688dec4b3d2310f37600f3b4c4e8bd966a6fcb715317cdfe07a8d51b3dce30", func := "amnesia/amnesialaw02.NonceNil", spec := "nonceNil", unfollowed := true, recurses := true, apart := false }
def NonceNilSaid : Prop := nonceNilRow.holds Try.pinned (OpenSpec.ofChange nonceNilSpec)

/-- ITS FALSE NEIGHBOUR: 'it returns false'. Refute it at one input. -/
def nonceNilWrong : ChangeSpec := { name := "nonceNil", fn := fun _ => fun
  | [] => { results := [.lit (.bool false)], args := [] }
  | _ => none }
def NonceNilWrongFalsely : Prop := nonceNilRow.holds Try.pinned (OpenSpec.ofChange nonceNilWrong)

/- THE SECOND FORM. 'bulk': how many values and letters a reading holds, each counted each time it is reached (what is shared counts as often as it is met; a slice's spare places count too). A statement '..UptoSaid' is the law's where the arguments, and the package variables that the reading takes, are together of bulk at most 1048576: NARROWER than '..Said'. Prove '..Said' where nothing that the law and all that it calls make is longer than what came in: it says more and counts as full. Else prove '..UptoSaid'. A law counts once. -/
mutual
def uptoBulk {H : Type} : DataW H → Nat
  | .lit (.string bytes) => bytes.length + 1
  | .lit _ => 1
  | .nil => 1
  | .ptr d => uptoBulk d + 1
  | .slice elems spare => uptoBulkAll elems + uptoBulkAll spare + 1
  | .agg parts => uptoBulkAll parts + 1
  | .iface _ d => uptoBulk d + 1
  | .map entries => uptoBulkEntries entries + 1
  | .held _ => 1
def uptoBulkAll {H : Type} : List (DataW H) → Nat
  | [] => 0
  | d :: r => uptoBulk d + uptoBulkAll r
def uptoBulkEntries {H : Type} : List (Lit × DataW H) → Nat
  | [] => 0
  | x :: r => uptoBulkEntry x + uptoBulkEntries r
def uptoBulkEntry {H : Type} : Lit × DataW H → Nat
  | (.string bytes, d) => bytes.length + uptoBulk d + 1
  | (_, d) => uptoBulk d + 1
 end
def uptoSmall : (H : Type) → List (DataW H) → Bool := fun _ ds => decide (uptoBulkAll ds ≤ 1048576)
def OpenSpec.upto (s : _root_.Go.ChangeSpec) : _root_.Go.OpenSpec := { _root_.Go.OpenSpec.ofChange s with cond := some uptoSmall }

/-- 'amnesialaw02.NonceFreshes', WHERE WHAT IT READS IS OF BULK AT MOST 1048576: true; the input reads as it did. -/
def nonceFreshesUptoRow : OpenClaim := { program := "ytgbjfmokfkdglaa", sum := "9e688dec4b3d2310f37600f3b4c4e8bd966a6fcb715317cdfe07a8d51b3dce30", func := "amnesia/amnesialaw02.NonceFreshes", spec := "nonceFreshes", apart := false, narrowed := true }
def NonceFreshesUptoSaid : Prop := nonceFreshesUptoRow.holds Try.pinned (OpenSpec.upto nonceFreshesSpec)

/-- 'amnesialaw02.NonceRises', WHERE WHAT IT READS IS OF BULK AT MOST 1048576: true; the input reads as it did. -/
def nonceRisesUptoRow : OpenClaim := { program := "ytgbjfmokfkdglaa", sum := "9e688dec4b3d2310f37600f3b4c4e8bd966a6fcb715317cdfe07a8d51b3dce30", func := "amnesia/amnesialaw02.NonceRises", spec := "nonceRises", apart := false, narrowed := true }
def NonceRisesUptoSaid : Prop := nonceRisesUptoRow.holds Try.pinned (OpenSpec.upto nonceRisesSpec)

/-- 'amnesialaw02.NonceAlone', WHERE WHAT IT READS IS OF BULK AT MOST 1048576: true; the input reads as it did. -/
def nonceAloneUptoRow : OpenClaim := { program := "ytgbjfmokfkdglaa", sum := "9e688dec4b3d2310f37600f3b4c4e8bd966a6fcb715317cdfe07a8d51b3dce30", func := "amnesia/amnesialaw02.NonceAlone", spec := "nonceAlone", apart := false, narrowed := true }
def NonceAloneUptoSaid : Prop := nonceAloneUptoRow.holds Try.pinned (OpenSpec.upto nonceAloneSpec)

/-- 'amnesialaw02.NonceOrders', WHERE WHAT IT READS IS OF BULK AT MOST 1048576: true; the input reads as it did. -/
def nonceOrdersUptoRow : OpenClaim := { program := "ytgbjfmokfkdglaa", sum := "9e688dec4b3d2310f37600f3b4c4e8bd966a6fcb715317cdfe07a8d51b3dce30", func := "amnesia/amnesialaw02.NonceOrders", spec := "nonceOrders", apart := false, narrowed := true }
def NonceOrdersUptoSaid : Prop := nonceOrdersUptoRow.holds Try.pinned (OpenSpec.upto nonceOrdersSpec)

/-- 'amnesialaw02.NonceSources', WHERE WHAT IT READS IS OF BULK AT MOST 1048576: true; the input reads as it did. -/
def nonceSourcesUptoRow : OpenClaim := { program := "ytgbjfmokfkdglaa", sum := "9e688dec4b3d2310f37600f3b4c4e8bd966a6fcb715317cdfe07a8d51b3dce30", func := "amnesia/amnesialaw02.NonceSources", spec := "nonceSources", apart := false, narrowed := true }
def NonceSourcesUptoSaid : Prop := nonceSourcesUptoRow.holds Try.pinned (OpenSpec.upto nonceSourcesSpec)

/-- 'amnesialaw02.NonceTakes', WHERE WHAT IT READS IS OF BULK AT MOST 1048576: true; the input reads as it did. -/
def nonceTakesUptoRow : OpenClaim := { program := "ytgbjfmokfkdglaa", sum := "9e688dec4b3d2310f37600f3b4c4e8bd966a6fcb715317cdfe07a8d51b3dce30", func := "amnesia/amnesialaw02.NonceTakes", spec := "nonceTakes", unfollowed := true, recurses := true, apart := false, narrowed := true }
def NonceTakesUptoSaid : Prop := nonceTakesUptoRow.holds Try.pinned (OpenSpec.upto nonceTakesSpec)

/-- 'amnesialaw02.NonceCounts', WHERE WHAT IT READS IS OF BULK AT MOST 1048576: true; the input reads as it did. -/
def nonceCountsUptoRow : OpenClaim := { program := "ytgbjfmokfkdglaa", sum := "9e688dec4b3d2310f37600f3b4c4e8bd966a6fcb715317cdfe07a8d51b3dce30", func := "amnesia/amnesialaw02.NonceCounts", spec := "nonceCounts", unfollowed := true, recurses := true, apart := false, narrowed := true }
def NonceCountsUptoSaid : Prop := nonceCountsUptoRow.holds Try.pinned (OpenSpec.upto nonceCountsSpec)

/-- 'amnesialaw02.NonceGroupFresh', WHERE WHAT IT READS IS OF BULK AT MOST 1048576: true; the input reads as it did. -/
def nonceGroupFreshUptoRow : OpenClaim := { program := "ytgbjfmokfkdglaa", sum := "9e688dec4b3d2310f37600f3b4c4e8bd966a6fcb715317cdfe07a8d51b3dce30", func := "amnesia/amnesialaw02.NonceGroupFresh", spec := "nonceGroupFresh", unfollowed := true, recurses := true, apart := false, narrowed := true }
def NonceGroupFreshUptoSaid : Prop := nonceGroupFreshUptoRow.holds Try.pinned (OpenSpec.upto nonceGroupFreshSpec)

/-- 'amnesialaw02.NonceGroups', WHERE WHAT IT READS IS OF BULK AT MOST 1048576: true; the input reads as it did. -/
def nonceGroupsUptoRow : OpenClaim := { program := "ytgbjfmokfkdglaa", sum := "9e688dec4b3d2310f37600f3b4c4e8bd966a6fcb715317cdfe07a8d51b3dce30", func := "amnesia/amnesialaw02.NonceGroups", spec := "nonceGroups", unfollowed := true, recurses := true, apart := false, narrowed := true }
def NonceGroupsUptoSaid : Prop := nonceGroupsUptoRow.holds Try.pinned (OpenSpec.upto nonceGroupsSpec)

/-- 'amnesialaw02.NonceNil', WHERE WHAT IT READS IS OF BULK AT MOST 1048576: true; the input reads as it did. -/
def nonceNilUptoRow : OpenClaim := { program := "ytgbjfmokfkdglaa", sum := "9e688dec4b3d2310f37600f3b4c4e8bd966a6fcb715317cdfe07a8d51b3dce30", func := "amnesia/amnesialaw02.NonceNil", spec := "nonceNil", unfollowed := true, recurses := true, apart := false, narrowed := true }
def NonceNilUptoSaid : Prop := nonceNilUptoRow.holds Try.pinned (OpenSpec.upto nonceNilSpec)

end Rows
end Go.Proofs.Ytgbjfmokfkdglaa
