/-
  NARROWER THAN 'FOR EVERY INPUT', by the rows' own cells (each row's printed sentence says how): WireAdds: laid · WireFrames: laid · WireWrites: laid · WireOpens: laid · WireSealed: laid · WireTells: laid · WireOne: laid · WireReads: laid · WireNone: laid · WireBack: laid · WireOwn: laid.
  DERIVED. THE GIVEN ROWS OF THIS SEAT. 11 by the template 'for every input the law returns true; each argument reads behind the call as it read before'; 0 by the template 'total and deterministic' (their statements: YtkdikbenheagmaaDoorTotals.lean).
  GIVEN WITH THE SEED: the statements are not yours to turn. If you find one false, say at which input.
  Laid BY PROGRAM, IN A SANDBOX (cutbox-rows.mjs): the forced cells as the released guide's own fill.sh prints them over the translation 03468b686b0db9fa… (all of the seat's roots in one cut). By AI agents, Wed Nov 11 2026. No macro, syntax, notation, axiom, sorry.
-/
import Derived.Test.YtkdikbenheagmaaDoorChecked
import GoSem.Claim
import GoSem.ClaimJoined
import GoSem.ClaimMapViews
import Derived.JoinedTies
import Derived.KernelRfl
namespace Go.Proofs.YtkdikbenheagmaaDoor
/- THE CELL 'sum', in the pinned program and in every row, IS THE sha256 OF THE DUMP (.gsa) THAT YtkdikbenheagmaaDoorProg.lean LOADS. Nothing in Lean hashes anything: it is a label: what it is worth is what the hold of that sum in a sandbox is worth. -/
noncomputable def Tryd.pinned : Pinned := { name := "ytkdikbenheagmaadoor", sum := "03468b686b0db9fa99952f1ba891aaa00645ba9c734f191799dfe4d7d865947f", checked := Tryd.checked }
namespace Rows
def none {H : Type} : Left H := { results := [], args := [] }

/- WHAT THE LISTED PACKAGE-LEVEL VARIABLES READ AS WHEN THE CALL BEGINS. Each datum BY PROGRAM (the guide's laid-datum.mjs) off the statement by which the dump's own 'gosem.cut.vars' lays the variable. In a bare row this is a premise. The card (YtkdikbenheagmaaDoorCards.lean) ties it to the program's text. -/
def laid_amnesia_wire_nibbles {H : Type} : DataW H := .agg [.lit (.int .u32 0), .lit (.int .u32 498536548), .lit (.int .u32 997073096), .lit (.int .u32 651767980), .lit (.int .u32 1994146192), .lit (.int .u32 1802195444), .lit (.int .u32 1303535960), .lit (.int .u32 1342533948), .lit (.int .u32 3988292384), .lit (.int .u32 4027552580), .lit (.int .u32 3604390888), .lit (.int .u32 3412177804), .lit (.int .u32 2607071920), .lit (.int .u32 2262029012), .lit (.int .u32 2685067896), .lit (.int .u32 3183342108)]

/-- 'amnesialaw01.WireAdds': WHATEVER THE INPUT: true; the input reads as it did. -/
def wireAddsSpec : ChangeSpec := { name := "wireAdds", fn := fun _ => fun
  | [d1, d2] => { results := [.lit (.bool true)], args := [d1, d2] }
  | _ => none }
def wireAddsRow : OpenClaim := { program := "ytkdikbenheagmaadoor", sum := "03468b686b0db9fa99952f1ba891aaa00645ba9c734f191799dfe4d7d865947f", func := "amnesia/amnesialaw01.WireAdds", spec := "wireAdds", named := ["amnesia/wire.nibbles"], apart := false, laid := [("amnesia/wire.nibbles", laid_amnesia_wire_nibbles)] }
def WireAddsSaid : Prop := wireAddsRow.holds Tryd.pinned (OpenSpec.ofChange wireAddsSpec)

/-- ITS FALSE NEIGHBOUR: 'it returns false'. Refute it at one input. -/
def wireAddsWrong : ChangeSpec := { name := "wireAdds", fn := fun _ => fun
  | [d1, d2] => { results := [.lit (.bool false)], args := [d1, d2] }
  | _ => none }
def WireAddsWrongFalsely : Prop := wireAddsRow.holds Tryd.pinned (OpenSpec.ofChange wireAddsWrong)

/-- 'amnesialaw01.WireFrames': WHATEVER THE INPUT: true; the input reads as it did. -/
def wireFramesSpec : ChangeSpec := { name := "wireFrames", fn := fun _ => fun
  | [d] => { results := [.lit (.bool true)], args := [d] }
  | _ => none }
def wireFramesRow : OpenClaim := { program := "ytkdikbenheagmaadoor", sum := "03468b686b0db9fa99952f1ba891aaa00645ba9c734f191799dfe4d7d865947f", func := "amnesia/amnesialaw01.WireFrames", spec := "wireFrames", named := ["amnesia/wire.nibbles"], apart := false, laid := [("amnesia/wire.nibbles", laid_amnesia_wire_nibbles)] }
def WireFramesSaid : Prop := wireFramesRow.holds Tryd.pinned (OpenSpec.ofChange wireFramesSpec)

/-- ITS FALSE NEIGHBOUR: 'it returns false'. Refute it at one input. -/
def wireFramesWrong : ChangeSpec := { name := "wireFrames", fn := fun _ => fun
  | [d] => { results := [.lit (.bool false)], args := [d] }
  | _ => none }
def WireFramesWrongFalsely : Prop := wireFramesRow.holds Tryd.pinned (OpenSpec.ofChange wireFramesWrong)

/-- 'amnesialaw01.WireWrites': WHATEVER THE INPUT: true; the input reads as it did. -/
def wireWritesSpec : ChangeSpec := { name := "wireWrites", fn := fun _ => fun
  | [d] => { results := [.lit (.bool true)], args := [d] }
  | _ => none }
def wireWritesRow : OpenClaim := { program := "ytkdikbenheagmaadoor", sum := "03468b686b0db9fa99952f1ba891aaa00645ba9c734f191799dfe4d7d865947f", func := "amnesia/amnesialaw01.WireWrites", spec := "wireWrites", named := ["amnesia/wire.nibbles"], apart := false, laid := [("amnesia/wire.nibbles", laid_amnesia_wire_nibbles)] }
def WireWritesSaid : Prop := wireWritesRow.holds Tryd.pinned (OpenSpec.ofChange wireWritesSpec)

/-- ITS FALSE NEIGHBOUR: 'it returns false'. Refute it at one input. -/
def wireWritesWrong : ChangeSpec := { name := "wireWrites", fn := fun _ => fun
  | [d] => { results := [.lit (.bool false)], args := [d] }
  | _ => none }
def WireWritesWrongFalsely : Prop := wireWritesRow.holds Tryd.pinned (OpenSpec.ofChange wireWritesWrong)

/-- 'amnesialaw01.WireOpens': WHATEVER THE INPUT: true; the input reads as it did. -/
def wireOpensSpec : ChangeSpec := { name := "wireOpens", fn := fun _ => fun
  | [d1, d2, d3, d4] => { results := [.lit (.bool true)], args := [d1, d2, d3, d4] }
  | _ => none }
def wireOpensRow : OpenClaim := { program := "ytkdikbenheagmaadoor", sum := "03468b686b0db9fa99952f1ba891aaa00645ba9c734f191799dfe4d7d865947f", func := "amnesia/amnesialaw01.WireOpens", spec := "wireOpens", named := ["amnesia/wire.nibbles"], apart := false, laid := [("amnesia/wire.nibbles", laid_amnesia_wire_nibbles)] }
def WireOpensSaid : Prop := wireOpensRow.holds Tryd.pinned (OpenSpec.ofChange wireOpensSpec)

/-- ITS FALSE NEIGHBOUR: 'it returns false'. Refute it at one input. -/
def wireOpensWrong : ChangeSpec := { name := "wireOpens", fn := fun _ => fun
  | [d1, d2, d3, d4] => { results := [.lit (.bool false)], args := [d1, d2, d3, d4] }
  | _ => none }
def WireOpensWrongFalsely : Prop := wireOpensRow.holds Tryd.pinned (OpenSpec.ofChange wireOpensWrong)

/-- 'amnesialaw01.WireSealed': WHATEVER THE INPUT: true; the input reads as it did. -/
def wireSealedSpec : ChangeSpec := { name := "wireSealed", fn := fun _ => fun
  | [d1, d2] => { results := [.lit (.bool true)], args := [d1, d2] }
  | _ => none }
def wireSealedRow : OpenClaim := { program := "ytkdikbenheagmaadoor", sum := "03468b686b0db9fa99952f1ba891aaa00645ba9c734f191799dfe4d7d865947f", func := "amnesia/amnesialaw01.WireSealed", spec := "wireSealed", named := ["amnesia/wire.nibbles"], apart := false, laid := [("amnesia/wire.nibbles", laid_amnesia_wire_nibbles)] }
def WireSealedSaid : Prop := wireSealedRow.holds Tryd.pinned (OpenSpec.ofChange wireSealedSpec)

/-- ITS FALSE NEIGHBOUR: 'it returns false'. Refute it at one input. -/
def wireSealedWrong : ChangeSpec := { name := "wireSealed", fn := fun _ => fun
  | [d1, d2] => { results := [.lit (.bool false)], args := [d1, d2] }
  | _ => none }
def WireSealedWrongFalsely : Prop := wireSealedRow.holds Tryd.pinned (OpenSpec.ofChange wireSealedWrong)

/-- 'amnesialaw01.WireTells': WHATEVER THE INPUT: true; the input reads as it did. -/
def wireTellsSpec : ChangeSpec := { name := "wireTells", fn := fun _ => fun
  | [d1, d2, d3] => { results := [.lit (.bool true)], args := [d1, d2, d3] }
  | _ => none }
def wireTellsRow : OpenClaim := { program := "ytkdikbenheagmaadoor", sum := "03468b686b0db9fa99952f1ba891aaa00645ba9c734f191799dfe4d7d865947f", func := "amnesia/amnesialaw01.WireTells", spec := "wireTells", named := ["amnesia/wire.nibbles"], apart := false, laid := [("amnesia/wire.nibbles", laid_amnesia_wire_nibbles)] }
def WireTellsSaid : Prop := wireTellsRow.holds Tryd.pinned (OpenSpec.ofChange wireTellsSpec)

/-- ITS FALSE NEIGHBOUR: 'it returns false'. Refute it at one input. -/
def wireTellsWrong : ChangeSpec := { name := "wireTells", fn := fun _ => fun
  | [d1, d2, d3] => { results := [.lit (.bool false)], args := [d1, d2, d3] }
  | _ => none }
def WireTellsWrongFalsely : Prop := wireTellsRow.holds Tryd.pinned (OpenSpec.ofChange wireTellsWrong)

/-- 'amnesialaw01.WireOne': WHATEVER THE INPUT: true; the input reads as it did. -/
def wireOneSpec : ChangeSpec := { name := "wireOne", fn := fun _ => fun
  | [d] => { results := [.lit (.bool true)], args := [d] }
  | _ => none }
def wireOneRow : OpenClaim := { program := "ytkdikbenheagmaadoor", sum := "03468b686b0db9fa99952f1ba891aaa00645ba9c734f191799dfe4d7d865947f", func := "amnesia/amnesialaw01.WireOne", spec := "wireOne", named := ["amnesia/wire.nibbles"], apart := false, laid := [("amnesia/wire.nibbles", laid_amnesia_wire_nibbles)] }
def WireOneSaid : Prop := wireOneRow.holds Tryd.pinned (OpenSpec.ofChange wireOneSpec)

/-- ITS FALSE NEIGHBOUR: 'it returns false'. Refute it at one input. -/
def wireOneWrong : ChangeSpec := { name := "wireOne", fn := fun _ => fun
  | [d] => { results := [.lit (.bool false)], args := [d] }
  | _ => none }
def WireOneWrongFalsely : Prop := wireOneRow.holds Tryd.pinned (OpenSpec.ofChange wireOneWrong)

/-- 'amnesialaw01.WireReads': WHATEVER THE INPUT: true; the input reads as it did. -/
def wireReadsSpec : ChangeSpec := { name := "wireReads", fn := fun _ => fun
  | [d1, d2] => { results := [.lit (.bool true)], args := [d1, d2] }
  | _ => none }
def wireReadsRow : OpenClaim := { program := "ytkdikbenheagmaadoor", sum := "03468b686b0db9fa99952f1ba891aaa00645ba9c734f191799dfe4d7d865947f", func := "amnesia/amnesialaw01.WireReads", spec := "wireReads", named := ["amnesia/wire.nibbles"], apart := false, laid := [("amnesia/wire.nibbles", laid_amnesia_wire_nibbles)] }
def WireReadsSaid : Prop := wireReadsRow.holds Tryd.pinned (OpenSpec.ofChange wireReadsSpec)

/-- ITS FALSE NEIGHBOUR: 'it returns false'. Refute it at one input. -/
def wireReadsWrong : ChangeSpec := { name := "wireReads", fn := fun _ => fun
  | [d1, d2] => { results := [.lit (.bool false)], args := [d1, d2] }
  | _ => none }
def WireReadsWrongFalsely : Prop := wireReadsRow.holds Tryd.pinned (OpenSpec.ofChange wireReadsWrong)

/-- 'amnesialaw01.WireNone': WHATEVER THE INPUT: true; the input reads as it did. -/
def wireNoneSpec : ChangeSpec := { name := "wireNone", fn := fun _ => fun
  | [d1, d2, d3] => { results := [.lit (.bool true)], args := [d1, d2, d3] }
  | _ => none }
def wireNoneRow : OpenClaim := { program := "ytkdikbenheagmaadoor", sum := "03468b686b0db9fa99952f1ba891aaa00645ba9c734f191799dfe4d7d865947f", func := "amnesia/amnesialaw01.WireNone", spec := "wireNone", named := ["amnesia/wire.nibbles"], apart := false, laid := [("amnesia/wire.nibbles", laid_amnesia_wire_nibbles)] }
def WireNoneSaid : Prop := wireNoneRow.holds Tryd.pinned (OpenSpec.ofChange wireNoneSpec)

/-- ITS FALSE NEIGHBOUR: 'it returns false'. Refute it at one input. -/
def wireNoneWrong : ChangeSpec := { name := "wireNone", fn := fun _ => fun
  | [d1, d2, d3] => { results := [.lit (.bool false)], args := [d1, d2, d3] }
  | _ => none }
def WireNoneWrongFalsely : Prop := wireNoneRow.holds Tryd.pinned (OpenSpec.ofChange wireNoneWrong)

/-- 'amnesialaw01.WireBack': WHATEVER THE INPUT: true; the input reads as it did. -/
def wireBackSpec : ChangeSpec := { name := "wireBack", fn := fun _ => fun
  | [d] => { results := [.lit (.bool true)], args := [d] }
  | _ => none }
def wireBackRow : OpenClaim := { program := "ytkdikbenheagmaadoor", sum := "03468b686b0db9fa99952f1ba891aaa00645ba9c734f191799dfe4d7d865947f", func := "amnesia/amnesialaw01.WireBack", spec := "wireBack", named := ["amnesia/wire.nibbles"], apart := false, laid := [("amnesia/wire.nibbles", laid_amnesia_wire_nibbles)] }
def WireBackSaid : Prop := wireBackRow.holds Tryd.pinned (OpenSpec.ofChange wireBackSpec)

/-- ITS FALSE NEIGHBOUR: 'it returns false'. Refute it at one input. -/
def wireBackWrong : ChangeSpec := { name := "wireBack", fn := fun _ => fun
  | [d] => { results := [.lit (.bool false)], args := [d] }
  | _ => none }
def WireBackWrongFalsely : Prop := wireBackRow.holds Tryd.pinned (OpenSpec.ofChange wireBackWrong)

/-- 'amnesialaw01.WireOwn': WHATEVER THE INPUT: true; the input reads as it did. -/
def wireOwnSpec : ChangeSpec := { name := "wireOwn", fn := fun _ => fun
  | [d1, d2] => { results := [.lit (.bool true)], args := [d1, d2] }
  | _ => none }
def wireOwnRow : OpenClaim := { program := "ytkdikbenheagmaadoor", sum := "03468b686b0db9fa99952f1ba891aaa00645ba9c734f191799dfe4d7d865947f", func := "amnesia/amnesialaw01.WireOwn", spec := "wireOwn", named := ["amnesia/wire.nibbles"], apart := false, laid := [("amnesia/wire.nibbles", laid_amnesia_wire_nibbles)] }
def WireOwnSaid : Prop := wireOwnRow.holds Tryd.pinned (OpenSpec.ofChange wireOwnSpec)

/-- ITS FALSE NEIGHBOUR: 'it returns false'. Refute it at one input. -/
def wireOwnWrong : ChangeSpec := { name := "wireOwn", fn := fun _ => fun
  | [d1, d2] => { results := [.lit (.bool false)], args := [d1, d2] }
  | _ => none }
def WireOwnWrongFalsely : Prop := wireOwnRow.holds Tryd.pinned (OpenSpec.ofChange wireOwnWrong)

/- THE SECOND FORM. 'bulk': how many values and letters a reading holds, each counted each time it is reached (what is shared counts as often as it is met; a slice's spare places count too). A statement '..UptoSaid' is the law's where the arguments, and the package variables that the reading takes, are together of bulk at most 1048576: NARROWER than '..Said'. Prove '..Said' where nothing that the law and all that it calls make is longer than what came in: it says more and counts as full. Else prove '..UptoSaid'. A law counts once. -/
mutual
def uptoBulk {H : Type} : DataW H → Nat
  | .lit (.string bytes) => bytes.length + 1
  | .lit _ => 1
  | .nil => 1
  | .ptr d => uptoBulk d + 1
  | .slice elems spare => uptoBulkAll elems + uptoBulkAll spare + 1
  | .agg parts => uptoBulkAll parts + 1
  | .iface _ d => uptoBulk d + 1
  | .map entries => uptoBulkEntries entries + 1
  | .held _ => 1
def uptoBulkAll {H : Type} : List (DataW H) → Nat
  | [] => 0
  | d :: r => uptoBulk d + uptoBulkAll r
def uptoBulkEntries {H : Type} : List (Lit × DataW H) → Nat
  | [] => 0
  | x :: r => uptoBulkEntry x + uptoBulkEntries r
def uptoBulkEntry {H : Type} : Lit × DataW H → Nat
  | (.string bytes, d) => bytes.length + uptoBulk d + 1
  | (_, d) => uptoBulk d + 1
 end
def uptoSmall : (H : Type) → List (DataW H) → Bool := fun _ ds => decide (uptoBulkAll ds ≤ 1048576)
def OpenSpec.upto (s : _root_.Go.ChangeSpec) : _root_.Go.OpenSpec := { _root_.Go.OpenSpec.ofChange s with cond := some uptoSmall }

/-- 'amnesialaw01.WireAdds', WHERE WHAT IT READS IS OF BULK AT MOST 1048576: true; the input reads as it did. -/
def wireAddsUptoRow : OpenClaim := { program := "ytkdikbenheagmaadoor", sum := "03468b686b0db9fa99952f1ba891aaa00645ba9c734f191799dfe4d7d865947f", func := "amnesia/amnesialaw01.WireAdds", spec := "wireAdds", named := ["amnesia/wire.nibbles"], apart := false, laid := [("amnesia/wire.nibbles", laid_amnesia_wire_nibbles)], narrowed := true }
def WireAddsUptoSaid : Prop := wireAddsUptoRow.holds Tryd.pinned (OpenSpec.upto wireAddsSpec)

/-- 'amnesialaw01.WireFrames', WHERE WHAT IT READS IS OF BULK AT MOST 1048576: true; the input reads as it did. -/
def wireFramesUptoRow : OpenClaim := { program := "ytkdikbenheagmaadoor", sum := "03468b686b0db9fa99952f1ba891aaa00645ba9c734f191799dfe4d7d865947f", func := "amnesia/amnesialaw01.WireFrames", spec := "wireFrames", named := ["amnesia/wire.nibbles"], apart := false, laid := [("amnesia/wire.nibbles", laid_amnesia_wire_nibbles)], narrowed := true }
def WireFramesUptoSaid : Prop := wireFramesUptoRow.holds Tryd.pinned (OpenSpec.upto wireFramesSpec)

/-- 'amnesialaw01.WireWrites', WHERE WHAT IT READS IS OF BULK AT MOST 1048576: true; the input reads as it did. -/
def wireWritesUptoRow : OpenClaim := { program := "ytkdikbenheagmaadoor", sum := "03468b686b0db9fa99952f1ba891aaa00645ba9c734f191799dfe4d7d865947f", func := "amnesia/amnesialaw01.WireWrites", spec := "wireWrites", named := ["amnesia/wire.nibbles"], apart := false, laid := [("amnesia/wire.nibbles", laid_amnesia_wire_nibbles)], narrowed := true }
def WireWritesUptoSaid : Prop := wireWritesUptoRow.holds Tryd.pinned (OpenSpec.upto wireWritesSpec)

/-- 'amnesialaw01.WireOpens', WHERE WHAT IT READS IS OF BULK AT MOST 1048576: true; the input reads as it did. -/
def wireOpensUptoRow : OpenClaim := { program := "ytkdikbenheagmaadoor", sum := "03468b686b0db9fa99952f1ba891aaa00645ba9c734f191799dfe4d7d865947f", func := "amnesia/amnesialaw01.WireOpens", spec := "wireOpens", named := ["amnesia/wire.nibbles"], apart := false, laid := [("amnesia/wire.nibbles", laid_amnesia_wire_nibbles)], narrowed := true }
def WireOpensUptoSaid : Prop := wireOpensUptoRow.holds Tryd.pinned (OpenSpec.upto wireOpensSpec)

/-- 'amnesialaw01.WireSealed', WHERE WHAT IT READS IS OF BULK AT MOST 1048576: true; the input reads as it did. -/
def wireSealedUptoRow : OpenClaim := { program := "ytkdikbenheagmaadoor", sum := "03468b686b0db9fa99952f1ba891aaa00645ba9c734f191799dfe4d7d865947f", func := "amnesia/amnesialaw01.WireSealed", spec := "wireSealed", named := ["amnesia/wire.nibbles"], apart := false, laid := [("amnesia/wire.nibbles", laid_amnesia_wire_nibbles)], narrowed := true }
def WireSealedUptoSaid : Prop := wireSealedUptoRow.holds Tryd.pinned (OpenSpec.upto wireSealedSpec)

/-- 'amnesialaw01.WireTells', WHERE WHAT IT READS IS OF BULK AT MOST 1048576: true; the input reads as it did. -/
def wireTellsUptoRow : OpenClaim := { program := "ytkdikbenheagmaadoor", sum := "03468b686b0db9fa99952f1ba891aaa00645ba9c734f191799dfe4d7d865947f", func := "amnesia/amnesialaw01.WireTells", spec := "wireTells", named := ["amnesia/wire.nibbles"], apart := false, laid := [("amnesia/wire.nibbles", laid_amnesia_wire_nibbles)], narrowed := true }
def WireTellsUptoSaid : Prop := wireTellsUptoRow.holds Tryd.pinned (OpenSpec.upto wireTellsSpec)

/-- 'amnesialaw01.WireOne', WHERE WHAT IT READS IS OF BULK AT MOST 1048576: true; the input reads as it did. -/
def wireOneUptoRow : OpenClaim := { program := "ytkdikbenheagmaadoor", sum := "03468b686b0db9fa99952f1ba891aaa00645ba9c734f191799dfe4d7d865947f", func := "amnesia/amnesialaw01.WireOne", spec := "wireOne", named := ["amnesia/wire.nibbles"], apart := false, laid := [("amnesia/wire.nibbles", laid_amnesia_wire_nibbles)], narrowed := true }
def WireOneUptoSaid : Prop := wireOneUptoRow.holds Tryd.pinned (OpenSpec.upto wireOneSpec)

/-- 'amnesialaw01.WireReads', WHERE WHAT IT READS IS OF BULK AT MOST 1048576: true; the input reads as it did. -/
def wireReadsUptoRow : OpenClaim := { program := "ytkdikbenheagmaadoor", sum := "03468b686b0db9fa99952f1ba891aaa00645ba9c734f191799dfe4d7d865947f", func := "amnesia/amnesialaw01.WireReads", spec := "wireReads", named := ["amnesia/wire.nibbles"], apart := false, laid := [("amnesia/wire.nibbles", laid_amnesia_wire_nibbles)], narrowed := true }
def WireReadsUptoSaid : Prop := wireReadsUptoRow.holds Tryd.pinned (OpenSpec.upto wireReadsSpec)

/-- 'amnesialaw01.WireNone', WHERE WHAT IT READS IS OF BULK AT MOST 1048576: true; the input reads as it did. -/
def wireNoneUptoRow : OpenClaim := { program := "ytkdikbenheagmaadoor", sum := "03468b686b0db9fa99952f1ba891aaa00645ba9c734f191799dfe4d7d865947f", func := "amnesia/amnesialaw01.WireNone", spec := "wireNone", named := ["amnesia/wire.nibbles"], apart := false, laid := [("amnesia/wire.nibbles", laid_amnesia_wire_nibbles)], narrowed := true }
def WireNoneUptoSaid : Prop := wireNoneUptoRow.holds Tryd.pinned (OpenSpec.upto wireNoneSpec)

/-- 'amnesialaw01.WireBack', WHERE WHAT IT READS IS OF BULK AT MOST 1048576: true; the input reads as it did. -/
def wireBackUptoRow : OpenClaim := { program := "ytkdikbenheagmaadoor", sum := "03468b686b0db9fa99952f1ba891aaa00645ba9c734f191799dfe4d7d865947f", func := "amnesia/amnesialaw01.WireBack", spec := "wireBack", named := ["amnesia/wire.nibbles"], apart := false, laid := [("amnesia/wire.nibbles", laid_amnesia_wire_nibbles)], narrowed := true }
def WireBackUptoSaid : Prop := wireBackUptoRow.holds Tryd.pinned (OpenSpec.upto wireBackSpec)

/-- 'amnesialaw01.WireOwn', WHERE WHAT IT READS IS OF BULK AT MOST 1048576: true; the input reads as it did. -/
def wireOwnUptoRow : OpenClaim := { program := "ytkdikbenheagmaadoor", sum := "03468b686b0db9fa99952f1ba891aaa00645ba9c734f191799dfe4d7d865947f", func := "amnesia/amnesialaw01.WireOwn", spec := "wireOwn", named := ["amnesia/wire.nibbles"], apart := false, laid := [("amnesia/wire.nibbles", laid_amnesia_wire_nibbles)], narrowed := true }
def WireOwnUptoSaid : Prop := wireOwnUptoRow.holds Tryd.pinned (OpenSpec.upto wireOwnSpec)

end Rows
end Go.Proofs.YtkdikbenheagmaaDoor
