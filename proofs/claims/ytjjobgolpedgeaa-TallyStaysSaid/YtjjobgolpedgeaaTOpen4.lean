/-
  Opening vectors.
-/
import Derived.Test.YtjjobgolpedgeaaTOpen
import Derived.Test.YtjjobgolpedgeaaTPruneP
set_option linter.unusedVariables false
set_option linter.unusedSimpArgs false
namespace Go.Proofs.Ytjjobgolpedgeaa
open Go.ChangeShapes Go.WideShapes Go.ChangeAt Go.RowKit

def Dw.Ok (x : Dw) : Prop := x.h < 18446744073709551616 ∧ x.l < 18446744073709551616
set_option maxRecDepth 100000 in
theorem open_vector {H : Type} {enc : TypeId × Value → H} {W : World} {base : Nat} {v : Value} {d : DataW H} {p : List MemPlace} (hv : Value.okWide Try.prog W .any base 63 v)
    (h : DataW.Trod enc Try.prog W 0 (fun _ => true) true 63 v d p) : ∃ A n c l, v = .slice A n c ∧ SArg Try.prog W 63 2 16 Dw.cells Dw.Ok A n c l d :=
  open_list Try.underlying63 cellsDraw (by kernel_rfl) (fun _ => rfl) (fun {b fuel sp held cs y} h => by
    obtain ⟨hl, _⟩ := one_fields Try.underlying27 (by kernel_rfl) (by kernel_rfl) h
    match cs, hl with
    | [c0, c1], _ =>
      obtain ⟨p, q, rfl, rfl, hp, hq⟩ := open_draw h
      exact ⟨⟨p, q⟩, rfl, hp, hq⟩) hv h
end Go.Proofs.Ytjjobgolpedgeaa
