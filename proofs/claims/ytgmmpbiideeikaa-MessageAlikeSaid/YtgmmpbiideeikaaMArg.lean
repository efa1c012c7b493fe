/-
  A message that came in, for the row.
-/
import Derived.Test.YtgmmpbiideeikaaMOpen
set_option linter.unusedVariables false
set_option linter.unusedSimpArgs false
namespace Go.Proofs.Ytgmmpbiideeikaa
open Go.ChangeShapes Go.WideShapes Go.ChangeAt Go.RowKit

structure LArgM {H : Type} (W : World) (x : Mp) (d : DataW H) : Prop where
  ok : x.m.Ok ∧ x.In W
  small : ∀ {ts : List TypeId} {ds : List (DataW H)} {j : Nat}, (DataW.weightsEach Try.prog ts ds).all (· ≤ reachBytes) = true → ts[j]? = some 36 → ds[j]? = some d → x.Sm
theorem open_message {H : Type} {enc : TypeId × Value → H} {W : World} {base : Nat} {v : Value} {d : DataW H} {p : List MemPlace} (hv : Value.okWide Try.prog W .any base 36 v)
    (h : DataW.Trod enc Try.prog W 0 (fun _ => true) true 36 v d p) : ∃ x : Mp, v = x.agg ∧ LArgM W x d := by
  obtain ⟨x, hx, h1⟩ := open_msg hv h
  exact ⟨x, hx, ⟨h1.ok, h1.i⟩, h1.small⟩
end Go.Proofs.Ytgmmpbiideeikaa
