/-
  Opening lists of numbers.
-/
import Derived.Test.YtjjobgolpedgeaaTOpen
set_option linter.unusedVariables false
set_option linter.unusedSimpArgs false
namespace Go.Proofs.Ytjjobgolpedgeaa
open Go.ChangeShapes Go.WideShapes Go.ChangeAt Go.RowKit

abbrev icells (x : Int) : List Value := [.int .i64 x]
def iok (x : Int) : Prop := (Lit.int .i64 x).wf = true
theorem RdC.atI {w : World} {A : Option Addr} {n : Nat} {L : List Int} (h : RdC 1 icells w A n L) {k : Nat} {x : Int} (hx : L[k]? = some x) : ∃ ad, A = some ad ∧ w.cell? (ad.add k) = some (.int .i64 x) := by
  obtain ⟨ad, e, hc⟩ := h.cell k x hx
  have := hc 0 _ rfl
  rw [Nat.mul_one, Nat.add_zero] at this
  exact ⟨ad, e, this⟩
set_option maxRecDepth 100000 in
theorem open_ints {H : Type} {enc : TypeId × Value → H} {W : World} {base : Nat} {v : Value} {d : DataW H} {p : List MemPlace} (hv : Value.okWide Try.prog W .any base 45 v)
    (h : DataW.Trod enc Try.prog W 0 (fun _ => true) true 45 v d p) : ∃ A n c l, v = .slice A n c ∧ SArg Try.prog W 45 1 8 icells iok A n c l d :=
  open_list Try.underlying45 cellsInt (by kernel_rfl) (fun _ => rfl) (fun h => by
    obtain ⟨n0, e0, _, w0⟩ := DataW.trod_int Try.underlying3 h
    exact ⟨n0, e0, w0⟩) hv h
end Go.Proofs.Ytjjobgolpedgeaa
