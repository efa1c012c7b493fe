/-
  Opening lists of draws as pairs of naturals.
-/
import Derived.Test.YtgbjfmokfkdglaaNOpen
import Derived.Test.YtgbjfmokfkdglaaNAmong
set_option linter.unusedVariables false
set_option linter.unusedSimpArgs false
namespace Go.Proofs.Ytgbjfmokfkdglaa
open Go.ChangeShapes Go.WideShapes Go.ChangeAt Go.RowKit

def DOk (x : Nat × Nat) : Prop := x.1 < 18446744073709551616 ∧ x.2 < 18446744073709551616
set_option maxRecDepth 100000 in
theorem open_draws {H : Type} {enc : TypeId × Value → H} {W : World} {base : Nat} {v : Value} {d : DataW H} {p : List MemPlace} (hv : Value.okWide Try.prog W .any base 39 v)
    (h : DataW.Trod enc Try.prog W 0 (fun _ => true) true 39 v d p) : ∃ A n c l, v = .slice A n c ∧ SArg Try.prog W 39 2 16 dv DOk A n c l d :=
  open_list Try.underlying39 (by kernel_rfl) (by kernel_rfl) (fun _ => rfl) (fun {b fuel sp held cs y} h => by
    obtain ⟨hl, n, hf⟩ := one_fields Try.underlying25 (by kernel_rfl) (by kernel_rfl) h
    obtain ⟨v0, y0, e0, t0⟩ := hf 0 _ rfl
    obtain ⟨v1, y1, e1, t1⟩ := hf 1 _ rfl
    obtain ⟨x0, z0, _, w0⟩ := DataW.trod_int Try.underlying23 t0
    obtain ⟨x1, z1, _, w1⟩ := DataW.trod_int Try.underlying23 t1
    simp only [List.cons.injEq, and_true] at z0 z1
    subst z0 z1
    have b0 := bounds_u64 w0
    have b1 := bounds_u64 w1
    match cs, hl, e0, e1 with
    | [c0, c1], _, e0, e1 =>
      simp at e0 e1
      subst e0 e1
      refine ⟨(x0.toNat, x1.toNat), ?_, ?_, ?_⟩
      · simp only [dv, Int.toNat_of_nonneg b0.1, Int.toNat_of_nonneg b1.1]
      · simp only; omega
      · simp only; omega) hv h
end Go.Proofs.Ytgbjfmokfkdglaa
