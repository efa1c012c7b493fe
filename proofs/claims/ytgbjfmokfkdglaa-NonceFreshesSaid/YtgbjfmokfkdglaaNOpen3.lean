/-
  Opening lists of stamps.
-/
import Derived.Test.YtgbjfmokfkdglaaNOpen
import Derived.Test.YtgbjfmokfkdglaaNFreshes
set_option linter.unusedVariables false
set_option linter.unusedSimpArgs false
namespace Go.Proofs.Ytgbjfmokfkdglaa
open Go.ChangeShapes Go.WideShapes Go.ChangeAt Go.RowKit

theorem cellsInt : Try.prog.cellsOf 3 = 1 := by kernel_rfl
theorem cellsDraw : Try.prog.cellsOf 25 = 2 := by kernel_rfl
theorem cellsStamp : Try.prog.cellsOf 27 = 3 := by kernel_rfl
set_option maxRecDepth 100000 in
theorem open_stamps {H : Type} {enc : TypeId × Value → H} {W : World} {base : Nat} {v : Value} {d : DataW H} {p : List MemPlace} (hv : Value.okWide Try.prog W .any base 22 v)
    (h : DataW.Trod enc Try.prog W 0 (fun _ => true) true 22 v d p) : ∃ A n c l, v = .slice A n c ∧ SArg Try.prog W 22 3 24 sv SOk A n c l d :=
  open_list Try.underlying22 cellsStamp (by kernel_rfl) (fun _ => rfl) (fun {b fuel sp held cs y} h => by
    obtain ⟨xs, n, _, rfl, hl, hlen, hf⟩ := DataW.trod_struct Try.underlying27 h
    rw [cellsStamp] at hl
    match xs, hlen with
    | [y0, y1], _ =>
      match cs, hl with
      | [c0, c1, c2], _ =>
        have h0 : DataW.trod enc Try.prog W b sp held n 3 (([c0, c1, c2].drop 0).take (Try.prog.cellsOf 3)) = some y0 := hf 0 _ rfl
        have h1 : DataW.trod enc Try.prog W b sp held n 25 (([c0, c1, c2].drop 1).take (Try.prog.cellsOf 25)) = some y1 := hf 1 _ rfl
        rw [cellsInt] at h0
        rw [cellsDraw] at h1
        obtain ⟨n0, e0, _, w0⟩ := DataW.trod_int Try.underlying3 h0
        have h1' : DataW.trod enc Try.prog W b sp held n 25 [c1, c2] = some y1 := h1
        obtain ⟨_, m, hg⟩ := one_fields Try.underlying25 (by kernel_rfl) (by kernel_rfl) h1'
        obtain ⟨v0, z0, e1, t0⟩ := hg 0 _ rfl
        obtain ⟨v1, z1, e2, t1⟩ := hg 1 _ rfl
        obtain ⟨x0, f0, _, w1⟩ := DataW.trod_int Try.underlying23 t0
        obtain ⟨x1, f1, _, w2⟩ := DataW.trod_int Try.underlying23 t1
        simp at e0 e1 e2 f0 f1
        subst e0 e1 e2 f0 f1
        have b0 := bounds_u64 w1
        have b1 := bounds_u64 w2
        refine ⟨(n0, x0.toNat, x1.toNat), ?_, w0⟩
        simp only [sv, Int.toNat_of_nonneg b0.1, Int.toNat_of_nonneg b1.1]) hv h
end Go.Proofs.Ytgbjfmokfkdglaa
