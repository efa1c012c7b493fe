/-
  Opening a configuration (its F is an int).
-/
import Derived.Test.YtjjobgolpedgeaaTOpen5
set_option linter.unusedVariables false
set_option linter.unusedSimpArgs false
namespace Go.Proofs.Ytjjobgolpedgeaa
open Go.ChangeShapes Go.WideShapes Go.ChangeAt Go.RowKit

set_option maxRecDepth 100000 in
theorem open_cfgW {H : Type} {enc : TypeId × Value → H} {W : World} {base : Nat} {v : Value} {d : DataW H} {p : List MemPlace} (hv : Value.okWide Try.prog W .any base 70 v)
    (h : DataW.Trod enc Try.prog W 0 (fun _ => true) true 70 v d p) : ∃ x : Cg, v = x.agg ∧ (Lit.int .i64 x.f).wf = true := by
  obtain ⟨cs, rfl, hsz⟩ := okWide_struct Try.underlying70 hv
  obtain ⟨fuel, hf⟩ := h
  obtain ⟨hl, m, hg⟩ := one_fields Try.underlying70 (by kernel_rfl) (by kernel_rfl) hf
  obtain ⟨v0, z0, e0, t0⟩ := hg 0 _ rfl
  obtain ⟨v1, z1, e1, t1⟩ := hg 1 _ rfl
  obtain ⟨v2, z2, e2, t2⟩ := hg 2 _ rfl
  obtain ⟨v3, z3, e3, t3⟩ := hg 3 _ rfl
  obtain ⟨x0, f0, _, w0⟩ := DataW.trod_int Try.underlying3 t0
  obtain ⟨x1, f1, _, w1⟩ := DataW.trod_int Try.underlying3 t1
  obtain ⟨x2, f2, _, w2⟩ := DataW.trod_int Try.underlying3 t2
  obtain ⟨x3, f3, _⟩ := DataW.trod_bool Try.underlying4 t3
  simp at f0 f1 f2 f3
  subst f0 f1 f2 f3
  refine ⟨⟨x0, x1, x2, x3⟩, ?_, w0⟩
  have hcs : (Value.agg cs).cells.toList = [.int .i64 x0, .int .i64 x1, .int .i64 x2, .bool x3] := by
    refine List.ext_getElem? fun j => ?_
    match j with
    | 0 => exact e0
    | 1 => exact e1
    | 2 => exact e2
    | 3 => exact e3
    | j + 4 =>
      have hl' : (Value.agg cs).cells.toList.length = 4 := hl
      rw [List.getElem?_eq_none (by omega), List.getElem?_eq_none (by simp)]
  have : cs = #[.int .i64 x0, .int .i64 x1, .int .i64 x2, .bool x3] := by
    have h9 : cs.toList = [.int .i64 x0, .int .i64 x1, .int .i64 x2, .bool x3] := by simpa [Value.cells] using hcs
    exact Array.toList_inj.1 h9
  rw [this]
end Go.Proofs.Ytjjobgolpedgeaa
