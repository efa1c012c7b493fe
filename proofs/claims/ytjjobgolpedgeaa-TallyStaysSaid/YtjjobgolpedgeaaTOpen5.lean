/-
  Opening a configuration and a mark.
-/
import Derived.Test.YtjjobgolpedgeaaTOpen4
import Derived.Test.YtjjobgolpedgeaaTRefCmp
set_option linter.unusedVariables false
set_option linter.unusedSimpArgs false
namespace Go.Proofs.Ytjjobgolpedgeaa
open Go.ChangeShapes Go.WideShapes Go.ChangeAt Go.RowKit

set_option maxRecDepth 100000 in
theorem open_cfg {H : Type} {enc : TypeId × Value → H} {W : World} {base : Nat} {v : Value} {d : DataW H} {p : List MemPlace} (hv : Value.okWide Try.prog W .any base 70 v)
    (h : DataW.Trod enc Try.prog W 0 (fun _ => true) true 70 v d p) : ∃ x : Cg, v = x.agg ∧ True := by
  obtain ⟨cs, rfl, hsz⟩ := okWide_struct Try.underlying70 hv
  obtain ⟨fuel, hf⟩ := h
  obtain ⟨hl, m, hg⟩ := one_fields Try.underlying70 (by kernel_rfl) (by kernel_rfl) hf
  obtain ⟨v0, z0, e0, t0⟩ := hg 0 _ rfl
  obtain ⟨v1, z1, e1, t1⟩ := hg 1 _ rfl
  obtain ⟨v2, z2, e2, t2⟩ := hg 2 _ rfl
  obtain ⟨v3, z3, e3, t3⟩ := hg 3 _ rfl
  obtain ⟨x0, f0, _, w0⟩ := DataW.trod_int Try.underlying3 t0
  obtain ⟨x1, f1, _, w1⟩ := DataW.trod_int Try.underlying3 t1
  obtain ⟨x2, f2, _, w2⟩ := DataW.trod_int Try.underlying3 t2
  obtain ⟨x3, f3, _⟩ := DataW.trod_bool Try.underlying4 t3
  simp at f0 f1 f2 f3
  subst f0 f1 f2 f3
  refine ⟨⟨x0, x1, x2, x3⟩, ?_, trivial⟩
  have hcs : (Value.agg cs).cells.toList = [.int .i64 x0, .int .i64 x1, .int .i64 x2, .bool x3] := by
    refine List.ext_getElem? fun j => ?_
    match j with
    | 0 => exact e0
    | 1 => exact e1
    | 2 => exact e2
    | 3 => exact e3
    | j + 4 =>
      have hl' : (Value.agg cs).cells.toList.length = 4 := hl
      rw [List.getElem?_eq_none (by omega), List.getElem?_eq_none (by simp)]
  have : cs = #[.int .i64 x0, .int .i64 x1, .int .i64 x2, .bool x3] := by
    have h9 : cs.toList = [.int .i64 x0, .int .i64 x1, .int .i64 x2, .bool x3] := by simpa [Value.cells] using hcs
    exact Array.toList_inj.1 h9
  rw [this]
set_option maxRecDepth 100000 in
theorem open_mark {H : Type} {enc : TypeId × Value → H} {W : World} {base : Nat} {v : Value} {d : DataW H} {p : List MemPlace} (hv : Value.okWide Try.prog W .any base 49 v)
    (h : DataW.Trod enc Try.prog W 0 (fun _ => true) true 49 v d p) : ∃ x : Mk, v = x.agg ∧ True := by
  obtain ⟨cs, rfl, hsz⟩ := okWide_struct Try.underlying49 hv
  obtain ⟨fuel, hf⟩ := h
  obtain ⟨xs, n, _, _, hl, hlen, hfs⟩ := DataW.trod_struct Try.underlying49 hf
  rw [cellsMark] at hl
  have key : ∃ x : Mk, (Value.agg cs).cells.toList = x.cells := by
    generalize (Value.agg cs).cells.toList = q at hl hfs
    match xs, hlen with
    | [y0, y1], _ =>
      match q, hl with
      | [c0, c1, c2], _ =>
        have h0 : DataW.trod enc Try.prog W 0 (fun _ => true) true n 3 (([c0, c1, c2].drop 0).take (Try.prog.cellsOf 3)) = some y0 := hfs 0 _ rfl
        have h1 : DataW.trod enc Try.prog W 0 (fun _ => true) true n 27 (([c0, c1, c2].drop 1).take (Try.prog.cellsOf 27)) = some y1 := hfs 1 _ rfl
        rw [cellsInt] at h0
        rw [cellsDraw] at h1
        obtain ⟨n0, e0, _, w0⟩ := DataW.trod_int Try.underlying3 h0
        obtain ⟨p, q, rfl, rfl, hp, hq⟩ := open_draw (show DataW.trod enc Try.prog W 0 (fun _ => true) true n 27 [c1, c2] = some y1 from h1)
        simp at e0
        subst e0
        exact ⟨⟨n0, p, q⟩, rfl⟩
  obtain ⟨x, hx⟩ := key
  refine ⟨x, ?_, trivial⟩
  have : cs = x.cells.toArray := by rw [← hx]; simp [Value.cells]
  rw [this]
end Go.Proofs.Ytjjobgolpedgeaa
