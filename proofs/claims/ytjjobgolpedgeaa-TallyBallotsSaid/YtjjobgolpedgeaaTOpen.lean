/-
  Opening lists of acknowledgements and marks.
-/
import Derived.Test.YtjjobgolpedgeaaTKinds
set_option linter.unusedVariables false
set_option linter.unusedSimpArgs false
namespace Go.Proofs.Ytjjobgolpedgeaa
open Go.ChangeShapes Go.WideShapes Go.ChangeAt Go.RowKit

theorem cellsInt : Try.prog.cellsOf 3 = 1 := by kernel_rfl
theorem cellsDraw : Try.prog.cellsOf 27 = 2 := by kernel_rfl
theorem cellsMark : Try.prog.cellsOf 49 = 3 := by kernel_rfl
theorem cellsAck : Try.prog.cellsOf 29 = 4 := by kernel_rfl
def Mk.Ok (x : Mk) : Prop := (Lit.int .i64 x.n).wf = true ∧ x.h < 18446744073709551616 ∧ x.l < 18446744073709551616
def Ak.Ok (x : Ak) : Prop := (Lit.int .i64 x.n).wf = true ∧ x.h < 18446744073709551616 ∧ x.l < 18446744073709551616 ∧ (Lit.int .i64 x.p).wf = true
theorem open_draw {H : Type} {enc : TypeId × Value → H} {W : World} {sp : Nat → Bool} {held : Bool} {b fuel : Nat} {c1 c2 : Value} {y : DataW H × List MemPlace} (h : DataW.trod enc Try.prog W b sp held fuel 27 [c1, c2] = some y) :
    ∃ p q : Nat, c1 = .int .u64 (p : Nat) ∧ c2 = .int .u64 (q : Nat) ∧ p < 18446744073709551616 ∧ q < 18446744073709551616 := by
  obtain ⟨_, m, hg⟩ := one_fields Try.underlying27 (by kernel_rfl) (by kernel_rfl) h
  obtain ⟨v0, z0, e1, t0⟩ := hg 0 _ rfl
  obtain ⟨v1, z1, e2, t1⟩ := hg 1 _ rfl
  obtain ⟨x0, f0, _, w1⟩ := DataW.trod_int Try.underlying25 t0
  obtain ⟨x1, f1, _, w2⟩ := DataW.trod_int Try.underlying25 t1
  simp at e1 e2 f0 f1
  subst e1 e2 f0 f1
  have b0 := bounds_u64 w1
  have b1 := bounds_u64 w2
  exact ⟨x0.toNat, x1.toNat, by rw [Int.toNat_of_nonneg b0.1], by rw [Int.toNat_of_nonneg b1.1], by omega, by omega⟩
set_option maxRecDepth 100000 in
theorem open_marks {H : Type} {enc : TypeId × Value → H} {W : World} {base : Nat} {v : Value} {d : DataW H} {p : List MemPlace} (hv : Value.okWide Try.prog W .any base 46 v)
    (h : DataW.Trod enc Try.prog W 0 (fun _ => true) true 46 v d p) : ∃ A n c l, v = .slice A n c ∧ SArg Try.prog W 46 3 24 Mk.cells Mk.Ok A n c l d :=
  open_list Try.underlying46 cellsMark (by kernel_rfl) (fun _ => rfl) (fun {b fuel sp held cs y} h => by
    obtain ⟨xs, n, _, rfl, hl, hlen, hf⟩ := DataW.trod_struct Try.underlying49 h
    rw [cellsMark] at hl
    match xs, hlen with
    | [y0, y1], _ =>
      match cs, hl with
      | [c0, c1, c2], _ =>
        have h0 : DataW.trod enc Try.prog W b sp held n 3 (([c0, c1, c2].drop 0).take (Try.prog.cellsOf 3)) = some y0 := hf 0 _ rfl
        have h1 : DataW.trod enc Try.prog W b sp held n 27 (([c0, c1, c2].drop 1).take (Try.prog.cellsOf 27)) = some y1 := hf 1 _ rfl
        rw [cellsInt] at h0
        rw [cellsDraw] at h1
        obtain ⟨n0, e0, _, w0⟩ := DataW.trod_int Try.underlying3 h0
        obtain ⟨p, q, rfl, rfl, hp, hq⟩ := open_draw (show DataW.trod enc Try.prog W b sp held n 27 [c1, c2] = some y1 from h1)
        simp at e0
        subst e0
        exact ⟨⟨n0, p, q⟩, rfl, w0, hp, hq⟩) hv h
set_option maxRecDepth 100000 in
theorem ack_one {H : Type} {enc : TypeId × Value → H} {W : World} {b fuel : Nat} {sp : Nat → Bool} {held : Bool} {cs : List Value} {y : DataW H × List MemPlace} (h : DataW.trod enc Try.prog W b sp held fuel 29 cs = some y) : ∃ x : Ak, cs = x.cells ∧ x.Ok := by
    obtain ⟨xs, n, _, rfl, hl, hlen, hf⟩ := DataW.trod_struct Try.underlying29 h
    rw [cellsAck] at hl
    match xs, hlen with
    | [y0, y1, y2], _ =>
      match cs, hl with
      | [c0, c1, c2, c3], _ =>
        have h0 : DataW.trod enc Try.prog W b sp held n 3 (([c0, c1, c2, c3].drop 0).take (Try.prog.cellsOf 3)) = some y0 := hf 0 _ rfl
        have h1 : DataW.trod enc Try.prog W b sp held n 27 (([c0, c1, c2, c3].drop 1).take (Try.prog.cellsOf 27)) = some y1 := hf 1 _ rfl
        have h2 : DataW.trod enc Try.prog W b sp held n 3 (([c0, c1, c2, c3].drop 3).take (Try.prog.cellsOf 3)) = some y2 := hf 2 _ rfl
        rw [cellsInt] at h0 h2
        rw [cellsDraw] at h1
        obtain ⟨n0, e0, _, w0⟩ := DataW.trod_int Try.underlying3 h0
        obtain ⟨n3, e3, _, w3⟩ := DataW.trod_int Try.underlying3 h2
        obtain ⟨p, q, rfl, rfl, hp, hq⟩ := open_draw (show DataW.trod enc Try.prog W b sp held n 27 [c1, c2] = some y1 from h1)
        simp at e0 e3
        subst e0 e3
        exact ⟨⟨n0, p, q, n3⟩, rfl, w0, hp, hq, w3⟩
set_option maxRecDepth 100000 in
theorem open_acks {H : Type} {enc : TypeId × Value → H} {W : World} {base : Nat} {v : Value} {d : DataW H} {p : List MemPlace} (hv : Value.okWide Try.prog W .any base 22 v)
    (h : DataW.Trod enc Try.prog W 0 (fun _ => true) true 22 v d p) : ∃ A n c l, v = .slice A n c ∧ SArg Try.prog W 22 4 32 Ak.cells Ak.Ok A n c l d :=
  open_list Try.underlying22 cellsAck (by kernel_rfl) (fun _ => rfl) (fun h => ack_one h) hv h
set_option maxRecDepth 100000 in
theorem open_ack {H : Type} {enc : TypeId × Value → H} {W : World} {base : Nat} {v : Value} {d : DataW H} {p : List MemPlace} (hv : Value.okWide Try.prog W .any base 29 v)
    (h : DataW.Trod enc Try.prog W 0 (fun _ => true) true 29 v d p) : ∃ x : Ak, v = x.agg ∧ x.Ok := by
  obtain ⟨cs, rfl, hsz⟩ := okWide_struct Try.underlying29 hv
  obtain ⟨fuel, hf⟩ := h
  obtain ⟨x, hx, ho⟩ := ack_one hf
  refine ⟨x, ?_, ho⟩
  have : cs = x.cells.toArray := by rw [← hx]; simp [Value.cells]
  rw [this]
end Go.Proofs.Ytjjobgolpedgeaa
