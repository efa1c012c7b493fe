/-
  Opening lists of Op: a kind, a bool, a number.
-/
import Derived.Test.YtgbjfmokfkdglaaNOpen2
import Derived.Test.YtgbjfmokfkdglaaNAmong
set_option linter.unusedVariables false
set_option linter.unusedSimpArgs false
namespace Go.Proofs.Ytgbjfmokfkdglaa
open Go.ChangeShapes Go.WideShapes Go.ChangeAt Go.RowKit

def opv (x : Int × Bool × Nat) : List Value := [.int .i64 x.1, .bool x.2.1, .int .u64 (x.2.2 : Nat)]
def OpOk (x : Int × Bool × Nat) : Prop := x.2.2 < 18446744073709551616
set_option maxRecDepth 100000 in
theorem open_ops {H : Type} {enc : TypeId × Value → H} {W : World} {base : Nat} {v : Value} {d : DataW H} {p : List MemPlace} (hv : Value.okWide Try.prog W .any base 61 v)
    (h : DataW.Trod enc Try.prog W 0 (fun _ => true) true 61 v d p) : ∃ A n c l, v = .slice A n c ∧ SArg Try.prog W 61 3 24 opv OpOk A n c l d :=
  open_list Try.underlying61 (by kernel_rfl) (by kernel_rfl) (fun _ => rfl) (fun {b fuel sp held cs y} h => by
    obtain ⟨hl, n, hf⟩ := one_fields Try.underlying80 (by kernel_rfl) (by kernel_rfl) h
    obtain ⟨v0, y0, e0, t0⟩ := hf 0 _ rfl
    obtain ⟨v1, y1, e1, t1⟩ := hf 1 _ rfl
    obtain ⟨v2, y2, e2, t2⟩ := hf 2 _ rfl
    obtain ⟨x0, z0, _, w0⟩ := DataW.trod_int Try.underlying3 t0
    obtain ⟨x1, z1, _⟩ := DataW.trod_bool Try.underlying4 t1
    obtain ⟨x2, z2, _, w2⟩ := DataW.trod_int Try.underlying23 t2
    simp only [List.cons.injEq, and_true] at z0 z1 z2
    subst z0 z1 z2
    have b2 := bounds_u64 w2
    match cs, hl, e0, e1, e2 with
    | [c0, c1, c2], _, e0, e1, e2 =>
      simp at e0 e1 e2
      subst e0 e1 e2
      refine ⟨(x0, x1, x2.toNat), ?_, ?_⟩
      · simp only [opv, Int.toNat_of_nonneg b2.1]
      · simp only [OpOk]; omega) hv h
/-- the three cells of a place, in the walk's form -/
theorem RdC.three {w : World} {A : Option Addr} {n : Nat} {L : List (Int × Bool × Nat)} (h : RdC 3 opv w A n L) {k : Nat} {x : Int × Bool × Nat} (hx : L[k]? = some x) :
    ∃ ad, A = some ad ∧ w.cell? (ad.add (k * 3)) = some (.int .i64 x.1) ∧ w.cell? ⟨(ad.add (k * 3)).block, (ad.add (k * 3)).off + 1, none⟩ = some (.bool x.2.1) ∧ w.cell? ⟨(ad.add (k * 3)).block, (ad.add (k * 3)).off + 2, none⟩ = some (.int .u64 (x.2.2 : Nat)) := by
  obtain ⟨ad, e, hc⟩ := h.cell k x hx
  refine ⟨ad, e, hc 0 _ rfl, ?_, ?_⟩
  · have := hc 1 _ rfl
    rw [← add_add] at this
    exact this
  · have := hc 2 _ rfl
    rw [← add_add] at this
    exact this
end Go.Proofs.Ytgbjfmokfkdglaa
