/-
  What Prune leaves, in plain Lean; vectors in memory.
-/
import Derived.Test.YtjjobgolpedgeaaTMeth
set_option linter.unusedVariables false
set_option linter.unusedSimpArgs false
namespace Go.Proofs.Ytjjobgolpedgeaa
open Go.RowKit

/-- a draw of a vector -/
structure Dw where
  h : Nat
  l : Nat
instance : Inhabited Dw := ⟨⟨0, 0⟩⟩
abbrev Dw.cells (x : Dw) : List Value := [.int .u64 (x.h : Nat), .int .u64 (x.l : Nat)]
theorem Dw.one (x : Dw) : ∀ u ∈ x.cells, u.oneCell' = true := by
  intro u hu
  simp [Dw.cells] at hu
  rcases hu with rfl | rfl <;> rfl
theorem RdC.atDw {w : World} {A : Option Addr} {n : Nat} {L : List Dw} (h : RdC 2 Dw.cells w A n L) {k : Nat} {x : Dw} (hx : L[k]? = some x) :
    ∃ ad, A = some ad ∧ w.cell? (ad.add (k * 2)) = some (.int .u64 (x.h : Nat)) ∧ w.cell? ⟨(ad.add (k * 2)).block, (ad.add (k * 2)).off + 1, none⟩ = some (.int .u64 (x.l : Nat)) := by
  obtain ⟨ad, e, hc⟩ := h.cell k x hx
  refine ⟨ad, e, hc 0 _ rfl, ?_⟩
  have := hc 1 _ rfl; rw [← add_add] at this; exact this
theorem eltVector : Elt Try.prog 63 27 (.agg #[.int .u64 0, .int .u64 0]) 2 16 := ⟨Try.underlying63, by kernel_rfl, rfl, by decide⟩
/-- is a vote's life known to be over? -/
def overV (V : List Dw) (n : Int) (h l : Nat) : Bool := decide (0 ≤ n) && match V[n.toNat]? with | some d => decide (dCmp h l d.h d.l < 0) | none => false
theorem overV_neg {V : List Dw} {n : Int} {h l : Nat} (hn : n < 0) : overV V n h l = false := by
  unfold overV
  rw [decide_eq_false (by omega), Bool.false_and]
theorem overV_far {V : List Dw} {n : Int} {h l : Nat} {m : Nat} (hl : V.length = m) (hn : ¬ n < (m : Int)) : overV V n h l = false := by
  unfold overV
  rw [List.getElem?_eq_none (by omega)]
  simp
theorem overV_at {V : List Dw} {n : Int} {h l : Nat} {d : Dw} (hn : ¬ n < 0) (hd : V[n.toNat]? = some d) : overV V n h l = decide (dCmp h l d.h d.l < 0) := by
  unfold overV
  rw [decide_eq_true (by omega), hd, Bool.true_and]
section
variable {α : Type} (over : α → Bool)
def pruneF (L : List α) : List α := L.filter fun x => !over x
theorem pruneF_push (L : List α) (x : α) : pruneF over (L ++ [x]) = pruneF over L ++ if over x then [] else [x] := by
  unfold pruneF
  rw [List.filter_append]
  cases h : over x <;> simp [h]
theorem pruneF_len (L : List α) : (pruneF over L).length ≤ L.length := List.length_filter_le _ _
end
abbrev Ak.over (V : List Dw) (x : Ak) : Bool := overV V x.n x.h x.l
abbrev Mk.over (V : List Dw) (x : Mk) : Bool := overV V x.n x.h x.l
abbrev Bt.over (V : List Dw) (x : Bt) : Bool := overV V x.n x.h x.l
end Go.Proofs.Ytjjobgolpedgeaa
