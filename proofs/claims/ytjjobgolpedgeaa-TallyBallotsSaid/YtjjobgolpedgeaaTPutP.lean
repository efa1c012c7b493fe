/-
  Putting a vote into a list, in plain Lean: where it goes, what stands then.
-/
import Derived.Test.YtjjobgolpedgeaaTVotes
set_option linter.unusedVariables false
set_option linter.unusedSimpArgs false
namespace Go.Proofs.Ytjjobgolpedgeaa
open Go.RowKit

section
variable {α : Type}
/-- the first of the same voter: its place and true; the length and false -/
def Fnd (node : α → Int) (L : List α) (v : α) (k : Nat) (same : Bool) : Prop :=
  (same = true ∧ (∃ x, L[k]? = some x ∧ node x = node v) ∧ ∀ j x, j < k → L[j]? = some x → node x ≠ node v) ∨
  (same = false ∧ k = L.length ∧ ∀ j x, j < L.length → L[j]? = some x → node x ≠ node v)
/-- where a vote goes -/
def Plc (node : α → Int) (L : List α) (v : α) (k : Nat) (same : Bool) : Prop :=
  (same = true ∧ (∃ x, L[k]? = some x ∧ node x = node v) ∧ ∀ j x, j < k → L[j]? = some x → node x ≠ node v) ∨
  (same = false ∧ (∀ j x, j < L.length → L[j]? = some x → node x ≠ node v) ∧ k ≤ L.length ∧ (∀ x, L[k]? = some x → node v < node x) ∧ ∀ j x, j < k → L[j]? = some x → ¬ node v < node x)
theorem Plc.le {node : α → Int} {L : List α} {v : α} {k : Nat} {same : Bool} (h : Plc node L v k same) : k ≤ L.length := by
  rcases h with ⟨_, ⟨x, hx, _⟩, _⟩ | ⟨_, _, h, _⟩
  · exact Nat.le_of_lt (List.getElem?_eq_some_iff.1 hx).1
  · exact h
theorem Plc.lt {node : α → Int} {L : List α} {v : α} {k : Nat} (h : Plc node L v k true) : k < L.length := by
  rcases h with ⟨_, ⟨x, hx, _⟩, _⟩ | ⟨h, _⟩
  · exact (List.getElem?_eq_some_iff.1 hx).1
  · cases h
/-- what one old vote becomes -/
def pce (wins : α → α → Bool) (v : α) (same here : Bool) (x : α) : List α := if here then (if same then [if wins v x then v else x] else [v, x]) else [x]
def outK (wins : α → α → Bool) (L : List α) (v : α) (at_ : Nat) (same : Bool) (k : Nat) : List α :=
  (List.range k).flatMap fun i => match L[i]? with | none => [] | some x => pce wins v same (i == at_) x
theorem outK_zero (wins : α → α → Bool) (L : List α) (v : α) (at_ : Nat) (same : Bool) : outK wins L v at_ same 0 = [] := rfl
theorem outK_succ (wins : α → α → Bool) {L : List α} (v : α) (at_ : Nat) (same : Bool) {k : Nat} {x : α} (h : L[k]? = some x) : outK wins L v at_ same (k + 1) = outK wins L v at_ same k ++ pce wins v same (k == at_) x := by
  unfold outK
  rw [List.range_succ, List.flatMap_append]
  simp [h]
theorem outK_len (wins : α → α → Bool) (L : List α) (v : α) (at_ : Nat) (same : Bool) {k : Nat} (hk : k ≤ L.length) : (outK wins L v at_ same k).length = k + if same = false ∧ at_ < k then 1 else 0 := by
  induction k with
  | zero => simp [outK]
  | succ k ih =>
    obtain ⟨x, hx⟩ : ∃ x, L[k]? = some x := ⟨_, List.getElem?_eq_getElem (by omega)⟩
    rw [outK_succ wins v at_ same hx, List.length_append, ih (by omega)]
    unfold pce
    by_cases h1 : k = at_
    · subst h1
      cases same <;> simp
    · have h2 : (k == at_) = false := beq_eq_false_iff_ne.2 h1
      rw [h2]
      by_cases h3 : at_ < k
      · have h4 : at_ < k + 1 := by omega
        cases same <;> simp [h3, h4]
      · have h4 : ¬ at_ < k + 1 := by omega
        cases same <;> simp [h3, h4]
/-- the list with one vote more -/
def putL (wins : α → α → Bool) (L : List α) (v : α) (at_ : Nat) (same : Bool) : List α := outK wins L v at_ same L.length ++ if at_ = L.length then [v] else []
theorem putL_len (wins : α → α → Bool) (L : List α) (v : α) (at_ : Nat) (same : Bool) : (putL wins L v at_ same).length ≤ L.length + 1 := by
  unfold putL
  rw [List.length_append, outK_len wins L v at_ same (Nat.le_refl _)]
  by_cases h : at_ = L.length
  · rw [if_pos h, if_neg (fun e => by omega)]; simp
  · rw [if_neg h]; split <;> simp
end
end Go.Proofs.Ytjjobgolpedgeaa
