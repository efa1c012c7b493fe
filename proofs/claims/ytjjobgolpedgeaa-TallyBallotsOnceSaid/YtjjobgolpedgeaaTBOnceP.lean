/-
  One voter's two votes, in plain Lean.
-/
import Derived.Test.YtjjobgolpedgeaaTOnceP
import Derived.Test.YtjjobgolpedgeaaTLog2
set_option linter.unusedVariables false
set_option linter.unusedSimpArgs false
namespace Go.Proofs.Ytjjobgolpedgeaa
open Go.RowKit

theorem Lt.wins_iff (x y : Lt) : x.wins y = true ↔ (y.h < x.h ∨ y.h = x.h ∧ y.l < x.l) ∨ (x.h = y.h ∧ x.l = y.l ∧ (y.v < x.v ∨ x.v = y.v ∧ (y.log.length < x.log.length ∨ x.log.length = y.log.length ∧ y.c < x.c))) := by
  unfold Lt.wins Bt.wins Bt.above longer
  simp only [Lt.raw]
  rw [Bool.or_eq_true, Bool.and_eq_true, decide_eq_true_iff, decide_eq_true_iff, dCmp_pos, dCmp_zero]
  by_cases h : x.v = y.v
  · rw [if_pos h, Bool.or_eq_true, Bool.and_eq_true, decide_eq_true_iff, decide_eq_true_iff, decide_eq_true_iff]
    omega
  · rw [if_neg h, decide_eq_true_iff]
    omega
theorem Lt.wins_not {x y : Lt} (h : ¬ ((y.h < x.h ∨ y.h = x.h ∧ y.l < x.l) ∨ (x.h = y.h ∧ x.l = y.l ∧ (y.v < x.v ∨ x.v = y.v ∧ (y.log.length < x.log.length ∨ x.log.length = y.log.length ∧ y.c < x.c))))) : x.wins y = false := by
  cases e : x.wins y with
  | false => rfl
  | true => exact absurd ((Lt.wins_iff x y).1 e) h
theorem putF_nil {α : Type} (node : α → Int) (wins : α → α → Bool) (x : α) : putF node wins [] x = [x] := rfl
/-- of two votes the one that counts -/
def bestL (a b : Lt) : Lt := if b.wins a then b else a
theorem put_two {a b : Lt} (h : a.n = b.n) : putF Lt.n Lt.wins [a] b = [bestL a b] := by
  rw [putF_ins _ (List.pairwise_singleton _ _)]
  unfold ins
  rw [if_neg (by omega), if_pos h]
  rfl
def KeyEq (a b : Lt) : Prop := a.h = b.h ∧ a.l = b.l ∧ a.v = b.v ∧ a.log.length = b.log.length ∧ a.c = b.c
theorem best_same {a b : Lt} (h : KeyEq a b) : bestL a b = a := by
  unfold bestL
  obtain ⟨h1, h2, h3, h4, h5⟩ := h
  rw [Lt.wins_not (by omega)]
  rfl
theorem best_comm {a b : Lt} (h : ¬ KeyEq a b) : bestL a b = bestL b a := by
  unfold bestL
  cases h1 : b.wins a with
  | true =>
    have e1 := (Lt.wins_iff b a).1 h1
    rw [Lt.wins_not (by omega)]
    rfl
  | false =>
    cases h2 : a.wins b with
    | true => rfl
    | false =>
      exfalso
      have e1 : ¬ b.wins a = true := by rw [h1]; simp
      have e2 : ¬ a.wins b = true := by rw [h2]; simp
      rw [Lt.wins_iff] at e1 e2
      exact h ⟨by omega, by omega, by omega, by omega, by omega⟩
theorem best_b {a b : Lt} (h : (a.h < b.h ∨ a.h = b.h ∧ a.l < b.l) ∨ (b.h = a.h ∧ b.l = a.l ∧ (a.v < b.v ∨ b.v = a.v ∧ (a.log.length < b.log.length ∨ b.log.length = a.log.length ∧ a.c < b.c)))) : bestL a b = b := by
  unfold bestL
  rw [(Lt.wins_iff b a).2 h]
  rfl
theorem best_a {a b : Lt} (h : ¬ ((a.h < b.h ∨ a.h = b.h ∧ a.l < b.l) ∨ (b.h = a.h ∧ b.l = a.l ∧ (a.v < b.v ∨ b.v = a.v ∧ (a.log.length < b.log.length ∨ b.log.length = a.log.length ∧ a.c < b.c))))) : bestL a b = a := by
  unfold bestL
  rw [Lt.wins_not h]
  rfl
theorem putF_length {α : Type} (node : α → Int) (wins : α → α → Bool) (L : List α) (v : α) : ((∃ x ∈ L, node x = node v) → (putF node wins L v).length = L.length) ∧ ((¬ ∃ x ∈ L, node x = node v) → (putF node wins L v).length = L.length + 1) := by
  unfold putF putL plcOf
  cases h1 : L.findIdx? (fun x => node x == node v) with
  | some i =>
    obtain ⟨hi, hp, _⟩ := List.findIdx?_eq_some_iff_getElem.1 h1
    have hp2 : node L[i] = node v := by simpa using hp
    refine ⟨fun _ => ?_, fun h => absurd ⟨L[i], List.getElem_mem hi, hp2⟩ h⟩
    simp only [List.length_append]
    rw [outK_len _ _ _ _ _ (Nat.le_refl _), if_neg (by simp), if_neg (by omega)]
    simp
  | none =>
    have hn : ¬ ∃ x ∈ L, node x = node v := by
      rintro ⟨x, hx, e⟩
      have := List.findIdx?_eq_none_iff.1 h1 x hx
      simp [e] at this
    refine ⟨fun h => absurd h hn, fun _ => ?_⟩
    simp only [List.length_append]
    rw [outK_len _ _ _ _ _ (Nat.le_refl _)]
    cases h2 : L.findIdx? (fun x => decide (node v < node x)) with
    | some j =>
      obtain ⟨hj, _⟩ := List.findIdx?_eq_some_iff_getElem.1 h2
      have h3 : ¬ j = L.length := by omega
      simp [hj, h3]
    | none =>
      simp
abbrev Lt.at_ (b : Lt) (n : Int) : Lt := ⟨n, b.h, b.l, b.v, b.c, b.log⟩
end Go.Proofs.Ytjjobgolpedgeaa
