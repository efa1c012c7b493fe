/-
  Putting a vote as the document does it, in plain Lean.
-/
import Derived.Test.YtjjobgolpedgeaaTRefCmp
import Derived.Test.YtjjobgolpedgeaaTPutF
set_option linter.unusedVariables false
set_option linter.unusedSimpArgs false
namespace Go.Proofs.Ytjjobgolpedgeaa
open Go.RowKit

section
variable {α : Type} {wins : α → α → Bool}
theorem outK_set {L : List α} {v x : α} {k : Nat} (hx : L[k]? = some x) : ∀ m, m ≤ L.length → outK wins L v k true m = (L.set k (if wins v x then v else x)).take m := by
  intro m
  induction m with
  | zero => intro _; simp [outK]
  | succ m ih =>
    intro hm
    obtain ⟨y, hy⟩ : ∃ y, L[m]? = some y := ⟨_, List.getElem?_eq_getElem (by omega)⟩
    rw [outK_succ wins v k true hy, ih (by omega)]
    by_cases h : m = k
    · subst h
      rw [hx] at hy
      cases hy
      have h1 : (L.set m (if wins v x then v else x))[m]? = some (if wins v x then v else x) := by rw [List.getElem?_set_self (by omega)]
      rw [take_next h1]
      simp [pce]
    · have h1 : (L.set k (if wins v x then v else x))[m]? = some y := by rw [List.getElem?_set_ne (Ne.symm h)]; exact hy
      rw [take_next h1]
      have h2 : (m == k) = false := beq_eq_false_iff_ne.2 h
      simp [pce, h2]
theorem putL_set {L : List α} {v x : α} {k : Nat} (hx : L[k]? = some x) : putL wins L v k true = L.set k (if wins v x then v else x) := by
  have hk := (List.getElem?_eq_some_iff.1 hx).1
  unfold putL
  have hkl : ¬ k = L.length := by omega
  rw [outK_set hx _ (Nat.le_refl _), if_neg hkl, List.append_nil, List.take_of_length_le (by simp)]
theorem set_same {L : List α} {x : α} {k : Nat} (hx : L[k]? = some x) : L.set k x = L := by
  refine List.ext_getElem? fun j => ?_
  by_cases h : j = k
  · subst h; rw [List.getElem?_set_self (List.getElem?_eq_some_iff.1 hx).1, hx]
  · rw [List.getElem?_set_ne (Ne.symm h)]
theorem outK_far {L : List α} {v : α} {a : Nat} {same : Bool} : ∀ k, k ≤ a → k ≤ L.length → outK wins L v a same k = L.take k := by
  intro k
  induction k with
  | zero => intro _ _; simp [outK]
  | succ k ih =>
    intro h1 h2
    obtain ⟨y, hy⟩ : ∃ y, L[k]? = some y := ⟨_, List.getElem?_eq_getElem (by omega)⟩
    rw [outK_succ wins v a same hy, ih (by omega) (by omega), take_next hy]
    have h3 : (k == a) = false := beq_eq_false_iff_ne.2 (by omega)
    simp [pce, h3]
end
theorem CL_set3 (v : Mk) : ∀ (L : List Mk) (i : Nat), i < L.length → CL Mk.cells (L.set i v) = (((CL Mk.cells L).set (i * 3) (.int .i64 v.n)).set (i * 3 + 1) (.int .u64 (v.h : Nat))).set (i * 3 + 2) (.int .u64 (v.l : Nat)) := by
  intro L
  induction L with
  | nil => intro i h; simp at h
  | cons x t ih =>
    intro i h
    cases i with
    | zero => rfl
    | succ i =>
      have := ih i (by simpa using h)
      have e : (i + 1) * 3 = i * 3 + 1 + 1 + 1 := by omega
      rw [e]
      simp only [CL, List.set_cons_succ, List.flatMap_cons, Mk.cells, List.cons_append, List.nil_append] at this ⊢
      rw [this]
theorem CL_set4 (v : Ak) : ∀ (L : List Ak) (i : Nat), i < L.length → CL Ak.cells (L.set i v) = ((((CL Ak.cells L).set (i * 4) (.int .i64 v.n)).set (i * 4 + 1) (.int .u64 (v.h : Nat))).set (i * 4 + 2) (.int .u64 (v.l : Nat))).set (i * 4 + 3) (.int .i64 v.p) := by
  intro L
  induction L with
  | nil => intro i h; simp at h
  | cons x t ih =>
    intro i h
    cases i with
    | zero => rfl
    | succ i =>
      have := ih i (by simpa using h)
      have e : (i + 1) * 4 = i * 4 + 1 + 1 + 1 + 1 := by omega
      rw [e]
      simp only [CL, List.set_cons_succ, List.flatMap_cons, Ak.cells, List.cons_append, List.nil_append] at this ⊢
      rw [this]
end Go.Proofs.Ytjjobgolpedgeaa
