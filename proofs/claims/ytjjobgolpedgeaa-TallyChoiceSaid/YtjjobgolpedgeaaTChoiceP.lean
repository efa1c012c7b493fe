/-
  What is chosen, in plain Lean.
-/
import Derived.Test.YtjjobgolpedgeaaTChoose
set_option linter.unusedVariables false
set_option linter.unusedSimpArgs false
namespace Go.Proofs.Ytjjobgolpedgeaa
open Go.RowKit

/-- is x not above b? -/
def Under (x b : Lt) : Prop := ¬ (b.v < x.v ∨ x.v = b.v ∧ b.log.length < x.log.length)
theorem bestV_under : ∀ (L : List Lt) (own : Lt), Under own (bestV own L) ∧ ∀ x ∈ L, Under x (bestV own L) := by
  intro L
  induction L with
  | nil => intro own; exact ⟨by unfold Under bestV; simp only [List.foldl_nil]; omega, fun x h => by simp at h⟩
  | cons y t ih =>
    intro own
    have e : bestV own (y :: t) = bestV (if better y own then y else own) t := rfl
    rw [e]
    obtain ⟨h1, h2⟩ := ih (if better y own then y else own)
    have key : Under own (bestV (if better y own then y else own) t) ∧ Under y (bestV (if better y own then y else own) t) := by
      generalize bestV (if better y own then y else own) t = z at h1
      cases hb : better y own with
      | true =>
        have h3 := (better_iff y own).1 hb
        rw [hb] at h1
        simp only [if_true] at h1
        unfold Under at *
        omega
      | false =>
        have h3 : ¬ better y own = true := by rw [hb]; simp
        rw [better_iff] at h3
        rw [hb] at h1
        simp only [Bool.false_eq_true, if_false] at h1
        unfold Under at *
        omega
    refine ⟨key.1, fun x hx => ?_⟩
    rcases List.mem_cons.1 hx with rfl | hx
    · exact key.2
    · exact h2 x hx
theorem bestV_mem : ∀ (L : List Lt) (own : Lt), bestV own L = own ∨ bestV own L ∈ L := by
  intro L
  induction L with
  | nil => intro own; exact .inl rfl
  | cons y t ih =>
    intro own
    have e : bestV own (y :: t) = bestV (if better y own then y else own) t := rfl
    rw [e]
    cases hb : better y own with
    | true =>
      simp only [if_true]
      rcases ih y with h | h
      · exact .inr (by rw [h]; simp)
      · exact .inr (by simp [h])
    | false =>
      simp only [Bool.false_eq_true, if_false]
      rcases ih own with h | h
      · exact .inl h
      · exact .inr (by simp [h])
/-- the greatest commit number, from 0 on -/
def topC (L : List Lt) : Int := L.foldl (fun m x => max m x.c) 0
theorem topC_push (L : List Lt) (x : Lt) : topC (L ++ [x]) = max (topC L) x.c := by simp [topC]
theorem topC_from : ∀ (L : List Lt) (a : Int), L.foldl (fun m x => max m x.c) (max 0 a) = max 0 (L.foldl (fun m x => max m x.c) a) := by
  intro L
  induction L with
  | nil => intro a; rfl
  | cons y t ih =>
    intro a
    simp only [List.foldl_cons]
    rw [show max (max 0 a) y.c = max 0 (max a y.c) by omega]
    exact ih _
theorem topC_most (own : Lt) (L : List Lt) : topC (own :: L) = max 0 (mostV own L) := by
  unfold topC mostV
  rw [List.foldl_cons, topC_from]
theorem choose_c (own : Lt) (L : List Lt) : (chooseV own L).c = min (topC (own :: L)) ((chooseV own L).log.length : Int) := by
  rw [topC_most]
  unfold chooseV
  simp only
  omega
theorem choose_under (own : Lt) (L : List Lt) : ∀ x ∈ own :: L, Under x (chooseV own L) := by
  intro x hx
  obtain ⟨h1, h2⟩ := bestV_under L own
  have : Under x (bestV own L) := by
    rcases List.mem_cons.1 hx with rfl | hx
    · exact h1
    · exact h2 x hx
  exact this
/-- is x the one that is chosen, but for the commit number? -/
def Is (x z : Lt) : Prop := x.n = z.n ∧ x.h = z.h ∧ x.l = z.l ∧ x.v = z.v ∧ x.log = z.log
theorem choose_is (own : Lt) (L : List Lt) : ∃ x ∈ own :: L, Is x (chooseV own L) := by
  rcases bestV_mem L own with h | h
  · exact ⟨own, by simp, by unfold Is chooseV; simp [h]⟩
  · exact ⟨bestV own L, by simp [h], ⟨rfl, rfl, rfl, rfl, rfl⟩⟩
end Go.Proofs.Ytjjobgolpedgeaa
