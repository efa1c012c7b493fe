/-
  What f have reached, in plain Lean: the program's way and the document's are one.
-/
import Derived.Test.YtjjobgolpedgeaaTKinds
set_option linter.unusedVariables false
set_option linter.unusedSimpArgs false
namespace Go.Proofs.Ytjjobgolpedgeaa
open Go.RowKit

def cntGe (p : Int) (L : List Ak) : Nat := (L.filter fun a => decide (p ≤ a.p)).length
theorem cntGe_push (p : Int) (L : List Ak) (x : Ak) : cntGe p (L ++ [x]) = cntGe p L + if p ≤ x.p then 1 else 0 := by
  unfold cntGe
  rw [List.filter_append, List.length_append]
  by_cases h : p ≤ x.p <;> simp [h]
theorem cntGe_le (p : Int) (L : List Ak) : cntGe p L ≤ L.length := List.length_filter_le _ _
theorem cntGe_anti {p q : Int} (h : p ≤ q) (L : List Ak) : cntGe q L ≤ cntGe p L := by
  induction L with
  | nil => exact Nat.le_refl _
  | cons x L ih =>
    unfold cntGe at ih ⊢
    rw [List.filter_cons, List.filter_cons]
    by_cases h1 : q ≤ x.p
    · have h2 : p ≤ x.p := by omega
      simp [h1, h2]; exact ih
    · by_cases h2 : p ≤ x.p <;> simp [h1, h2] <;> omega
theorem cntGe_pos {p : Int} {L : List Ak} (h : 1 ≤ cntGe p L) : ∃ a ∈ L, p ≤ a.p := by
  unfold cntGe at h
  obtain ⟨a, ha⟩ := List.exists_mem_of_length_pos h
  have := List.mem_filter.1 ha
  exact ⟨a, this.1, of_decide_eq_true this.2⟩
/-- one place tried -/
def tryP (f : Int) (L : List Ak) (b p : Int) : Int := if f ≤ (cntGe p L : Int) then max b p else b
def bestP (f : Int) (L : List Ak) (b : Int) (ps : List Int) : Int := ps.foldl (tryP f L) b
theorem tryP_le (f : Int) (L : List Ak) (b p z : Int) : tryP f L b p ≤ z ↔ b ≤ z ∧ (f ≤ (cntGe p L : Int) → p ≤ z) := by
  unfold tryP
  by_cases h : f ≤ (cntGe p L : Int)
  · rw [if_pos h]; constructor
    · intro h1; exact ⟨by omega, fun _ => by omega⟩
    · intro ⟨h1, h2⟩; have := h2 h; omega
  · rw [if_neg h]; exact ⟨fun h1 => ⟨h1, fun e => absurd e h⟩, fun h1 => h1.1⟩
theorem bestP_le (f : Int) (L : List Ak) (ps : List Int) : ∀ b z : Int, bestP f L b ps ≤ z ↔ b ≤ z ∧ ∀ p ∈ ps, f ≤ (cntGe p L : Int) → p ≤ z := by
  induction ps with
  | nil => intro b z; simp [bestP]
  | cons p ps ih =>
    intro b z
    have : bestP f L b (p :: ps) = bestP f L (tryP f L b p) ps := rfl
    rw [this, ih, tryP_le]
    simp only [List.mem_cons, forall_eq_or_imp]
    exact ⟨fun ⟨⟨a, b⟩, c⟩ => ⟨a, b, c⟩, fun ⟨a, b, c⟩ => ⟨⟨a, b⟩, c⟩⟩
theorem bestP_push (f : Int) (L : List Ak) (b : Int) (ps : List Int) (p : Int) : bestP f L b (ps ++ [p]) = tryP f L (bestP f L b ps) p := by simp [bestP]
def mins (own : Int) (L : List Ak) : List Int := L.map fun a => min a.p own
theorem mins_push (own : Int) (L : List Ak) (x : Ak) : mins own (L ++ [x]) = mins own L ++ [min x.p own] := by simp [mins]
def reachF (f own : Int) (L : List Ak) : Int := if f < 1 then max 0 own else bestP f L 0 (mins own L)
def refReach (f own : Int) (L : List Ak) : Int := bestP f L (tryP f L 0 own) (mins own L)
theorem reach_eq (f own : Int) (L : List Ak) : reachF f own L = refReach f own L := by
  have key : ∀ z, reachF f own L ≤ z ↔ refReach f own L ≤ z := by
    intro z
    unfold reachF refReach
    rw [bestP_le, tryP_le]
    by_cases hf : f < 1
    · rw [if_pos hf]
      constructor
      · intro h
        refine ⟨⟨by omega, fun _ => by omega⟩, fun p hp _ => ?_⟩
        obtain ⟨a, _, rfl⟩ := List.mem_map.1 hp
        omega
      · intro ⟨⟨h1, h2⟩, _⟩
        have := h2 (by omega)
        omega
    · rw [if_neg hf, bestP_le]
      constructor
      · intro ⟨h1, h2⟩
        refine ⟨⟨h1, fun h3 => ?_⟩, h2⟩
        obtain ⟨a, ha, hp⟩ := cntGe_pos (p := own) (L := L) (by omega)
        have e : min a.p own = own := by omega
        have := h2 (min a.p own) (List.mem_map.2 ⟨a, ha, rfl⟩) (by rw [e]; exact h3)
        omega
      · intro ⟨⟨h1, _⟩, h3⟩
        exact ⟨h1, h3⟩
  exact Int.le_antisymm ((key _).2 (Int.le_refl _)) ((key _).1 (Int.le_refl _))
end Go.Proofs.Ytjjobgolpedgeaa
