/-
  What f have reached: the greatest place that f votes stand at or behind; it does not fall as votes are put. Plain Lean.
-/
import Derived.Test.YtjjobgolpedgeaaTReachP
import Derived.Test.YtjjobgolpedgeaaTOnceP
set_option linter.unusedVariables false
set_option linter.unusedSimpArgs false
namespace Go.Proofs.Ytjjobgolpedgeaa
open Go.RowKit

theorem min_exists (L : List Ak) (t : Int) : ∀ (d : Nat) (a : Ak), a ∈ L → t ≤ a.p → (a.p - t).toNat ≤ d → ∃ b ∈ L, t ≤ b.p ∧ ∀ c ∈ L, t ≤ c.p → b.p ≤ c.p := by
  intro d
  induction d with
  | zero =>
    intro a ha h1 h2
    exact ⟨a, ha, h1, fun c _ hc => by omega⟩
  | succ d ih =>
    intro a ha h1 h2
    by_cases h : ∃ c ∈ L, t ≤ c.p ∧ c.p < a.p
    · obtain ⟨c, hc, h3, h4⟩ := h
      exact ih c hc h3 (by omega)
    · exact ⟨a, ha, h1, fun c hc h3 => by
        by_cases h4 : c.p < a.p
        · exact absurd ⟨c, hc, h3, h4⟩ h
        · omega⟩
theorem cntGe_min {L : List Ak} {t : Int} (h : 1 ≤ cntGe t L) : ∃ a ∈ L, t ≤ a.p ∧ cntGe a.p L = cntGe t L := by
  obtain ⟨a, ha, h1⟩ := cntGe_pos h
  obtain ⟨b, hb, h2, h3⟩ := min_exists L t _ a ha h1 (Nat.le_refl _)
  refine ⟨b, hb, h2, ?_⟩
  unfold cntGe
  congr 1
  refine List.filter_congr fun c hc => ?_
  by_cases hc2 : t ≤ c.p
  · have := h3 c hc hc2; simp [this, hc2]
  · have : ¬ b.p ≤ c.p := by omega
    simp [this, hc2]
theorem bestP_is (f : Int) (L : List Ak) (ps : List Int) : ∀ b, bestP f L b ps = b ∨ (bestP f L b ps ∈ ps ∧ f ≤ (cntGe (bestP f L b ps) L : Int)) := by
  induction ps with
  | nil => intro b; exact .inl rfl
  | cons p ps ih =>
    intro b
    have e : bestP f L b (p :: ps) = bestP f L (tryP f L b p) ps := rfl
    rw [e]
    rcases ih (tryP f L b p) with h | ⟨h1, h2⟩
    · rw [h]
      unfold tryP
      by_cases hc : f ≤ (cntGe p L : Int)
      · rw [if_pos hc]
        by_cases hb : p ≤ b
        · left; omega
        · right
          have : max b p = p := by omega
          rw [this]; exact ⟨List.mem_cons_self, hc⟩
      · rw [if_neg hc]; exact .inl rfl
    · exact .inr ⟨List.mem_cons_of_mem _ h1, h2⟩
/-- the greatest place that f have reached -/
theorem reach_iff {f own : Int} {L : List Ak} (hf : 1 ≤ f) (ho : 0 ≤ own) (z : Int) : z ≤ reachF f own L ↔ z ≤ 0 ∨ (z ≤ own ∧ f ≤ (cntGe z L : Int)) := by
  have hr : reachF f own L = bestP f L 0 (mins own L) := if_neg (by omega)
  have h0 : ∀ y, reachF f own L ≤ y ↔ (0 : Int) ≤ y ∧ ∀ p ∈ mins own L, f ≤ (cntGe p L : Int) → p ≤ y := fun y => by rw [hr]; exact bestP_le f L _ 0 y
  constructor
  · intro hz
    rcases bestP_is f L (mins own L) 0 with h | ⟨h1, h2⟩
    · left; rw [hr, h] at hz; exact hz
    · right
      rw [← hr] at h1 h2
      obtain ⟨a, _, ha⟩ := List.mem_map.1 h1
      have := cntGe_anti hz L
      exact ⟨by omega, by omega⟩
  · rintro (hz | ⟨h1, h2⟩)
    · have := ((h0 _).1 (Int.le_refl _)).1; omega
    · obtain ⟨a, ha, h3, h4⟩ := cntGe_min (t := z) (L := L) (by omega)
      have h5 := ((h0 _).1 (Int.le_refl _)).2 (min a.p own) (List.mem_map.2 ⟨a, ha, rfl⟩) (by have := cntGe_anti (show min a.p own ≤ a.p by omega) L; omega)
      omega
theorem reach_ge {f own : Int} {L : List Ak} (hf : 1 ≤ f) (ho : 0 ≤ own) : 0 ≤ reachF f own L := (reach_iff hf ho 0).2 (.inl (Int.le_refl _))
theorem reach_le {f own : Int} {L : List Ak} (hf : 1 ≤ f) (ho : 0 ≤ own) : reachF f own L ≤ own := by
  rcases (reach_iff (L := L) hf ho _).1 (Int.le_refl _) with h | h
  · omega
  · exact h.1
theorem reach_there {f own : Int} {L : List Ak} (hf : 1 ≤ f) (ho : 0 ≤ own) (h : 0 < reachF f own L) : f ≤ (cntGe (reachF f own L) L : Int) := by
  rcases (reach_iff (L := L) hf ho _).1 (Int.le_refl _) with h1 | h1
  · omega
  · exact h1.2
theorem reach_further {f own : Int} {L : List Ak} (hf : 1 ≤ f) (ho : 0 ≤ own) (h : reachF f own L < own) : (cntGe (reachF f own L + 1) L : Int) < f := by
  by_cases h1 : f ≤ (cntGe (reachF f own L + 1) L : Int)
  · have := (reach_iff (L := L) hf ho (reachF f own L + 1)).2 (.inr ⟨by omega, h1⟩); omega
  · omega
theorem reach_more {f own : Int} {L : List Ak} (hf : 1 ≤ f) (ho : 0 ≤ own) : reachF (f + 1) own L ≤ reachF f own L := by
  rcases (reach_iff (f := f + 1) (L := L) (by omega) ho _).1 (Int.le_refl _) with h | h
  · have := reach_ge (L := L) hf ho; omega
  · exact (reach_iff hf ho _).2 (.inr ⟨h.1, by omega⟩)
theorem reach_own {f own : Int} {L : List Ak} (hf : 1 ≤ f) (ho : 0 ≤ own) : reachF f own L ≤ reachF f (own + 1) L := by
  rcases (reach_iff (L := L) hf ho _).1 (Int.le_refl _) with h | h
  · have := reach_ge (L := L) hf (show 0 ≤ own + 1 by omega); omega
  · exact (reach_iff hf (by omega) _).2 (.inr ⟨by omega, h.2⟩)
theorem cntGe_cons (z : Int) (x : Ak) (L : List Ak) : cntGe z (x :: L) = cntGe z L + if z ≤ x.p then 1 else 0 := by
  unfold cntGe
  by_cases h : z ≤ x.p <;> simp [List.filter_cons, h]
theorem cntGe_ins {L : List Ak} {v : Ak} (h : ∀ x ∈ L, x.n = v.n → x.h = v.h ∧ x.l = v.l) (z : Int) : cntGe z L ≤ cntGe z (ins Ak.n Ak.wins v L) := by
  induction L with
  | nil => exact Nat.zero_le _
  | cons x t ih =>
    unfold ins
    split
    · rw [cntGe_cons z v]; omega
    · split
      · rename_i he
        obtain ⟨h1, h2⟩ := h x List.mem_cons_self he
        rw [cntGe_cons, cntGe_cons]
        by_cases hw : v.wins x = true
        · rw [if_pos hw]
          have := (Ak.wins_iff _ _).1 hw
          unfold Ak.lt at this
          split <;> split <;> omega
        · rw [if_neg hw]; omega
      · rw [cntGe_cons, cntGe_cons]
        have := ih (fun y hy => h y (List.mem_cons_of_mem _ hy))
        omega
theorem reach_put {f own : Int} {L : List Ak} {v : Ak} (hf : 1 ≤ f) (ho : 0 ≤ own) (hr : Rise Ak.n L) (h : ∀ x ∈ L, x.n = v.n → x.h = v.h ∧ x.l = v.l) : reachF f own L ≤ reachF f own (putF Ak.n Ak.wins L v) := by
  rw [putF_ins v hr]
  rcases (reach_iff (L := L) hf ho _).1 (Int.le_refl _) with h1 | h1
  · have := reach_ge (L := ins Ak.n Ak.wins v L) hf ho; omega
  · exact (reach_iff hf ho _).2 (.inr ⟨h1.1, by have := cntGe_ins h (reachF f own L); omega⟩)
end Go.Proofs.Ytjjobgolpedgeaa
