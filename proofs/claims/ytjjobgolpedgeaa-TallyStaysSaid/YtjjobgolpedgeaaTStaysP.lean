/-
  What a check takes stays so when a vote is put or lives are pruned; plain Lean.
-/
import Derived.Test.YtjjobgolpedgeaaTCheckMark
import Derived.Test.YtjjobgolpedgeaaTRise
set_option linter.unusedVariables false
set_option linter.unusedSimpArgs false
namespace Go.Proofs.Ytjjobgolpedgeaa
open Go.RowKit

theorem chkR_good {α : Type} {node : α → Int} {may : α → Bool} {c : Cg} {self : Int} {L : List α} :
    chkR node may c self L = 0 ↔ ¬ c.bad ∧ Rise node L ∧ ∀ x ∈ L, 0 ≤ node x ∧ node x < 2 * c.f + 1 ∧ node x ≠ self ∧ may x = true := by
  constructor
  · intro h
    unfold chkR at h
    by_cases hb : c.bad
    · rw [if_pos hb] at h; cases h
    rw [if_neg hb] at h
    by_cases ha : (List.range L.length).all (okI node may c.f self L) = true
    case neg => rw [if_neg ha] at h; cases h
    have hok : ∀ i (hi : i < L.length), (prevN node L i < node L[i] ∧ 0 ≤ node L[i] ∧ node L[i] < 2 * c.f + 1 ∧ node L[i] ≠ self) ∧ may L[i] = true := by
      intro i hi
      have := List.all_eq_true.1 ha i (List.mem_range.2 hi)
      unfold okI at this
      rw [List.getElem?_eq_getElem hi] at this
      simp only [Bool.and_eq_true] at this
      exact ⟨(voterF_iff _ _ _ _).1 this.1, this.2⟩
    refine ⟨hb, ?_, ?_⟩
    · unfold Rise
      rw [List.pairwise_iff_getElem]
      intro i j hi hj hij
      induction j with
      | zero => omega
      | succ j ih =>
        have h1 := (hok (j + 1) hj).1.1
        have h2 : prevN node L (j + 1) = node L[j] := by
          unfold prevN
          rw [if_neg (by omega)]
          simp only [Nat.add_sub_cancel]
          rw [List.getElem?_eq_getElem (by omega)]
        rw [h2] at h1
        by_cases e : i = j
        · subst e; exact h1
        · exact Int.lt_trans (ih (by omega) (by omega)) h1
    · intro x hx
      obtain ⟨i, hi, rfl⟩ := List.getElem_of_mem hx
      exact ⟨(hok i hi).1.2.1, (hok i hi).1.2.2.1, (hok i hi).1.2.2.2, (hok i hi).2⟩
  · rintro ⟨hb, hr, ha⟩
    refine chkR_all hb fun i hi => ?_
    unfold okI
    rw [List.getElem?_eq_getElem hi]
    have hx := ha L[i] (List.getElem_mem hi)
    simp only [Bool.and_eq_true]
    refine ⟨(voterF_iff _ _ _ _).2 ⟨?_, hx.1, hx.2.1, hx.2.2.1⟩, hx.2.2.2⟩
    unfold prevN
    by_cases e : i = 0
    · rw [if_pos e]; omega
    · rw [if_neg e, List.getElem?_eq_getElem (by omega)]
      exact List.pairwise_iff_getElem.1 hr (i - 1) i (by omega) hi (by omega)
theorem chkR_put {α : Type} {node : α → Int} {may : α → Bool} {wins : α → α → Bool} {c : Cg} {self : Int} {L : List α} {v : α} (h : chkR node may c self L = 0) (g : chkR node may c self [v] = 0) : chkR node may c self (putF node wins L v) = 0 := by
  obtain ⟨h1, h2, h3⟩ := chkR_good.1 h
  obtain ⟨_, _, g3⟩ := chkR_good.1 g
  refine chkR_good.2 ⟨h1, ?_, fun x hx => ?_⟩
  · rw [putF_ins v h2]; exact ins_rise h2
  · rw [putF_ins v h2] at hx
    rcases ins_mem hx with rfl | hx
    · exact g3 _ (List.mem_singleton.2 rfl)
    · exact h3 x hx
theorem chkR_prune {α : Type} {node : α → Int} {may : α → Bool} {over : α → Bool} {c : Cg} {self : Int} {L : List α} (h : chkR node may c self L = 0) : chkR node may c self (L.filter over) = 0 := by
  obtain ⟨h1, h2, h3⟩ := chkR_good.1 h
  exact chkR_good.2 ⟨h1, List.Pairwise.sublist List.filter_sublist h2, fun x hx => h3 x (List.mem_filter.1 hx).1⟩
end Go.Proofs.Ytjjobgolpedgeaa
