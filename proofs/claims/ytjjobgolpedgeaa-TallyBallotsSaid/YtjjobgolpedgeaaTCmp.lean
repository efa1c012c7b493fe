/-
  The walks of Compare, the program's and the document's.
-/
import Derived.Test.YtjjobgolpedgeaaTKinds
set_option linter.unusedVariables false
set_option linter.unusedSimpArgs false
namespace Go.Proofs.Ytjjobgolpedgeaa
open Go.RowKit

/-- -1, 0 or 1 -/
def dCmp (h1 l1 h2 l2 : Int) : Int := if h1 = h2 then (if l1 = l2 then 0 else if l1 < l2 then -1 else 1) else if h1 < h2 then -1 else 1
set_option maxHeartbeats 400000 in
theorem compare_any (h1 l1 h2 l2 : Int) (w : World) : Calls Try.prog 135 #[.agg #[.int .u64 h1, .int .u64 l1], .agg #[.int .u64 h2, .int .u64 l2]] w fun e w' => e = .returned (.int .i64 (dCmp h1 l1 h2 l2)) ∧ Below w.heap.size w w' := by
  by_cases hh : h1 = h2
  · subst hh
    by_cases hl : l1 = l2
    · subst hl
      have e1 : dCmp h1 l1 h1 l1 = 0 := by unfold dCmp; rw [if_pos rfl, if_pos rfl]
      rw [e1]
      clear e1
      go_enter Try.func135, Try.ntmps135
      go_wp2
      go_ret
      exact ⟨rfl, ((Below.refl _ _).alloc (Nat.le_refl _) _).alloc (by simp) _⟩
    · have hb : (l1 == l2) = false := beq_eq_false_iff_ne.2 hl
      by_cases hlt : l1 < l2
      · have hgt : ¬ l2 < l1 := by omega
        have e1 : dCmp h1 l1 h1 l2 = -1 := by unfold dCmp; rw [if_pos rfl, if_neg hl, if_pos hlt]
        rw [e1]
        clear e1
        go_enter Try.func135, Try.ntmps135
        go_wp2
        go_ret
        exact ⟨rfl, ((Below.refl _ _).alloc (Nat.le_refl _) _).alloc (by simp) _⟩
      · have hgt : l2 < l1 := by omega
        have e1 : dCmp h1 l1 h1 l2 = 1 := by unfold dCmp; rw [if_pos rfl, if_neg hl, if_neg hlt]
        rw [e1]
        clear e1
        go_enter Try.func135, Try.ntmps135
        go_wp2
        go_ret
        exact ⟨rfl, ((Below.refl _ _).alloc (Nat.le_refl _) _).alloc (by simp) _⟩
  · have hb : (h1 == h2) = false := beq_eq_false_iff_ne.2 hh
    by_cases hlt : h1 < h2
    · have e1 : dCmp h1 l1 h2 l2 = -1 := by unfold dCmp; rw [if_neg hh, if_pos hlt]
      rw [e1]
      clear e1
      go_enter Try.func135, Try.ntmps135
      go_wp2
      go_ret
      exact ⟨rfl, ((Below.refl _ _).alloc (Nat.le_refl _) _).alloc (by simp) _⟩
    · have e1 : dCmp h1 l1 h2 l2 = 1 := by unfold dCmp; rw [if_neg hh, if_neg hlt]
      rw [e1]
      clear e1
      go_enter Try.func135, Try.ntmps135
      go_wp2
      go_ret
      exact ⟨rfl, ((Below.refl _ _).alloc (Nat.le_refl _) _).alloc (by simp) _⟩
set_option maxHeartbeats 400000 in
theorem refCompare_any (h1 l1 h2 l2 : Int) (w : World) : Calls Try.prog 136 #[.agg #[.int .u64 h1, .int .u64 l1], .agg #[.int .u64 h2, .int .u64 l2]] w fun e w' => e = .returned (.int .i64 (dCmp h1 l1 h2 l2)) ∧ Below w.heap.size w w' := by
  by_cases hh : h1 = h2
  · subst hh
    by_cases hl : l1 = l2
    · subst hl
      have e1 : dCmp h1 l1 h1 l1 = 0 := by unfold dCmp; rw [if_pos rfl, if_pos rfl]
      rw [e1]
      clear e1
      go_enter Try.func136, Try.ntmps136
      go_wp2
      go_ret
      exact ⟨rfl, ((Below.refl _ _).alloc (Nat.le_refl _) _).alloc (by simp) _⟩
    · have hb : (l1 == l2) = false := beq_eq_false_iff_ne.2 hl
      by_cases hlt : l1 < l2
      · have hgt : ¬ l2 < l1 := by omega
        have e1 : dCmp h1 l1 h1 l2 = -1 := by unfold dCmp; rw [if_pos rfl, if_neg hl, if_pos hlt]
        rw [e1]
        clear e1
        go_enter Try.func136, Try.ntmps136
        go_wp2
        go_ret
        exact ⟨rfl, ((Below.refl _ _).alloc (Nat.le_refl _) _).alloc (by simp) _⟩
      · have hgt : l2 < l1 := by omega
        have e1 : dCmp h1 l1 h1 l2 = 1 := by unfold dCmp; rw [if_pos rfl, if_neg hl, if_neg hlt]
        rw [e1]
        clear e1
        go_enter Try.func136, Try.ntmps136
        go_wp2
        go_ret
        exact ⟨rfl, ((Below.refl _ _).alloc (Nat.le_refl _) _).alloc (by simp) _⟩
  · have hb : (h1 == h2) = false := beq_eq_false_iff_ne.2 hh
    by_cases hlt : h1 < h2
    · have e1 : dCmp h1 l1 h2 l2 = -1 := by unfold dCmp; rw [if_neg hh, if_pos hlt]
      rw [e1]
      clear e1
      go_enter Try.func136, Try.ntmps136
      go_wp2
      go_ret
      exact ⟨rfl, ((Below.refl _ _).alloc (Nat.le_refl _) _).alloc (by simp) _⟩
    · have e1 : dCmp h1 l1 h2 l2 = 1 := by unfold dCmp; rw [if_neg hh, if_neg hlt]
      rw [e1]
      clear e1
      go_enter Try.func136, Try.ntmps136
      go_wp2
      go_ret
      exact ⟨rfl, ((Below.refl _ _).alloc (Nat.le_refl _) _).alloc (by simp) _⟩
end Go.Proofs.Ytjjobgolpedgeaa
