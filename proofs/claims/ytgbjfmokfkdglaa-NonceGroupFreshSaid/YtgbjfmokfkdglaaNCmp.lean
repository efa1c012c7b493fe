/-
  The walks of Compare and Next, the program's and the document's.
-/
import Derived.Test.YtgbjfmokfkdglaaNMix
set_option linter.unusedVariables false
set_option linter.unusedSimpArgs false
namespace Go.Proofs.Ytgbjfmokfkdglaa
open Go.RowKit

/-- -1, 0 or 1 -/
def dCmp (h1 l1 h2 l2 : Int) : Int := if h1 = h2 then (if l1 = l2 then 0 else if l1 < l2 then -1 else 1) else if h1 < h2 then -1 else 1
/-- the least draw above, and the error -/
def nNext (h l : Int) : Int × Int × Int := if l < 18446744073709551615 then (h, l + 1, 0) else if h < 18446744073709551615 then (h + 1, 0, 0) else (0, 0, 20)
set_option maxHeartbeats 400000 in
theorem compare_any (h1 l1 h2 l2 : Int) (w : World) : Calls Try.prog 23 #[.agg #[.int .u64 h1, .int .u64 l1], .agg #[.int .u64 h2, .int .u64 l2]] w fun e w' => e = .returned (.int .i64 (dCmp h1 l1 h2 l2)) ∧ Below w.heap.size w w' := by
  by_cases hh : h1 = h2
  · subst hh
    by_cases hl : l1 = l2
    · subst hl
      have e1 : dCmp h1 l1 h1 l1 = 0 := by unfold dCmp; rw [if_pos rfl, if_pos rfl]
      rw [e1]
      clear e1
      go_enter Try.func23, Try.ntmps23
      go_wp2
      go_ret
      exact ⟨rfl, ((Below.refl _ _).alloc (Nat.le_refl _) _).alloc (by simp) _⟩
    · have hb : (l1 == l2) = false := beq_eq_false_iff_ne.2 hl
      by_cases hlt : l1 < l2
      · have hgt : ¬ l2 < l1 := by omega
        have e1 : dCmp h1 l1 h1 l2 = -1 := by unfold dCmp; rw [if_pos rfl, if_neg hl, if_pos hlt]
        rw [e1]
        clear e1
        go_enter Try.func23, Try.ntmps23
        go_wp2
        go_ret
        exact ⟨rfl, ((Below.refl _ _).alloc (Nat.le_refl _) _).alloc (by simp) _⟩
      · have hgt : l2 < l1 := by omega
        have e1 : dCmp h1 l1 h1 l2 = 1 := by unfold dCmp; rw [if_pos rfl, if_neg hl, if_neg hlt]
        rw [e1]
        clear e1
        go_enter Try.func23, Try.ntmps23
        go_wp2
        go_ret
        exact ⟨rfl, ((Below.refl _ _).alloc (Nat.le_refl _) _).alloc (by simp) _⟩
  · have hb : (h1 == h2) = false := beq_eq_false_iff_ne.2 hh
    by_cases hlt : h1 < h2
    · have e1 : dCmp h1 l1 h2 l2 = -1 := by unfold dCmp; rw [if_neg hh, if_pos hlt]
      rw [e1]
      clear e1
      go_enter Try.func23, Try.ntmps23
      go_wp2
      go_ret
      exact ⟨rfl, ((Below.refl _ _).alloc (Nat.le_refl _) _).alloc (by simp) _⟩
    · have e1 : dCmp h1 l1 h2 l2 = 1 := by unfold dCmp; rw [if_neg hh, if_neg hlt]
      rw [e1]
      clear e1
      go_enter Try.func23, Try.ntmps23
      go_wp2
      go_ret
      exact ⟨rfl, ((Below.refl _ _).alloc (Nat.le_refl _) _).alloc (by simp) _⟩
set_option maxHeartbeats 400000 in
theorem refCompare_any (h1 l1 h2 l2 : Int) (w : World) : Calls Try.prog 28 #[.agg #[.int .u64 h1, .int .u64 l1], .agg #[.int .u64 h2, .int .u64 l2]] w fun e w' => e = .returned (.int .i64 (dCmp h1 l1 h2 l2)) ∧ Below w.heap.size w w' := by
  by_cases hh : h1 = h2
  · subst hh
    by_cases hl : l1 = l2
    · subst hl
      have e1 : dCmp h1 l1 h1 l1 = 0 := by unfold dCmp; rw [if_pos rfl, if_pos rfl]
      rw [e1]
      clear e1
      go_enter Try.func28, Try.ntmps28
      go_wp2
      go_ret
      exact ⟨rfl, ((Below.refl _ _).alloc (Nat.le_refl _) _).alloc (by simp) _⟩
    · have hb : (l1 == l2) = false := beq_eq_false_iff_ne.2 hl
      by_cases hlt : l1 < l2
      · have hgt : ¬ l2 < l1 := by omega
        have e1 : dCmp h1 l1 h1 l2 = -1 := by unfold dCmp; rw [if_pos rfl, if_neg hl, if_pos hlt]
        rw [e1]
        clear e1
        go_enter Try.func28, Try.ntmps28
        go_wp2
        go_ret
        exact ⟨rfl, ((Below.refl _ _).alloc (Nat.le_refl _) _).alloc (by simp) _⟩
      · have hgt : l2 < l1 := by omega
        have e1 : dCmp h1 l1 h1 l2 = 1 := by unfold dCmp; rw [if_pos rfl, if_neg hl, if_neg hlt]
        rw [e1]
        clear e1
        go_enter Try.func28, Try.ntmps28
        go_wp2
        go_ret
        exact ⟨rfl, ((Below.refl _ _).alloc (Nat.le_refl _) _).alloc (by simp) _⟩
  · have hb : (h1 == h2) = false := beq_eq_false_iff_ne.2 hh
    by_cases hlt : h1 < h2
    · have e1 : dCmp h1 l1 h2 l2 = -1 := by unfold dCmp; rw [if_neg hh, if_pos hlt]
      rw [e1]
      clear e1
      go_enter Try.func28, Try.ntmps28
      go_wp2
      go_ret
      exact ⟨rfl, ((Below.refl _ _).alloc (Nat.le_refl _) _).alloc (by simp) _⟩
    · have e1 : dCmp h1 l1 h2 l2 = 1 := by unfold dCmp; rw [if_neg hh, if_neg hlt]
      rw [e1]
      clear e1
      go_enter Try.func28, Try.ntmps28
      go_wp2
      go_ret
      exact ⟨rfl, ((Below.refl _ _).alloc (Nat.le_refl _) _).alloc (by simp) _⟩
set_option maxHeartbeats 400000 in
theorem next_any (h l : Int) (w : World) (h0 : 0 ≤ h) (l0 : 0 ≤ l) (hb : h < 18446744073709551616) (lb : l < 18446744073709551616) : Calls Try.prog 26 #[.agg #[.int .u64 h, .int .u64 l]] w fun e w' => e = .returned (.tuple #[.agg #[.int .u64 (nNext h l).1, .int .u64 (nNext h l).2.1], .int .i64 (nNext h l).2.2]) ∧ Below w.heap.size w w' := by
  by_cases hl : l < 18446744073709551615
  · have e1 : nNext h l = (h, l + 1, 0) := by unfold nNext; rw [if_pos hl]
    rw [e1]
    have hw : IntKind.u64.wrap (l + 1) = l + 1 := by rw [IntKind.wrap_u64]; omega
    clear e1
    go_enter Try.func26, Try.ntmps26
    go_wp2
    go_returns
    exact ⟨rfl, by go_grown⟩
  · by_cases hh : h < 18446744073709551615
    · have e1 : nNext h l = (h + 1, 0, 0) := by unfold nNext; rw [if_neg hl, if_pos hh]
      rw [e1]
      have hw : IntKind.u64.wrap (h + 1) = h + 1 := by rw [IntKind.wrap_u64]; omega
      clear e1
      go_enter Try.func26, Try.ntmps26
      go_wp2
      go_returns
      exact ⟨rfl, by go_grown⟩
    · have e1 : nNext h l = (0, 0, 20) := by unfold nNext; rw [if_neg hl, if_neg hh]
      rw [e1]
      clear e1
      go_enter Try.func26, Try.ntmps26
      go_wp2
      go_returns
      exact ⟨rfl, by go_grown⟩
set_option maxHeartbeats 400000 in
theorem refNext_any (h l : Int) (w : World) (h0 : 0 ≤ h) (l0 : 0 ≤ l) (hb : h < 18446744073709551616) (lb : l < 18446744073709551616) : Calls Try.prog 27 #[.agg #[.int .u64 h, .int .u64 l]] w fun e w' => e = .returned (.tuple #[.agg #[.int .u64 (nNext h l).1, .int .u64 (nNext h l).2.1], .int .i64 (nNext h l).2.2]) ∧ Below w.heap.size w w' := by
  by_cases hl : l < 18446744073709551615
  · have e1 : nNext h l = (h, l + 1, 0) := by unfold nNext; rw [if_pos hl]
    rw [e1]
    have hw : IntKind.u64.wrap (l + 1) = l + 1 := by rw [IntKind.wrap_u64]; omega
    clear e1
    go_enter Try.func27, Try.ntmps27
    go_wp2
    go_returns
    exact ⟨rfl, by go_grown⟩
  · by_cases hh : h < 18446744073709551615
    · have e1 : nNext h l = (h + 1, 0, 0) := by unfold nNext; rw [if_neg hl, if_pos hh]
      rw [e1]
      have hw : IntKind.u64.wrap (h + 1) = h + 1 := by rw [IntKind.wrap_u64]; omega
      clear e1
      go_enter Try.func27, Try.ntmps27
      go_wp2
      go_returns
      exact ⟨rfl, by go_grown⟩
    · have e1 : nNext h l = (0, 0, 20) := by unfold nNext; rw [if_neg hl, if_neg hh]
      rw [e1]
      clear e1
      go_enter Try.func27, Try.ntmps27
      go_wp2
      go_returns
      exact ⟨rfl, by go_grown⟩
end Go.Proofs.Ytgbjfmokfkdglaa
