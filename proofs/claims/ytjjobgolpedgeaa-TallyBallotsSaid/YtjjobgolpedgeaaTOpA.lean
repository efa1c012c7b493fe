/-
  The walks of ledger.Check and the document's Check of an operation (printed by gen_topa.py).
-/
import Derived.Test.YtjjobgolpedgeaaTBase
import Derived.Test.YtjjobgolpedgeaaTVotes
set_option linter.unusedVariables false
set_option linter.unusedSimpArgs false
namespace Go.Proofs.Ytjjobgolpedgeaa
open Go.RowKit

/-- what a check of an operation answers: its kind, its slot, its value's length -/
def opF (k s : Int) (m : Nat) : Int :=
  if k = 1 ∨ k = 3 then (if s < 0 ∨ 1024 ≤ s then 41 else if (if k = 1 then 64 else 0) < (m : Int) then 42 else 0)
  else if k = 2 ∨ k = 4 then (if s ≠ 0 then 41 else if (if k = 2 then 64 else 0) < (m : Int) then 42 else 0)
  else 40
set_option maxHeartbeats 8000000 in
set_option maxRecDepth 100000 in
theorem opCheck_any (k s : Int) (v : ByteArray) (w : World) : Calls Try.prog 154 #[.agg #[.int .i64 k, .int .i64 s, .string v]] w fun e w' => e = .returned (.int .i64 (opF k s v.size)) ∧ Below w.heap.size w w' := by
  have hv0 : (0 : Int) ≤ (v.size : Int) := by omega
  by_cases k1 : k = 1
  case pos =>
    by_cases s0 : s < 0
    case pos =>
      have he : opF k s v.size = 41 := by unfold opF; (repeat' split) <;> omega
      rw [he]
      clear he
      subst k1
      go_enter Try.func154, Try.ntmps154
      go_wp2
      go_ret
      exact ⟨rfl, by go_grown⟩
    by_cases s1 : 1024 ≤ s
    case pos =>
      have he : opF k s v.size = 41 := by unfold opF; (repeat' split) <;> omega
      rw [he]
      clear he
      subst k1
      go_enter Try.func154, Try.ntmps154
      go_wp2
      go_ret
      exact ⟨rfl, by go_grown⟩
    by_cases m0 : (64 : Int) < (v.size : Int)
    case pos =>
      have he : opF k s v.size = 42 := by unfold opF; (repeat' split) <;> omega
      rw [he]
      clear he
      subst k1
      go_enter Try.func154, Try.ntmps154
      go_wp2
      go_ret
      exact ⟨rfl, by go_grown⟩
    have he : opF k s v.size = 0 := by unfold opF; (repeat' split) <;> omega
    rw [he]
    clear he
    subst k1
    go_enter Try.func154, Try.ntmps154
    go_wp2
    go_ret
    exact ⟨rfl, by go_grown⟩
  by_cases k2 : k = 2
  case pos =>
    by_cases s0 : s = 0
    case neg =>
      have b0 : (s == 0) = false := beq_eq_false_iff_ne.2 s0
      have he : opF k s v.size = 41 := by unfold opF; (repeat' split) <;> omega
      rw [he]
      clear he
      subst k2
      go_enter Try.func154, Try.ntmps154
      go_wp2
      go_ret
      exact ⟨rfl, by go_grown⟩
    by_cases m0 : (64 : Int) < (v.size : Int)
    case pos =>
      have he : opF k s v.size = 42 := by unfold opF; (repeat' split) <;> omega
      rw [he]
      clear he
      subst k2
      go_enter Try.func154, Try.ntmps154
      go_wp2
      go_ret
      exact ⟨rfl, by go_grown⟩
    have he : opF k s v.size = 0 := by unfold opF; (repeat' split) <;> omega
    rw [he]
    clear he
    subst k2
    go_enter Try.func154, Try.ntmps154
    go_wp2
    go_ret
    exact ⟨rfl, by go_grown⟩
  by_cases k3 : k = 3
  case pos =>
    by_cases s0 : s < 0
    case pos =>
      have he : opF k s v.size = 41 := by unfold opF; (repeat' split) <;> omega
      rw [he]
      clear he
      subst k3
      go_enter Try.func154, Try.ntmps154
      go_wp2
      go_ret
      exact ⟨rfl, by go_grown⟩
    by_cases s1 : 1024 ≤ s
    case pos =>
      have he : opF k s v.size = 41 := by unfold opF; (repeat' split) <;> omega
      rw [he]
      clear he
      subst k3
      go_enter Try.func154, Try.ntmps154
      go_wp2
      go_ret
      exact ⟨rfl, by go_grown⟩
    by_cases m0 : (0 : Int) < (v.size : Int)
    case pos =>
      have he : opF k s v.size = 42 := by unfold opF; (repeat' split) <;> omega
      rw [he]
      clear he
      subst k3
      go_enter Try.func154, Try.ntmps154
      go_wp2
      go_ret
      exact ⟨rfl, by go_grown⟩
    have he : opF k s v.size = 0 := by unfold opF; (repeat' split) <;> omega
    rw [he]
    clear he
    subst k3
    go_enter Try.func154, Try.ntmps154
    go_wp2
    go_ret
    exact ⟨rfl, by go_grown⟩
  by_cases k4 : k = 4
  case pos =>
    by_cases s0 : s = 0
    case neg =>
      have b0 : (s == 0) = false := beq_eq_false_iff_ne.2 s0
      have he : opF k s v.size = 41 := by unfold opF; (repeat' split) <;> omega
      rw [he]
      clear he
      subst k4
      go_enter Try.func154, Try.ntmps154
      go_wp2
      go_ret
      exact ⟨rfl, by go_grown⟩
    by_cases m0 : (0 : Int) < (v.size : Int)
    case pos =>
      have he : opF k s v.size = 42 := by unfold opF; (repeat' split) <;> omega
      rw [he]
      clear he
      subst k4
      go_enter Try.func154, Try.ntmps154
      go_wp2
      go_ret
      exact ⟨rfl, by go_grown⟩
    have he : opF k s v.size = 0 := by unfold opF; (repeat' split) <;> omega
    rw [he]
    clear he
    subst k4
    go_enter Try.func154, Try.ntmps154
    go_wp2
    go_ret
    exact ⟨rfl, by go_grown⟩
  have c1 : (k == 1) = false := beq_eq_false_iff_ne.2 k1
  have c2 : (k == 2) = false := beq_eq_false_iff_ne.2 k2
  have c3 : (k == 3) = false := beq_eq_false_iff_ne.2 k3
  have c4 : (k == 4) = false := beq_eq_false_iff_ne.2 k4
  have he : opF k s v.size = 40 := by unfold opF; (repeat' split) <;> omega
  rw [he]
  clear he
  go_enter Try.func154, Try.ntmps154
  go_wp2
  go_ret
  exact ⟨rfl, by go_grown⟩
end Go.Proofs.Ytjjobgolpedgeaa
