/-
  Lists that rise by their voters, and what Put makes of them; plain Lean.
-/
import Derived.Test.YtjjobgolpedgeaaTPutF
set_option linter.unusedVariables false
set_option linter.unusedSimpArgs false
namespace Go.Proofs.Ytjjobgolpedgeaa
open Go.RowKit

section
variable {α : Type} (node : α → Int) (wins : α → α → Bool)
/-- each voter once, rising -/
def Rise (L : List α) : Prop := L.Pairwise fun x y => node x < node y
/-- Put, by going through a rising list -/
def ins (v : α) : List α → List α
  | [] => [v]
  | x :: t => if node v < node x then v :: x :: t else if node x = node v then (if wins v x then v else x) :: t else x :: ins v t
variable {node wins}
theorem outK_cons (x : α) (t : List α) (v : α) (at_ : Nat) (same : Bool) (k : Nat) : outK wins (x :: t) v (at_ + 1) same (k + 1) = x :: outK wins t v at_ same k := by
  unfold outK
  rw [List.range_succ_eq_map, List.flatMap_cons, List.flatMap_map]
  simp only [List.getElem?_cons_zero, List.getElem?_cons_succ]
  have h0 : ((0 : Nat) == at_ + 1) = false := by simp
  rw [h0]
  simp only [pce, Bool.false_eq_true, if_false, List.singleton_append, List.cons.injEq, true_and, Nat.succ_eq_add_one]
  congr 1
  funext i
  have e : (i + 1 == at_ + 1) = (i == at_) := by
    by_cases h : i = at_
    · subst h; simp
    · have h1 : ¬ i + 1 = at_ + 1 := by omega
      rw [beq_eq_false_iff_ne.2 h, beq_eq_false_iff_ne.2 h1]
  rw [e]
theorem outK_zero_at (x : α) (t : List α) (v : α) (same : Bool) (k : Nat) : outK wins (x :: t) v 0 same (k + 1) = pce wins v same true x ++ (t.take k) := by
  unfold outK
  rw [List.range_succ_eq_map, List.flatMap_cons, List.flatMap_map]
  simp only [List.getElem?_cons_zero, List.getElem?_cons_succ, beq_self_eq_true]
  congr 1
  have : ∀ i, ((i + 1 : Nat) == 0) = false := fun i => by simp
  simp only [this, pce, Bool.false_eq_true, if_false, Nat.succ_eq_add_one]
  induction k generalizing t with
  | zero => simp
  | succ k ih =>
    rw [List.range_succ, List.flatMap_append, ih]
    cases h : t[k]? with
    | none =>
      have : t.length ≤ k := List.getElem?_eq_none_iff.1 h
      rw [List.take_of_length_le this, List.take_of_length_le (by omega)]; simp [h]
    | some y => rw [take_next h]; simp [h]
theorem plcOf_cons (x : α) (t : List α) (v : α) (h1 : node x ≠ node v) (h2 : ¬ node v < node x) : plcOf node (x :: t) v = ((plcOf node t v).1 + 1, (plcOf node t v).2) := by
  unfold plcOf
  rw [List.findIdx?_cons, List.findIdx?_cons]
  have e1 : (node x == node v) = false := beq_eq_false_iff_ne.2 h1
  have e2 : decide (node v < node x) = false := decide_eq_false h2
  rw [e1, e2]
  cases h3 : t.findIdx? (fun x => node x == node v) with
  | some i => simp
  | none =>
    cases h4 : t.findIdx? (fun x => decide (node v < node x)) with
    | some i => simp
    | none => simp
theorem putF_ins {L : List α} (v : α) (h : Rise node L) : putF node wins L v = ins node wins v L := by
  induction L with
  | nil => rfl
  | cons x t ih =>
    have ht : Rise node t := (List.pairwise_cons.1 h).2
    have hx := (List.pairwise_cons.1 h).1
    unfold ins
    by_cases h1 : node v < node x
    · rw [if_pos h1]
      have e : plcOf node (x :: t) v = (0, false) := by
        refine Plc.eq (.inr ⟨rfl, fun j y hj hy => ?_, Nat.zero_le _, fun y hy => ?_, fun j y hj => by omega⟩)
        · cases j with
          | zero => simp at hy; subst hy; omega
          | succ j => have := hx y (List.mem_of_getElem? (by simpa using hy)); omega
        · simp at hy; subst hy; exact h1
      simp [putF, putL, e, outK_zero_at, pce]
    · rw [if_neg h1]
      by_cases h2 : node x = node v
      · rw [if_pos h2]
        have e : plcOf node (x :: t) v = (0, true) := Plc.eq (.inl ⟨rfl, ⟨x, rfl, h2⟩, fun j y hj => by omega⟩)
        simp [putF, putL, e, outK_zero_at, pce]
      · rw [if_neg h2, ← ih ht]
        unfold putF putL
        rw [plcOf_cons x t v h2 h1]
        simp only [List.length_cons, outK_cons, List.cons_append, Nat.add_right_cancel_iff]
theorem ins_mem {v y : α} {L : List α} (h : y ∈ ins node wins v L) : y = v ∨ y ∈ L := by
  induction L with
  | nil => simp [ins] at h; exact .inl h
  | cons x t ih =>
    unfold ins at h
    split at h
    · simpa using h
    · split at h
      · rcases List.mem_cons.1 h with h | h
        · split at h
          · exact .inl h
          · exact .inr (by rw [h]; exact List.mem_cons_self)
        · exact .inr (List.mem_cons_of_mem _ h)
      · rcases List.mem_cons.1 h with h | h
        · exact .inr (by rw [h]; exact List.mem_cons_self)
        · rcases ih h with h | h
          · exact .inl h
          · exact .inr (List.mem_cons_of_mem _ h)
theorem ins_rise {v : α} {L : List α} (h : Rise node L) : Rise node (ins node wins v L) := by
  induction L with
  | nil => exact List.pairwise_singleton _ _
  | cons x t ih =>
    obtain ⟨hx, ht⟩ := List.pairwise_cons.1 h
    unfold ins
    by_cases h1 : node v < node x
    · rw [if_pos h1]
      refine List.pairwise_cons.2 ⟨fun y hy => ?_, h⟩
      rcases List.mem_cons.1 hy with rfl | hy
      · exact h1
      · exact Int.lt_trans h1 (hx y hy)
    · rw [if_neg h1]
      by_cases h2 : node x = node v
      · rw [if_pos h2]
        refine List.pairwise_cons.2 ⟨fun y hy => ?_, ht⟩
        have := hx y hy
        split <;> omega
      · rw [if_neg h2]
        refine List.pairwise_cons.2 ⟨fun y hy => ?_, ih ht⟩
        rcases ins_mem hy with rfl | hy
        · omega
        · exact hx y hy
/-- the vote of a voter -/
def voteOf (node : α → Int) (L : List α) (k : Int) : Option α := L.find? fun x => node x == k
theorem voteOf_ins {v : α} {L : List α} (h : Rise node L) (k : Int) : voteOf node (ins node wins v L) k = if k = node v then some (match voteOf node L k with | some x => if wins v x then v else x | none => v) else voteOf node L k := by
  induction L with
  | nil =>
    by_cases hk : k = node v
    · subst hk; simp [ins, voteOf]
    · have : (node v == k) = false := beq_eq_false_iff_ne.2 (Ne.symm hk)
      simp [ins, voteOf, this, hk]
  | cons x t ih =>
    obtain ⟨hx, ht⟩ := List.pairwise_cons.1 h
    unfold ins
    by_cases h1 : node v < node x
    · rw [if_pos h1]
      by_cases hk : k = node v
      · subst hk
        have hn : voteOf node (x :: t) (node v) = none := by
          unfold voteOf
          rw [List.find?_eq_none]
          intro y hy
          rcases List.mem_cons.1 hy with rfl | hy
          · simp; omega
          · have := hx y hy; simp; omega
        rw [if_pos rfl, hn]
        simp [voteOf]
      · have : (node v == k) = false := beq_eq_false_iff_ne.2 (Ne.symm hk)
        rw [if_neg hk]
        simp [voteOf, List.find?_cons, this]
    · rw [if_neg h1]
      by_cases h2 : node x = node v
      · rw [if_pos h2]
        by_cases hk : k = node v
        · subst hk
          have e1 : voteOf node (x :: t) (node v) = some x := by simp [voteOf, List.find?_cons, h2]
          rw [if_pos rfl, e1]
          by_cases hw : wins v x
          · simp [voteOf, hw]
          · simp [voteOf, hw, h2]
        · rw [if_neg hk]
          have e1 : (node x == k) = false := beq_eq_false_iff_ne.2 (by omega)
          have e2 : (node (if wins v x then v else x) == k) = false := beq_eq_false_iff_ne.2 (by split <;> omega)
          simp [voteOf, List.find?_cons, e1, e2]
      · rw [if_neg h2]
        have e0 : ∀ M : List α, voteOf node (x :: M) k = if node x = k then some x else voteOf node M k := fun M => by
          unfold voteOf
          by_cases e : node x = k
          · simp [e]
          · have : (node x == k) = false := beq_eq_false_iff_ne.2 e
            simp [this, e]
        rw [e0, e0, ih ht]
        by_cases hxk : node x = k
        · have hk : ¬ k = node v := by omega
          rw [if_pos hxk, if_neg hk, if_pos hxk]
        · rw [if_neg hxk, if_neg hxk]
theorem voteOf_mem {L : List α} {k : Int} {x : α} (h : voteOf node L k = some x) : x ∈ L ∧ node x = k :=
  ⟨List.mem_of_find?_eq_some h, by simpa using List.find?_some h⟩
theorem voteOf_of {L : List α} (hr : Rise node L) {x : α} (h : x ∈ L) : voteOf node L (node x) = some x := by
  induction L with
  | nil => simp at h
  | cons y t ih =>
    obtain ⟨hy, ht⟩ := List.pairwise_cons.1 hr
    unfold voteOf
    rw [List.find?_cons]
    rcases List.mem_cons.1 h with rfl | h
    · simp
    · have : (node y == node x) = false := beq_eq_false_iff_ne.2 (by have := hy x h; omega)
      rw [this]
      exact ih ht h
theorem rise_ext {L M : List α} (hL : Rise node L) (hM : Rise node M) (h : ∀ k, voteOf node L k = voteOf node M k) : L = M := by
  induction L generalizing M with
  | nil =>
    cases M with
    | nil => rfl
    | cons y M => have := h (node y); rw [voteOf_of hM List.mem_cons_self] at this; simp [voteOf] at this
  | cons x t ih =>
    have hx := voteOf_of hL (List.mem_cons_self (a := x) (l := t))
    rw [h] at hx
    obtain ⟨hxM, _⟩ := voteOf_mem hx
    cases M with
    | nil => simp at hxM
    | cons y M =>
      have hy := voteOf_of hM (List.mem_cons_self (a := y) (l := M))
      rw [← h] at hy
      obtain ⟨hyL, _⟩ := voteOf_mem hy
      obtain ⟨px, pt⟩ := List.pairwise_cons.1 hL
      obtain ⟨py, pM⟩ := List.pairwise_cons.1 hM
      have hxy : node x = node y := by
        rcases List.mem_cons.1 hxM with rfl | h1
        · rfl
        · rcases List.mem_cons.1 hyL with rfl | h2
          · rfl
          · have := py x h1; have := px y h2; omega
      have e : x = y := by
        rw [hxy, voteOf_of hM List.mem_cons_self] at hx
        cases hx; rfl
      subst e
      congr 1
      refine ih pt pM fun k => ?_
      have := h k
      unfold voteOf at this ⊢
      rw [List.find?_cons, List.find?_cons] at this
      by_cases hk : node x = k
      · have n1 : t.find? (fun z => node z == k) = none := by rw [List.find?_eq_none]; intro z hz; have := px z hz; simp; omega
        have n2 : M.find? (fun z => node z == k) = none := by rw [List.find?_eq_none]; intro z hz; have := py z hz; simp; omega
        rw [n1, n2]
      · have e : (node x == k) = false := beq_eq_false_iff_ne.2 hk
        simpa [e] using this
end
end Go.Proofs.Ytjjobgolpedgeaa
