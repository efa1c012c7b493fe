/-
  What is left of votes put one by one: of each voter the greatest; whatever the order. Plain Lean.
-/
import Derived.Test.YtjjobgolpedgeaaTRise
set_option linter.unusedVariables false
set_option linter.unusedSimpArgs false
namespace Go.Proofs.Ytjjobgolpedgeaa
open Go.RowKit

/-- the order of acknowledgements of one voter -/
def Ak.lt (x v : Ak) : Prop := x.h < v.h ∨ (x.h = v.h ∧ (x.l < v.l ∨ (x.l = v.l ∧ x.p < v.p)))
instance (x v : Ak) : Decidable (x.lt v) := by unfold Ak.lt; infer_instance
theorem dCmp_pos (a b c d : Nat) : 0 < dCmp a b c d ↔ c < a ∨ (a = c ∧ d < b) := by
  unfold dCmp
  by_cases h1 : (a : Int) = c
  · rw [if_pos h1]
    by_cases h2 : (b : Int) = d
    · rw [if_pos h2]; omega
    · rw [if_neg h2]
      by_cases h3 : (b : Int) < d
      · rw [if_pos h3]; omega
      · rw [if_neg h3]; omega
  · rw [if_neg h1]
    by_cases h2 : (a : Int) < c
    · rw [if_pos h2]; omega
    · rw [if_neg h2]; omega
theorem dCmp_zero (a b c d : Nat) : dCmp a b c d = 0 ↔ a = c ∧ b = d := by
  unfold dCmp
  by_cases h1 : (a : Int) = c
  · rw [if_pos h1]
    by_cases h2 : (b : Int) = d
    · rw [if_pos h2]; omega
    · rw [if_neg h2]
      by_cases h3 : (b : Int) < d
      · rw [if_pos h3]; omega
      · rw [if_neg h3]; omega
  · rw [if_neg h1]
    by_cases h2 : (a : Int) < c
    · rw [if_pos h2]; omega
    · rw [if_neg h2]; omega
theorem Ak.wins_iff (v x : Ak) : v.wins x = true ↔ x.lt v := by
  unfold Ak.wins Ak.lt Ak.above
  rw [Bool.or_eq_true, Bool.and_eq_true, decide_eq_true_iff, decide_eq_true_iff, decide_eq_true_iff, dCmp_pos, dCmp_zero]
  omega
theorem Ak.lt_tri {x y : Ak} (hn : x.n = y.n) (h1 : ¬ x.lt y) (h2 : ¬ y.lt x) : x = y := by
  unfold Ak.lt at h1 h2
  obtain ⟨xn, xh, xl, xp⟩ := x
  obtain ⟨yn, yh, yl, yp⟩ := y
  simp only at *
  have e1 : xh = yh := by omega
  have e2 : xl = yl := by omega
  have e3 : xp = yp := by omega
  simp [hn, e1, e2, e3]
theorem Ak.lt_trans' {x y z : Ak} (h1 : x.lt y) (h2 : ¬ z.lt y) : x.lt z := by
  unfold Ak.lt at *
  omega
theorem Ak.lt_irrefl (x : Ak) : ¬ x.lt x := by unfold Ak.lt; omega
/-- l has of each voter of vs the greatest vote, rising -/
structure Best (l vs : List Ak) : Prop where
  rise : Rise Ak.n l
  mem : ∀ b ∈ l, b ∈ vs
  top : ∀ b ∈ l, ∀ v ∈ vs, v.n = b.n → ¬ b.lt v
  all : ∀ v ∈ vs, ∃ b ∈ l, b.n = v.n
theorem Best.nil : Best [] [] := ⟨List.Pairwise.nil, fun b h => by simp at h, fun b h => by simp at h, fun v h => by simp at h⟩
theorem Best.one {l m vs ws : List Ak} (h : Best l vs) (g : Best m ws) (e : ∀ v, v ∈ vs ↔ v ∈ ws) : l = m := by
  refine rise_ext h.rise g.rise fun k => ?_
  cases h1 : voteOf Ak.n l k with
  | none =>
    cases h2 : voteOf Ak.n m k with
    | none => rfl
    | some y =>
      obtain ⟨hy, hk⟩ := voteOf_mem h2
      obtain ⟨b, hb, hbn⟩ := h.all y ((e y).2 (g.mem y hy))
      have := voteOf_of h.rise hb
      rw [hbn, hk, h1] at this
      cases this
  | some x =>
    obtain ⟨hx, hk⟩ := voteOf_mem h1
    obtain ⟨y, hy, hyn⟩ := g.all x ((e x).1 (h.mem x hx))
    have h2 := voteOf_of g.rise hy
    rw [hyn, hk] at h2
    rw [h2]
    congr 1
    exact Ak.lt_tri hyn.symm (h.top x hx y ((e y).2 (g.mem y hy)) hyn) (g.top y hy x ((e x).1 (h.mem x hx)) hyn.symm)
theorem Best.push {l vs : List Ak} (h : Best l vs) (v : Ak) : Best (ins Ak.n Ak.wins v l) (vs ++ [v]) := by
  have hr := ins_rise (wins := Ak.wins) (v := v) h.rise
  have hv : ∀ b, b ∈ ins Ak.n Ak.wins v l → voteOf Ak.n (ins Ak.n Ak.wins v l) b.n = some b := fun b hb => voteOf_of hr hb
  refine ⟨hr, fun b hb => ?_, fun b hb u hu hn hlt => ?_, fun u hu => ?_⟩
  · rcases ins_mem hb with rfl | hb
    · simp
    · exact List.mem_append_left _ (h.mem b hb)
  · have h1 := hv b hb
    rw [voteOf_ins h.rise] at h1
    by_cases hbn : b.n = v.n
    · rw [if_pos hbn] at h1
      cases ho : voteOf Ak.n l b.n with
      | none =>
        rw [ho] at h1
        simp at h1
        subst h1
        rcases List.mem_append.1 hu with hu | hu
        · obtain ⟨c, hc, hcn⟩ := h.all u hu
          have := voteOf_of h.rise hc
          rw [hcn, hn, ho] at this
          cases this
        · simp at hu; subst hu; exact Ak.lt_irrefl _ hlt
      | some x =>
        obtain ⟨hx, hxn⟩ := voteOf_mem ho
        rw [ho] at h1
        simp at h1
        by_cases hw : v.wins x = true
        · rw [if_pos hw] at h1
          subst h1
          have hxv := (Ak.wins_iff _ _).1 hw
          rcases List.mem_append.1 hu with hu | hu
          · exact h.top x hx u hu (by omega) (by unfold Ak.lt at *; omega)
          · simp at hu; subst hu; exact Ak.lt_irrefl _ hlt
        · rw [if_neg hw] at h1
          subst h1
          rcases List.mem_append.1 hu with hu | hu
          · exact h.top x hx u hu hn hlt
          · simp at hu; subst hu; exact hw ((Ak.wins_iff _ _).2 hlt)
    · rw [if_neg hbn] at h1
      obtain ⟨hbl, _⟩ := voteOf_mem h1
      rcases List.mem_append.1 hu with hu | hu
      · exact h.top b hbl u hu hn hlt
      · simp at hu; subst hu; exact hbn hn.symm
  · have key : ∃ b, voteOf Ak.n (ins Ak.n Ak.wins v l) u.n = some b := by
      rw [voteOf_ins h.rise]
      by_cases hun : u.n = v.n
      · rw [if_pos hun]; exact ⟨_, rfl⟩
      · rw [if_neg hun]
        rcases List.mem_append.1 hu with hu | hu
        · obtain ⟨c, hc, hcn⟩ := h.all u hu
          exact ⟨c, by rw [← hcn]; exact voteOf_of h.rise hc⟩
        · simp at hu; subst hu; exact absurd rfl hun
    obtain ⟨b, hb⟩ := key
    obtain ⟨h1, h2⟩ := voteOf_mem hb
    exact ⟨b, h1, h2⟩
/-- the votes put one by one -/
def putAll (vs : List Ak) : List Ak := vs.foldl (fun l v => putF Ak.n Ak.wins l v) []
theorem putAll_push (vs : List Ak) (v : Ak) : putAll (vs ++ [v]) = putF Ak.n Ak.wins (putAll vs) v := by simp [putAll]
theorem best_putAll (vs : List Ak) : Best (putAll vs) vs := by
  have : ∀ k, Best (putAll (vs.take k)) (vs.take k) := by
    intro k
    induction k with
    | zero => simpa [putAll] using Best.nil
    | succ k ih =>
      cases h : vs[k]? with
      | none =>
        have hl : vs.length ≤ k := List.getElem?_eq_none_iff.1 h
        rw [List.take_of_length_le hl] at ih
        rw [List.take_of_length_le (by omega)]
        exact ih
      | some v =>
        rw [take_next h, putAll_push, putF_ins v ih.rise]
        exact ih.push v
  simpa using this vs.length
theorem putAll_len (vs : List Ak) : (putAll vs).length ≤ vs.length := by
  have : ∀ k, (putAll (vs.take k)).length ≤ k := by
    intro k
    induction k with
    | zero => simp [putAll]
    | succ k ih =>
      cases h : vs[k]? with
      | none =>
        have hl : vs.length ≤ k := List.getElem?_eq_none_iff.1 h
        rw [List.take_of_length_le hl] at ih
        rw [List.take_of_length_le (by omega)]
        omega
      | some v =>
        rw [take_next h, putAll_push]
        have := putF_len Ak.n Ak.wins (putAll (vs.take k)) v
        omega
  simpa using this vs.length
/-- the votes once more change nothing -/
def putMore (l : List Ak) (vs : List Ak) : List Ak := vs.foldl (fun l v => putF Ak.n Ak.wins l v) l
theorem putMore_push (l vs : List Ak) (v : Ak) : putMore l (vs ++ [v]) = putF Ak.n Ak.wins (putMore l vs) v := by simp [putMore]
theorem putMore_all (us vs : List Ak) : putMore (putAll us) vs = putAll (us ++ vs) := by simp [putMore, putAll]
theorem putMore_same {us vs : List Ak} (h : ∀ v, v ∈ us ↔ v ∈ vs) : putAll vs = putMore (putAll us) vs := by
  rw [putMore_all]
  exact (best_putAll vs).one (best_putAll (us ++ vs)) fun v => by rw [List.mem_append]; exact ⟨.inr, fun e => e.elim (h v).1 id⟩
end Go.Proofs.Ytjjobgolpedgeaa
