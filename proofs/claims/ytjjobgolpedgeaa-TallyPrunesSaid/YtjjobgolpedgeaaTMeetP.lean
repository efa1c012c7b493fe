/-
  Two majorities meet, in plain Lean; what settles among answers that name their own view.
-/
import Derived.Test.YtjjobgolpedgeaaTLog
set_option linter.unusedVariables false
set_option linter.unusedSimpArgs false
namespace Go.Proofs.Ytjjobgolpedgeaa
open Go.RowKit

theorem pigeon : ∀ (m : Nat) (L : List Int), L.Nodup → (∀ x ∈ L, 0 ≤ x ∧ x < (m : Int)) → L.length ≤ m := by
  intro m
  induction m with
  | zero =>
    intro L _ h
    cases L with
    | nil => simp
    | cons x t => have := h x (by simp); omega
  | succ m ih =>
    intro L hd h
    by_cases hm : (m : Int) ∈ L
    · have h1 := ih (L.erase (m : Int)) (hd.erase _) (fun x hx => by
        have h2 := (List.Nodup.mem_erase_iff hd).1 hx
        have h3 := h x h2.2
        have := h2.1
        omega)
      rw [List.length_erase_of_mem hm] at h1
      omega
    · have h1 := ih L hd (fun x hx => by
        have h3 := h x hx
        have : x ≠ (m : Int) := fun e => hm (e ▸ hx)
        omega)
      omega
theorem rise_nodup {α : Type} {node : α → Int} {L : List α} (h : Rise node L) : (L.map node).Nodup := by
  refine List.pairwise_map.2 (List.Pairwise.imp ?_ h)
  intro a b hab
  exact Int.ne_of_lt hab
theorem meet {f self : Int} {M : List Mk} {V : List Lt} (h0 : 0 ≤ self) (h1 : self ≤ 2 * f) (hM : Rise Mk.n M) (hV : Rise Lt.n V) (bM : ∀ x ∈ M, 0 ≤ x.n ∧ x.n ≤ 2 * f ∧ x.n ≠ self) (bV : ∀ x ∈ V, 0 ≤ x.n ∧ x.n ≤ 2 * f) (lm : f ≤ (M.length : Int)) (lv : f < (V.length : Int))
    (n1 : ∀ x ∈ V, x.n ≠ self) (n2 : ∀ x ∈ V, ∀ y ∈ M, y.n ≠ x.n) : False := by
  have hd : (self :: (M.map Mk.n ++ V.map Lt.n)).Nodup := by
    refine List.nodup_cons.2 ⟨?_, List.nodup_append.2 ⟨rise_nodup hM, rise_nodup hV, ?_⟩⟩
    · intro h
      rcases List.mem_append.1 h with h | h
      · obtain ⟨x, hx, e⟩ := List.mem_map.1 h
        exact (bM x hx).2.2 e
      · obtain ⟨x, hx, e⟩ := List.mem_map.1 h
        exact n1 x hx e
    · intro a ha b hb e
      obtain ⟨y, hy, e1⟩ := List.mem_map.1 ha
      obtain ⟨x, hx, e2⟩ := List.mem_map.1 hb
      exact n2 x hx y hy (by rw [e1, e2, e])
  have hb : ∀ x ∈ self :: (M.map Mk.n ++ V.map Lt.n), 0 ≤ x ∧ x < (((2 * f + 1).toNat : Nat) : Int) := by
    intro x hx
    rcases List.mem_cons.1 hx with rfl | hx
    · omega
    · rcases List.mem_append.1 hx with h | h
      · obtain ⟨y, hy, e⟩ := List.mem_map.1 h
        have := bM y hy; omega
      · obtain ⟨y, hy, e⟩ := List.mem_map.1 h
        have := bV y hy; omega
  have := pigeon _ _ hd hb
  simp only [List.length_cons, List.length_append, List.length_map] at this
  omega
theorem mxL_ge (a : Int) (L : List Lt) : a ≤ mxL a L ∧ ∀ x ∈ L, x.v ≤ mxL a L := by
  induction L generalizing a with
  | nil => exact ⟨Int.le_refl _, fun x h => by simp at h⟩
  | cons y t ih =>
    have h := ih (max a y.v)
    have e : mxL a (y :: t) = mxL (max a y.v) t := rfl
    rw [e]
    refine ⟨by omega, fun x hx => ?_⟩
    rcases List.mem_cons.1 hx with rfl | hx
    · omega
    · exact h.2 x hx
theorem mxL_in (a : Int) (L : List Lt) : mxL a L = a ∨ ∃ x ∈ L, mxL a L = x.v := by
  induction L generalizing a with
  | nil => exact .inl rfl
  | cons y t ih =>
    have e : mxL a (y :: t) = mxL (max a y.v) t := rfl
    rw [e]
    rcases ih (max a y.v) with h | ⟨x, hx, h⟩
    · by_cases h2 : a ≤ y.v
      · exact .inr ⟨y, by simp, by rw [h]; omega⟩
      · exact .inl (by rw [h]; omega)
    · exact .inr ⟨x, by simp [hx], h⟩
theorem mxL_head {L : List Lt} (h : L ≠ []) : ∃ x ∈ L, mxL (L.headD default).v L = x.v := by
  cases L with
  | nil => exact absurd rfl h
  | cons y t =>
    rcases mxL_in y.v (y :: t) with h | h
    · exact ⟨y, by simp, h⟩
    · exact h
theorem prim_in {f v : Int} (hf : 1 ≤ f) (h0 : 0 ≤ v) (h1 : v ≤ 2 * f) : prim f v = v := by
  unfold prim
  rw [Int.tmod_eq_emod_of_nonneg h0, Int.emod_eq_of_lt h0 (by omega), Int.emod_eq_of_lt h0 (by omega)]
theorem settle_own {f : Int} {V : List Lt} (hf : 1 ≤ f) (hf3 : f ≤ 3) (hV : ∀ x ∈ V, x.v = x.n ∧ 0 ≤ x.n ∧ x.n ≤ 2 * f) :
    (f < (V.length : Int) → ∃ x, settleV f V = some x) ∧ (¬ f < (V.length : Int) → settleV f V = none) := by
  unfold settleV
  refine ⟨fun h => ?_, fun h => by rw [if_pos (by omega)]⟩
  rw [if_neg (by omega)]
  obtain ⟨x, hx, e⟩ := mxL_head (L := V) (fun e => by subst e; simp at h; omega)
  have hb := hV x hx
  cases hfd : V.find? (okV f (mxL (V.headD default).v V)) with
  | some y => exact ⟨y, rfl⟩
  | none =>
    have := List.find?_eq_none.1 hfd x hx
    rw [e] at this
    unfold okV at this
    rw [hb.1, prim_in hf hb.2.1 hb.2.2] at this
    simp [hb.1] at this
theorem okL_zero : True := trivial
end Go.Proofs.Ytjjobgolpedgeaa
