/-
  What Prune leaves, twice, by two vectors, and put back; plain Lean.
-/
import Derived.Test.YtjjobgolpedgeaaTSmall
import Derived.Test.YtjjobgolpedgeaaTPruneP
import Derived.Test.YtjjobgolpedgeaaTMeetP
set_option linter.unusedVariables false
set_option linter.unusedSimpArgs false
namespace Go.Proofs.Ytjjobgolpedgeaa
open Go.RowKit

theorem dCmp_neg (a b c d : Nat) : dCmp a b c d < 0 ↔ a < c ∨ a = c ∧ b < d := by
  have h1 := dCmp_pos a b c d
  have h2 := dCmp_zero a b c d
  constructor
  · intro h
    have n1 : ¬ 0 < dCmp a b c d := by omega
    have n2 : ¬ dCmp a b c d = 0 := by omega
    rw [h1] at n1
    rw [h2] at n2
    omega
  · intro h
    have n1 : ¬ 0 < dCmp a b c d := by rw [h1]; omega
    have n2 : ¬ dCmp a b c d = 0 := by rw [h2]; omega
    omega
theorem blw_dCmp (a b c d : Nat) : blw a b c d = decide (dCmp a b c d < 0) := by
  rw [Bool.eq_iff_iff, decide_eq_true_iff, dCmp_neg]
  unfold blw
  rw [Bool.or_eq_true, Bool.and_eq_true, decide_eq_true_iff, decide_eq_true_iff, decide_eq_true_iff]
  omega
theorem dz (h l : Nat) : decide (dCmp (h : Nat) (l : Nat) ((0 : Nat) : Int) ((0 : Nat) : Int) < 0) = false := decide_eq_false (by rw [dCmp_neg h l 0 0]; omega)
theorem over_zero (m : Nat) (n : Int) (h l : Nat) : overV (List.replicate m (⟨0, 0⟩ : Dw)) n h l = false := by
  unfold overV
  cases hd : (List.replicate m (⟨0, 0⟩ : Dw))[n.toNat]? with
  | none => simp
  | some d =>
    have : d = ⟨0, 0⟩ := List.eq_of_mem_replicate (List.mem_of_getElem? hd)
    subst this
    have := dz h l
    simp only
    rw [this, Bool.and_false]
section
variable {α : Type} {over : α → Bool}
theorem prune_none {L : List α} (h : ∀ x ∈ L, over x = false) : pruneF over L = L := List.filter_eq_self.2 fun x hx => by simp [h x hx]
theorem prune_twice (over : α → Bool) (L : List α) : pruneF over (pruneF over L) = pruneF over L := prune_none fun x hx => by
  have := (List.mem_filter.1 hx).2
  simpa using this
theorem prune_at {L : List α} {i : Nat} {x : α} (hx : L[i]? = some x) (ho : over x = false) : (pruneF over L)[(pruneF over (L.take i)).length]? = some x := by
  obtain ⟨hi, e⟩ := List.getElem?_eq_some_iff.1 hx
  have hL : L = L.take i ++ x :: L.drop (i + 1) := by rw [← e, ← List.drop_eq_getElem_cons hi, List.take_append_drop]
  have h1 : pruneF over L = pruneF over (L.take i) ++ x :: pruneF over (L.drop (i + 1)) := by
    conv => lhs; rw [hL]
    unfold pruneF
    rw [List.filter_append, List.filter_cons, ho]
    simp
  rw [h1, List.getElem?_append_right (Nat.le_refl _)]
  simp
theorem prune_both {o2 o3 : α → Bool} {L : List α} (h : ∀ x, o3 x = (over x || o2 x)) : pruneF o2 (pruneF over L) = pruneF o3 L := by
  unfold pruneF
  rw [List.filter_filter]
  congr 1
  funext x
  rw [h]
  cases over x <;> cases o2 x <;> rfl
end
/-- of two draws the greater -/
def maxD (d e : Dw) : Dw := if dCmp d.h d.l e.h e.l < 0 then e else d
def pickD (V W : List Dw) (i : Nat) : Dw := match W[i]? with | some e => maxD ((V[i]?).getD ⟨0, 0⟩) e | none => (V[i]?).getD ⟨0, 0⟩
def bothV (V W : List Dw) (k : Nat) : List Dw := (List.range k).map (pickD V W)
theorem bothV_succ (V W : List Dw) (k : Nat) : bothV V W (k + 1) = bothV V W k ++ [pickD V W k] := by unfold bothV; rw [List.range_succ, List.map_append]; rfl
theorem bothV_len (V W : List Dw) (k : Nat) : (bothV V W k).length = k := by simp [bothV]
theorem maxD_over (h l : Nat) (d e : Dw) : decide (dCmp h l (maxD d e).h (maxD d e).l < 0) = (decide (dCmp h l d.h d.l < 0) || decide (dCmp h l e.h e.l < 0)) := by
  rw [Bool.eq_iff_iff, Bool.or_eq_true, decide_eq_true_iff, decide_eq_true_iff, decide_eq_true_iff]
  unfold maxD
  by_cases hd : dCmp d.h d.l e.h e.l < 0
  · rw [if_pos hd]
    rw [dCmp_neg] at hd
    rw [dCmp_neg, dCmp_neg]
    omega
  · rw [if_neg hd]
    rw [dCmp_neg] at hd
    rw [dCmp_neg, dCmp_neg]
    omega
theorem over_both {V W : List Dw} {k : Nat} (hk : V.length ≤ k) (hw : W.length ≤ k) (n : Int) (h l : Nat) : overV (bothV V W k) n h l = (overV V n h l || overV W n h l) := by
  by_cases hn : n < 0
  · rw [overV_neg hn, overV_neg hn, overV_neg hn]; rfl
  · by_cases hi : n.toNat < k
    · have hb : (bothV V W k)[n.toNat]? = some (pickD V W n.toNat) := by
        unfold bothV
        rw [List.getElem?_map, List.getElem?_range hi]
        rfl
      rw [overV_at hn hb]
      have z := dz h l
      unfold pickD
      cases hv : V[n.toNat]? with
      | none =>
        have e1 : overV V n h l = false := by unfold overV; rw [hv]; simp
        cases hw : W[n.toNat]? with
        | none =>
          have e2 : overV W n h l = false := by unfold overV; rw [hw]; simp
          rw [e1, e2]
          exact z
        | some e =>
          rw [e1, overV_at hn hw, Bool.false_or]
          have := maxD_over h l ⟨0, 0⟩ e
          rw [z, Bool.false_or] at this
          exact this
      | some d =>
        rw [overV_at hn hv]
        cases hw : W[n.toNat]? with
        | none =>
          have e2 : overV W n h l = false := by unfold overV; rw [hw]; simp
          rw [e2, Bool.or_false]
          rfl
        | some e =>
          rw [overV_at hn hw]
          simp only [Option.getD_some]
          exact maxD_over h l d e
    · have e0 : overV (bothV V W k) n h l = false := overV_far (bothV_len V W k) (by omega)
      have e1 : overV V n h l = false := overV_far rfl (by omega)
      have e2 : overV W n h l = false := overV_far rfl (by omega)
      rw [e0, e1, e2]; rfl
theorem best_self {L : List Ak} (h : Rise Ak.n L) : Best L L :=
  ⟨h, fun b hb => hb, fun b hb v hv hn hlt => by
    have h1 := voteOf_of h hb
    have h2 := voteOf_of h hv
    rw [hn, h1] at h2
    cases h2
    exact Ak.lt_irrefl _ hlt, fun v hv => ⟨v, hv, rfl⟩⟩
theorem best_more : ∀ (ws m vs : List Ak), Best m vs → Best (putMore m ws) (vs ++ ws) := by
  intro ws
  induction ws with
  | nil => intro m vs h; simpa [putMore] using h
  | cons w t ih =>
    intro m vs h
    have h1 : Best (putF Ak.n Ak.wins m w) (vs ++ [w]) := by rw [putF_ins _ h.rise]; exact h.push w
    have h2 := ih _ _ h1
    rw [List.append_assoc] at h2
    exact h2
theorem back_best {L : List Ak} (h : Rise Ak.n L) (over : Ak → Bool) (ws : List Ak) : Best (putMore (pruneF over L) ws) (pruneF over L ++ ws) := best_more ws _ _ (best_self (h.sublist List.filter_sublist))
theorem back_all {L : List Ak} (h : Rise Ak.n L) (over : Ak → Bool) : putMore (pruneF over L) L = L :=
  (back_best h over L).one (best_self h) fun v => by
    rw [List.mem_append]
    exact ⟨fun e => e.elim (fun e => (List.mem_filter.1 e).1) id, .inr⟩
theorem nodup_le {α : Type} [DecidableEq α] : ∀ (l m : List α), l.Nodup → (∀ x ∈ l, x ∈ m) → l.length ≤ m.length := by
  intro l
  induction l with
  | nil => intro m _ _; simp
  | cons x t ih =>
    intro m hd h
    obtain ⟨hx, ht⟩ := List.nodup_cons.1 hd
    have hm := h x (by simp)
    have := ih (m.erase x) ht fun y hy => (List.mem_erase_of_ne (fun e => by subst e; exact hx hy)).2 (h y (by simp [hy]))
    rw [List.length_erase_of_mem hm] at this
    have := List.length_pos_of_mem hm
    simp only [List.length_cons]
    omega
theorem back_len {L : List Ak} (h : Rise Ak.n L) (over : Ak → Bool) (k : Nat) : (putMore (pruneF over L) (L.take k)).length ≤ L.length := by
  have hb := back_best h over (L.take k)
  have h1 := nodup_le ((putMore (pruneF over L) (L.take k)).map Ak.n) (L.map Ak.n) (rise_nodup hb.rise) (fun x hx => by
    obtain ⟨y, hy, rfl⟩ := List.mem_map.1 hx
    refine List.mem_map.2 ⟨y, ?_, rfl⟩
    rcases List.mem_append.1 (hb.mem y hy) with e | e
    · exact (List.mem_filter.1 e).1
    · exact List.mem_of_mem_take e)
  simpa using h1
end Go.Proofs.Ytjjobgolpedgeaa
