/-
  The walk of the law WireBack, second part: small facts; what is read.
-/
import Derived.Test.YtkdikbenheagmaaDoorBack
import Derived.Deep.RegionWith
set_option linter.unusedVariables false
set_option linter.unusedSimpArgs false
namespace Go.Proofs.YtkdikbenheagmaaDoor
open Go.RowKit

theorem wAll_snoc (l : List PutV) (s : WS) {k : Nat} (hk : k < l.length) : wAll (l.take (k + 1)) s = wLay (wAll (l.take k) s) l[k] := by
  unfold wAll
  rw [List.take_succ_eq_append_getElem hk, List.foldl_append]; rfl
theorem putBulk_append (l r : List PutV) : putBulk (l ++ r) = putBulk l + putBulk r := by unfold putBulk; rw [List.map_append, List.sum_append]
theorem putBulk_cons (x : PutV) (r : List PutV) : putBulk (x :: r) = (x.s.size + 6) + putBulk r := by unfold putBulk; rw [List.map_cons, List.sum_cons]
theorem putBulk_take (l : List PutV) {k : Nat} (hk : k < l.length) : putBulk (l.take k) + (l[k].s.size + 6) ≤ putBulk l := by
  have e : l = l.take k ++ l[k] :: l.drop (k + 1) := by
    have := List.take_append_drop k l
    rw [← List.drop_eq_getElem_cons hk]
    exact this.symm
  have e2 := congrArg putBulk e
  rw [putBulk_append, putBulk_cons] at e2
  omega
theorem wAll_len (l : List PutV) (s : WS) (hok : ∀ x ∈ l, x.Ok) : (wAll l s).1.length ≤ s.1.length + 2 * putBulk l := by
  induction l generalizing s with
  | nil => show s.1.length ≤ _; omega
  | cons x l ih =>
    have h1 := ih (wLay s x) fun y hy => hok y (List.mem_cons_of_mem _ hy)
    have h2 := wLay_len s x (hok x List.mem_cons_self)
    have e : putBulk (x :: l) = (x.s.size + 6) + putBulk l := by unfold putBulk; simp
    show (wAll l (wLay s x)).1.length ≤ _
    omega
/-- reading what was laid -/
theorem read_put (l : List PutV) (k : Nat) (x : PutV) (hx : l[k]? = some x) (ho : x.Ok) (hb : x.bad = false) :
    (x.kind = 0 → rNum (l.map PutV.enc).flatten (off l k, 0) = (x.v.toNat, (off l (k + 1), 0)))
      ∧ (x.kind = 1 → rInt (l.map PutV.enc).flatten (off l k, 0) x.n = (x.n.toNat, (off l (k + 1), 0)) ∧ 0 ≤ x.n)
      ∧ (x.kind = 2 → rInt (l.map PutV.enc).flatten (off l k, 0) x.most = (x.n.toNat, (off l (k + 1), 0)) ∧ 0 ≤ x.n)
      ∧ (x.kind ≠ 0 → x.kind ≠ 1 → x.kind ≠ 2 → rText (l.map PutV.enc).flatten (off l k, 0) x.most = (x.s.data.toList, (off l (k + 1), 0))) := by
  obtain ⟨t, ht, hoff⟩ := off_split l k x hx
  have hle := off_le l k
  have a0 := ho.v0
  have a1 := ho.v1
  have b1 := ho.n1
  have s1 := ho.s1
  unfold PutV.bad at hb
  simp only [Bool.or_eq_false_iff, Bool.and_eq_false_iff, beq_eq_false_iff_ne, bne_eq_false_iff_eq, decide_eq_false_iff_not, ne_eq] at hb
  obtain ⟨⟨h1, h2⟩, h3⟩ := hb
  refine ⟨fun h => ?_, fun h => ?_, fun h => ?_, fun g0 g1 g2 => ?_⟩
  · have e : x.enc = Wire.form x.v.toNat := by unfold PutV.enc; rw [if_pos h]
    rw [e] at ht hoff
    rw [hoff]; exact read_num (by omega) ht
  · have e : x.enc = Wire.form x.n.toNat := by unfold PutV.enc; rw [if_neg (by omega), if_pos h]
    have hn : ¬ x.n < 0 := by rcases h1 with h1 | h1; exact absurd h h1; exact h1
    rw [e] at ht hoff
    rw [hoff]; exact ⟨read_int (by omega) ht (by omega), by omega⟩
  · have e : x.enc = Wire.form x.n.toNat := by unfold PutV.enc; rw [if_neg (by omega), if_neg (by omega), if_pos h]
    have hn : ¬ x.n < 0 ∧ ¬ x.most < x.n := by rcases h2 with h2 | h2; exact absurd h h2; exact h2
    rw [e] at ht hoff
    rw [hoff]; exact ⟨read_int (by omega) ht (by omega), by omega⟩
  · have e : x.enc = Wire.form x.s.size ++ x.s.data.toList := by unfold PutV.enc; rw [if_neg g0, if_neg g1, if_neg g2]
    have hn : ¬ x.most < (x.s.size : Int) := by
      rcases h3 with ((h3 | h3) | h3) | h3
      · exact absurd h3 g0
      · exact absurd h3 g1
      · exact absurd h3 g2
      · exact h3
    have hd := data_len x.s
    rw [e, ← hd] at ht hoff
    rw [hoff]; exact read_text (by omega) (by rw [ht, hd]) (by omega) hle
end Go.Proofs.YtkdikbenheagmaaDoor
