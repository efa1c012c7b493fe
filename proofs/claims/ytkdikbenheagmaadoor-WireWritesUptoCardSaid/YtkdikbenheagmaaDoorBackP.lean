/-
  What is laid down is read as the same: the plain law, without memory.
-/
import Derived.Test.YtkdikbenheagmaaDoorLay
import Derived.Test.YtkdikbenheagmaaDoorReader4
set_option linter.unusedVariables false
set_option linter.unusedSimpArgs false
namespace Go.Proofs.YtkdikbenheagmaaDoor
open Go.RowKit

def wAll (l : List PutV) (s : WS) : WS := l.foldl wLay s
/-- may it not be laid down? -/
def PutV.bad (x : PutV) : Bool := (x.kind == 1 && decide (x.n < 0)) || (x.kind == 2 && (decide (x.n < 0) || decide (x.most < x.n))) || (x.kind != 0 && x.kind != 1 && x.kind != 2 && decide (x.most < (x.s.size : Int)))
/-- its bytes -/
def PutV.enc (x : PutV) : List UInt8 :=
  if x.kind = 0 then Wire.form x.v.toNat else if x.kind = 1 then Wire.form x.n.toNat else if x.kind = 2 then Wire.form x.n.toNat else Wire.form x.s.size ++ x.s.data.toList
theorem data_len (s : ByteArray) : s.data.toList.length = s.size := by rw [Array.length_toList]; rfl
theorem wLay_err (s : WS) (x : PutV) (h : s.2 ≠ 0) : wLay s x = s := by
  have hc : ∀ n m, wCount s n m = s := fun n m => by unfold wCount; rw [if_neg h]
  unfold wLay wNum wInt wText
  rw [hc, hc, if_neg h, if_neg h]
  simp
  exact fun _ _ _ e => absurd e h
theorem wLay_ok (s : WS) (x : PutV) (h : s.2 = 0) (hb : x.bad = false) : wLay s x = (s.1 ++ x.enc, 0) := by
  unfold PutV.bad at hb
  simp only [Bool.or_eq_false_iff, Bool.and_eq_false_iff, beq_eq_false_iff_ne, bne_eq_false_iff_eq, decide_eq_false_iff_not, ne_eq] at hb
  obtain ⟨⟨h1, h2⟩, h3⟩ := hb
  unfold wLay PutV.enc
  by_cases k0 : x.kind = 0
  · rw [if_pos k0, if_pos k0]; unfold wNum; rw [if_pos h]
  · rw [if_neg k0, if_neg k0]
    by_cases k1 : x.kind = 1
    · rw [if_pos k1, if_pos k1]; unfold wInt; rw [if_pos h, if_neg (by rcases h1 with h1 | h1; exact absurd k1 h1; exact h1)]
    · rw [if_neg k1, if_neg k1]
      by_cases k2 : x.kind = 2
      · have hq : ¬ x.n < 0 ∧ ¬ x.most < x.n := by rcases h2 with h2 | h2; exact absurd k2 h2; exact h2
        rw [if_pos k2, if_pos k2]; unfold wCount; rw [if_pos h, if_neg (by omega), if_neg hq.2]
      · have hq : ¬ x.most < (x.s.size : Int) := by
          rcases h3 with ((h3 | h3) | h3) | h3
          · exact absurd h3 k0
          · exact absurd h3 k1
          · exact absurd h3 k2
          · exact h3
        rw [if_neg k2, if_neg k2]
        have hc : wCount s (x.s.data.toList.length : Int) x.most = (s.1 ++ Wire.form x.s.size, 0) := by
          rw [data_len]
          unfold wCount
          rw [if_pos h, if_neg (by omega), if_neg hq, Int.toNat_natCast]
        unfold wText
        rw [hc, if_pos rfl, List.append_assoc]
theorem wLay_bad (s : WS) (x : PutV) (h : s.2 = 0) (hb : x.bad = true) : (wLay s x).2 ≠ 0 := by
  unfold PutV.bad at hb
  simp only [Bool.or_eq_true, Bool.and_eq_true, beq_iff_eq, bne_iff_ne, decide_eq_true_eq, ne_eq] at hb
  unfold wLay
  rcases hb with (⟨k1, hn⟩ | ⟨k2, hn⟩) | ⟨⟨⟨k0, k1⟩, k2⟩, hn⟩
  · rw [if_neg (by omega), if_pos k1]; unfold wInt; rw [if_pos h, if_pos hn]; simp
  · rw [if_neg (by omega), if_neg (by omega), if_pos k2]; unfold wCount; rw [if_pos h]
    by_cases hq : x.n < 0 ∨ x.most < 0
    · rw [if_pos hq]; simp
    · rw [if_neg hq, if_pos (by omega)]; simp
  · rw [if_neg k0, if_neg k1, if_neg k2]
    have hc : (wCount s (x.s.data.toList.length : Int) x.most).2 ≠ 0 := by
      rw [data_len]
      unfold wCount
      rw [if_pos h]
      by_cases hq : (x.s.size : Int) < 0 ∨ x.most < 0
      · rw [if_pos hq]; simp
      · rw [if_neg hq, if_pos hn]; simp
    unfold wText
    rw [if_neg hc]; exact hc
theorem wAll_err (l : List PutV) (s : WS) (h : s.2 ≠ 0) : wAll l s = s := by
  induction l with
  | nil => rfl
  | cons x l ih => show wAll l (wLay s x) = s; rw [wLay_err s x h]; exact ih
/-- no error just if nothing is bad; then the bytes are the things' bytes -/
theorem wAll_cases (l : List PutV) (s : WS) (h : s.2 = 0) : (l.any PutV.bad = true ∧ (wAll l s).2 ≠ 0) ∨ (l.any PutV.bad = false ∧ wAll l s = (s.1 ++ (l.map PutV.enc).flatten, 0)) := by
  induction l generalizing s with
  | nil => exact .inr ⟨rfl, by show s = _; obtain ⟨a, b⟩ := s; simp at h; subst h; simp⟩
  | cons x l ih =>
    cases hb : x.bad with
    | true =>
      left
      have h1 := wLay_bad s x h hb
      refine ⟨by simp [hb], ?_⟩
      show (wAll l (wLay s x)).2 ≠ 0
      rw [wAll_err l _ h1]; exact h1
    | false =>
      have h1 := wLay_ok s x h hb
      rcases ih (s.1 ++ x.enc, 0) rfl with ⟨h2, h3⟩ | ⟨h2, h3⟩
      · exact .inl ⟨by simp [hb, h2], by show (wAll l (wLay s x)).2 ≠ 0; rw [h1]; exact h3⟩
      · refine .inr ⟨by simp [hb, h2], ?_⟩
        show wAll l (wLay s x) = _
        rw [h1, h3]
        simp [List.append_assoc]
/-- the bytes ahead of a place -/
def off (l : List PutV) (j : Nat) : Nat := ((l.take j).map PutV.enc).flatten.length
theorem off_split (l : List PutV) (j : Nat) (x : PutV) (h : l[j]? = some x) : ∃ t, ((l.map PutV.enc).flatten).drop (off l j) = x.enc ++ t ∧ off l (j + 1) = off l j + x.enc.length := by
  have hj := (List.getElem?_eq_some_iff.1 h)
  obtain ⟨hlt, hx⟩ := hj
  have e1 : l = l.take j ++ x :: l.drop (j + 1) := by
    have := List.take_append_drop j l
    rw [← hx, ← List.drop_eq_getElem_cons hlt]
    exact this.symm
  refine ⟨((l.drop (j + 1)).map PutV.enc).flatten, ?_, ?_⟩
  · have e2 : (l.map PutV.enc).flatten = ((l.take j).map PutV.enc).flatten ++ (x.enc ++ ((l.drop (j + 1)).map PutV.enc).flatten) := by
      conv => lhs; rw [e1]
      simp
    rw [e2]
    unfold off
    rw [List.drop_left]
  · unfold off
    rw [List.take_succ_eq_append_getElem hlt, hx]
    simp
theorem off_all (l : List PutV) : off l l.length = ((l.map PutV.enc).flatten).length := by unfold off; rw [List.take_length]
theorem off_le (l : List PutV) (j : Nat) : off l j ≤ ((l.map PutV.enc).flatten).length := by
  unfold off
  have e : (l.map PutV.enc).flatten = ((l.take j).map PutV.enc).flatten ++ ((l.drop j).map PutV.enc).flatten := by
    rw [← List.flatten_append, ← List.map_append, List.take_append_drop]
  rw [e, List.length_append]
  omega
/-- reading the thing at a place -/
theorem read_num {bs : List UInt8} {a v : Nat} {t : List UInt8} (hv : v < 18446744073709551616) (h : bs.drop a = Wire.form v ++ t) : rNum bs (a, 0) = (v, (a + (Wire.form v).length, 0)) := by
  unfold rNum
  simp only [if_true, h, Wire.num_form hv]
theorem read_int {bs : List UInt8} {a v : Nat} {t : List UInt8} {most : Int} (hv : v < 18446744073709551616) (h : bs.drop a = Wire.form v ++ t) (hm : (v : Int) ≤ most) : rInt bs (a, 0) most = (v, (a + (Wire.form v).length, 0)) := by
  unfold rInt
  simp only [if_true, h, Wire.num_form hv]
  rw [if_neg (by omega), if_neg (by omega)]
theorem read_text {bs : List UInt8} {a : Nat} {s t : List UInt8} {most : Int} (hv : s.length < 18446744073709551616) (h : bs.drop a = Wire.form s.length ++ s ++ t) (hm : (s.length : Int) ≤ most) (ha : a ≤ bs.length) : rText bs (a, 0) most = (s, (a + (Wire.form s.length ++ s).length, 0)) := by
  rw [List.append_assoc] at h
  have h1 := read_int hv h hm
  have h2 : bs.drop (a + (Wire.form s.length).length) = s ++ t := by rw [← List.drop_drop, h, List.drop_left]
  have hl := congrArg List.length h2
  rw [List.length_drop, List.length_append] at hl
  unfold rText
  simp only [if_true, h1]
  rw [if_neg (by omega), h2, List.take_left' rfl]
  simp [Nat.add_assoc]
theorem enc_len (x : PutV) (hx : x.Ok) : x.enc.length ≤ x.s.size + 9 := by
  have hl := data_len x.s
  have hv := Wire.nby_le8 (v := x.v.toNat) (by have := hx.v0; have := hx.v1; omega)
  have hn := Wire.nby_le8 (v := x.n.toNat) (by have := hx.n1; omega)
  have hs := Wire.nby_le8 (v := x.s.size) (by have := hx.s1; omega)
  unfold PutV.enc
  split
  · rw [Wire.form_length]; omega
  · split
    · rw [Wire.form_length]; omega
    · split
      · rw [Wire.form_length]; omega
      · rw [List.length_append, Wire.form_length]; omega
end Go.Proofs.YtkdikbenheagmaaDoor
