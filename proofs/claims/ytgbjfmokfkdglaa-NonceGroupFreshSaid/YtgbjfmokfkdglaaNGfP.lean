/-
  The plain law of NonceGroupFresh: what a group draws is fresh while its clock passes behind each wipe.
-/
import Derived.Test.YtgbjfmokfkdglaaNGrp2
set_option linter.unusedVariables false
set_option linter.unusedSimpArgs false
namespace Go.Proofs.Ytgbjfmokfkdglaa
open Go.RowKit

theorem Bad.snoc {l : List St} {x : St} {i : Nat} (h : Bad (l ++ [x]) i) (hi : i < l.length) : Bad l i := by
  obtain ⟨y, hy, h⟩ := h
  rw [List.getElem?_append_left hi] at hy
  refine ⟨y, hy, ?_⟩
  rcases h with h | ⟨k, z, hk, hz, h⟩
  · exact .inl h
  · rw [List.getElem?_append_left (by omega)] at hz
    exact .inr ⟨k, z, hk, hz, h⟩
/-- all stamps are fresh -/
def Gd (l : List St) : Prop := ∀ j, j < l.length → ¬ Bad l j
theorem Gd.nil : Gd [] := fun j h => by simp at h
theorem Gd.push {l : List St} (h : Gd l) (x : St) (h0 : 0 < x.2.1) (hx : ∀ y ∈ l, y.1 = x.1 → y.2.1 < x.2.1 ∨ (y.2.1 = x.2.1 ∧ y.2.2 < x.2.2)) : Gd (l ++ [x]) := by
  intro j hj hb
  by_cases hl : j < l.length
  · exact h j hl (hb.snoc hl)
  · simp at hj
    obtain rfl : j = l.length := by omega
    obtain ⟨y, hy, hb⟩ := hb
    simp at hy
    subst hy
    rcases hb with hb | ⟨k, z, hk, hz, he, hb⟩
    · have := (dCmp_le _ _ 0 0).1 hb; omega
    · rw [List.getElem?_append_left hk] at hz
      have h1 := hx z (List.mem_of_getElem? hz) he
      have h2 := (dCmp_ge _ _ _ _).1 hb
      omega
theorem Gd.first {l : List St} (h : Gd l) {b : Bool} {k : Nat} (f : FirstBad l b k) : b = true ∧ k = 0 := by
  rcases f with ⟨h1, h2, _⟩ | ⟨_, hk, hb, _⟩
  · exact ⟨h1, h2⟩
  · exact absurd hb (h k hk)
theorem Gd.firstBad {l : List St} (h : Gd l) {x : St} (hx : ∃ y ∈ l, y.1 = x.1 ∧ (x.2.1 < y.2.1 ∨ (y.2.1 = x.2.1 ∧ x.2.2 ≤ y.2.2))) {b : Bool} {k : Nat} (f : FirstBad (l ++ [x]) b k) : b = false ∧ k = l.length := by
  obtain ⟨y, hy, he, hle⟩ := hx
  obtain ⟨i, hi⟩ := List.getElem?_of_mem hy
  have hil : i < l.length := (List.getElem?_eq_some_iff.1 hi).1
  have hb : Bad (l ++ [x]) l.length := ⟨x, by simp, .inr ⟨i, y, hil, by rw [List.getElem?_append_left hil]; exact hi, he, (dCmp_ge _ _ _ _).2 (by omega)⟩⟩
  rcases f with ⟨_, _, h1⟩ | ⟨h1, hk, hb1, h2⟩
  · exact absurd hb (h1 _ (by simp))
  · refine ⟨h1, ?_⟩
    by_cases hkl : k < l.length
    · exact absurd (hb1.snoc hkl) (h k hkl)
    · simp at hk; omega
/-- how many stamps a replica has -/
def cntOf (k : Nat) (l : List St) : Nat := (l.filter fun y => y.1 == (k : Int)).length
theorem cntOf_push (k : Nat) (l : List St) (x : St) : cntOf k (l ++ [x]) = cntOf k l + if x.1 = (k : Int) then 1 else 0 := by
  unfold cntOf
  rw [List.filter_append, List.length_append]
  by_cases h : x.1 = (k : Int) <;> simp [h]
/-- how far the clock may have gone behind i calls -/
def far (i : Nat) : Nat := i * 1073741825
theorem far_succ (i : Nat) : far (i + 1) = far i + 1073741825 := Nat.succ_mul i _
theorem far_le {i : Nat} (h : i ≤ 1001) : far i ≤ 1074815566825 := Nat.le_trans (Nat.mul_le_mul_right _ h) (by decide)
/-- the state of the script behind i calls -/
structure Fi (n at_ a i : Nat) (l : List St) (mq : Nat → Nat × Nat) (wi : Nat → Bool) (cn : Nat → Nat) : Prop where
  good : Gd l
  low : 1 ≤ at_ ∧ at_ ≤ 4611686018427387904
  lo : at_ ≤ a
  hi : a ≤ at_ + far i
  len : l.length ≤ i
  i1 : i ≤ 1001
  nod : ∀ y ∈ l, 0 ≤ y.1 ∧ y.1 < (n : Int) ∧ y.2.1 ≤ a
  mem : ∀ k, k < n → (mq k).1 ≤ a ∧ (mq k).2 ≤ i
  top : ∀ k : Nat, k < n → wi k = false → ∀ y ∈ l, y.1 = (k : Int) → y.2.1 < (mq k).1 ∨ (y.2.1 = (mq k).1 ∧ y.2.2 ≤ (mq k).2)
  cnt : ∀ k, k < n → cn k = cntOf k l
theorem Fi.start {n at_ : Nat} (h1 : 1 ≤ at_) (h2 : at_ ≤ 4611686018427387904) : Fi n at_ at_ 0 [] (fun _ => (0, 0)) (fun _ => false) (fun _ => 0) :=
  ⟨Gd.nil, ⟨h1, h2⟩, Nat.le_refl _, Nat.le_add_right _ _, by simp, by omega, fun y hy => by simp at hy, fun k _ => ⟨Nat.zero_le _, Nat.zero_le _⟩, fun k _ _ y hy => by simp at hy, fun k _ => rfl⟩
theorem Fi.room {n at_ a i : Nat} {l : List St} {mq : Nat → Nat × Nat} {wi : Nat → Bool} {cn : Nat → Nat} (h : Fi n at_ a i l mq wi cn) : a ≤ 4611687100000000000 := by
  have := h.low; have := h.hi; have := far_le h.i1; omega
theorem cPass_ok {a z : Nat} (h : a + z ≤ 18446744073709551615) : cPass a z = (0, a + z) := if_neg (by omega)
theorem Fi.pass {n at_ a i : Nat} {l : List St} {mq : Nat → Nat × Nat} {wi : Nat → Bool} {cn : Nat → Nat} (h : Fi n at_ a i l mq wi cn) (hi : i < 1000) {z : Nat} (hz : z < 1073741824) : Fi n at_ (a + z) (i + 1) l mq wi cn := by
  refine ⟨h.good, h.low, by have := h.lo; omega, by have := h.hi; rw [far_succ]; omega, by have := h.len; omega, by omega, fun y hy => ?_, fun k hk => ?_, h.top, h.cnt⟩
  · obtain ⟨h1, h2, h3⟩ := h.nod y hy; exact ⟨h1, h2, by omega⟩
  · obtain ⟨h1, h2⟩ := h.mem k hk; exact ⟨by omega, by omega⟩
theorem Fi.wipe {n at_ a i : Nat} {l : List St} {mq : Nat → Nat × Nat} {wi : Nat → Bool} {cn : Nat → Nat} (h : Fi n at_ a i l mq wi cn) (hi : i < 1000) (k : Nat) : Fi n at_ a (i + 1) l (fun j => if j = k then (0, 0) else mq j) (fun j => if j = k then true else wi j) cn := by
  refine ⟨h.good, h.low, h.lo, by have := h.hi; rw [far_succ]; omega, by have := h.len; omega, by omega, h.nod, fun j hj => ?_, fun j hj hw => ?_, h.cnt⟩
  · obtain ⟨h1, h2⟩ := h.mem j hj
    by_cases e : j = k <;> simp only [e, if_true, if_false]
    · exact ⟨by omega, by omega⟩
    · exact ⟨by omega, by omega⟩
  · by_cases e : j = k
    · simp [e] at hw
    · simp only [e, if_false] at hw ⊢; exact h.top j hj hw
theorem nx_pos (a m q : Nat) : 1 ≤ nx a m q := by unfold nx; omega
theorem nx_le {a m q i : Nat} (h : q ≤ i) : nx a m q ≤ i + 1 := by unfold nx; split <;> omega
/-- the reading behind the passing that a wipe asks for -/
def pa (w : Bool) (a : Nat) : Nat := if w then a + 1 else a
theorem pa_t (a : Nat) : pa true a = a + 1 := rfl
theorem pa_f (a : Nat) : pa false a = a := rfl
theorem Fi.fine {n at_ a i : Nat} {l : List St} {mq : Nat → Nat × Nat} {wi : Nat → Bool} {cn : Nat → Nat} (h : Fi n at_ a i l mq wi cn) {k : Nat} (hk : k < n) :
    Gd (l ++ [((k : Int), pa (wi k) a, nx (pa (wi k) a) (mq k).1 (mq k).2)]) := by
  refine h.good.push _ (by have := h.lo; have := h.low; simp only [pa]; split <;> omega) fun y hy he => ?_
  obtain ⟨_, _, h3⟩ := h.nod y hy
  simp only at he ⊢
  have hm := (h.mem k hk).1
  cases hw : wi k with
  | true => rw [pa_t]; left; omega
  | false =>
    rw [pa_f]
    rcases h.top k hk hw y hy he with h1 | ⟨h1, h2⟩
    · left; omega
    · unfold nx
      by_cases e : (mq k).1 = a
      · right; rw [if_pos e]; omega
      · left; omega
theorem Fi.draw {n at_ a i : Nat} {l : List St} {mq : Nat → Nat × Nat} {wi : Nat → Bool} {cn : Nat → Nat} (h : Fi n at_ a i l mq wi cn) (hi : i < 1000) {k : Nat} (hk : k < n) :
    Fi n at_ (pa (wi k) a) (i + 1) (l ++ [((k : Int), pa (wi k) a, nx (pa (wi k) a) (mq k).1 (mq k).2)]) (fun j => if j = k then (pa (wi k) a, nx (pa (wi k) a) (mq k).1 (mq k).2) else mq j) (fun j => if j = k then false else wi j) (fun j => if j = k then cn k + 1 else cn j) := by
  have hp : a ≤ pa (wi k) a ∧ pa (wi k) a ≤ a + 1 := by unfold pa; split <;> omega
  have hx := nx_le (a := pa (wi k) a) (m := (mq k).1) (h.mem k hk).2
  refine ⟨h.fine hk, h.low, by have := h.lo; omega, by have := h.hi; rw [far_succ]; omega, by have := h.len; simp; omega, by omega, fun y hy => ?_, fun j hj => ?_, fun j hj hw y hy he => ?_, fun j hj => ?_⟩
  · rcases List.mem_append.1 hy with hy | hy
    · obtain ⟨h1, h2, h3⟩ := h.nod y hy; exact ⟨h1, h2, by omega⟩
    · simp at hy; subst hy; exact ⟨by simp, by simp; omega, Nat.le_refl _⟩
  · obtain ⟨h1, h2⟩ := h.mem j hj
    by_cases e : j = k <;> simp only [e, if_true, if_false]
    · exact ⟨Nat.le_refl _, by omega⟩
    · exact ⟨by omega, by omega⟩
  · by_cases e : j = k
    · subst e
      simp only [if_true]
      rcases List.mem_append.1 hy with hy | hy
      · have hm := (h.mem j hj).1
        obtain ⟨_, _, h3⟩ := h.nod y hy
        cases hw2 : wi j with
        | true => rw [pa_t]; left; omega
        | false =>
          rw [pa_f]
          rcases h.top j hj hw2 y hy he with h1 | ⟨h1, h2⟩
          · left; omega
          · unfold nx
            by_cases e : (mq j).1 = a
            · right; rw [if_pos e]; omega
            · left; omega
      · simp at hy; subst hy; right; exact ⟨rfl, Nat.le_refl _⟩
    · simp only [e, if_false] at hw ⊢
      rcases List.mem_append.1 hy with hy | hy
      · exact h.top j hj hw y hy he
      · simp at hy; subst hy; simp at he; omega
  · rw [cntOf_push]
    by_cases e : j = k
    · subst e; simp only [if_true]; rw [h.cnt j hj]
    · simp only [e, if_false]
      rw [if_neg (by omega), h.cnt j hj]; rfl
/-- the draw does not fail -/
theorem Fi.can {n at_ a i : Nat} {l : List St} {mq : Nat → Nat × Nat} {wi : Nat → Bool} {cn : Nat → Nat} (h : Fi n at_ a i l mq wi cn) {k : Nat} (hk : k < n) (b : Nat) : ¬ ((mq k).1 = b ∧ (mq k).2 = 65535) := fun e => by
  have := (h.mem k hk).2; have := h.i1; omega
end Go.Proofs.Ytgbjfmokfkdglaa
