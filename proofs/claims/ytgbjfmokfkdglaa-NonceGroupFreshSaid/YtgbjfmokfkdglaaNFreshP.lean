/-
  Stamps, and the plain law of freshness: the first stamp that does not rise.
-/
import Derived.Test.YtgbjfmokfkdglaaNSame
import Derived.Test.YtgbjfmokfkdglaaNCmp
set_option linter.unusedVariables false
set_option linter.unusedSimpArgs false
namespace Go.Proofs.Ytgbjfmokfkdglaa
open Go.RowKit

abbrev St := Int × Nat × Nat
def sv (x : St) : List Value := [.int .i64 x.1, .int .u64 x.2.1, .int .u64 x.2.2]
theorem dCmp_le (a b c d : Nat) : dCmp a b c d ≤ 0 ↔ a < c ∨ (a = c ∧ b ≤ d) := by
  unfold dCmp
  by_cases h1 : (a : Int) = c
  · rw [if_pos h1]
    by_cases h2 : (b : Int) = d
    · rw [if_pos h2]; omega
    · rw [if_neg h2]
      by_cases h3 : (b : Int) < d
      · rw [if_pos h3]; omega
      · rw [if_neg h3]; omega
  · rw [if_neg h1]
    by_cases h2 : (a : Int) < c
    · rw [if_pos h2]; omega
    · rw [if_neg h2]; omega
theorem dCmp_ge (a b c d : Nat) : 0 ≤ dCmp a b c d ↔ c < a ∨ (a = c ∧ d ≤ b) := by
  unfold dCmp
  by_cases h1 : (a : Int) = c
  · rw [if_pos h1]
    by_cases h2 : (b : Int) = d
    · rw [if_pos h2]; omega
    · rw [if_neg h2]
      by_cases h3 : (b : Int) < d
      · rw [if_pos h3]; omega
      · rw [if_neg h3]; omega
  · rw [if_neg h1]
    by_cases h2 : (a : Int) < c
    · rw [if_pos h2]; omega
    · rw [if_neg h2]; omega
/-- the stamp at a place is no fresh one -/
def Bad (l : List St) (i : Nat) : Prop := ∃ x, l[i]? = some x ∧ (dCmp x.2.1 x.2.2 0 0 ≤ 0 ∨ ∃ k y, k < i ∧ l[k]? = some y ∧ y.1 = x.1 ∧ 0 ≤ dCmp y.2.1 y.2.2 x.2.1 x.2.2)
/-- what Fresh answers -/
def FirstBad (l : List St) (b : Bool) (k : Nat) : Prop := (b = true ∧ k = 0 ∧ ∀ j, j < l.length → ¬ Bad l j) ∨ (b = false ∧ k < l.length ∧ Bad l k ∧ ∀ j, j < k → ¬ Bad l j)
theorem FirstBad.one {l : List St} {b b' : Bool} {k k' : Nat} (h : FirstBad l b k) (h' : FirstBad l b' k') : b = b' ∧ k = k' := by
  rcases h with ⟨rfl, rfl, h⟩ | ⟨rfl, hk, hb, h⟩
  · rcases h' with ⟨rfl, rfl, _⟩ | ⟨rfl, hk', hb', _⟩
    · exact ⟨rfl, rfl⟩
    · exact absurd hb' (h _ hk')
  · rcases h' with ⟨rfl, rfl, h'⟩ | ⟨rfl, hk', hb', h'⟩
    · exact absurd hb (h' _ hk)
    · rcases Nat.lt_trichotomy k k' with h1 | h1 | h1
      · exact absurd hb (h' _ h1)
      · exact ⟨rfl, h1⟩
      · exact absurd hb' (h _ h1)
/-- what the map holds behind k stamps -/
structure Lasts (l : List St) (k : Nat) (f : Int → Nat × Nat) : Prop where
  top : ∀ j y, j < k → l[j]? = some y → y.2.1 < (f y.1).1 ∨ (y.2.1 = (f y.1).1 ∧ y.2.2 ≤ (f y.1).2)
  from_ : ∀ n, f n = (0, 0) ∨ ∃ j, j < k ∧ l[j]? = some (n, (f n).1, (f n).2)
  good : ∀ j, j < k → ¬ Bad l j
theorem Lasts.start (l : List St) : Lasts l 0 (fun _ => (0, 0)) := ⟨fun j y h => by omega, fun _ => .inl rfl, fun j h => by omega⟩
theorem Lasts.bad {l : List St} {k : Nat} {f : Int → Nat × Nat} (h : Lasts l k f) {x : St} (hx : l[k]? = some x) : dCmp x.2.1 x.2.2 (f x.1).1 (f x.1).2 ≤ 0 ↔ Bad l k := by
  rw [dCmp_le]
  constructor
  · intro h1
    refine ⟨x, hx, ?_⟩
    rcases h.from_ x.1 with h2 | ⟨j, hj, hl⟩
    · left
      rw [h2] at h1
      exact (dCmp_le _ _ 0 0).2 h1
    · right
      refine ⟨j, _, hj, hl, rfl, ?_⟩
      rw [dCmp_ge]
      simp only
      omega
  · rintro ⟨x', hx', h1⟩
    rw [hx] at hx'
    cases hx'
    rcases h1 with h1 | ⟨j, y, hj, hl, hn, h1⟩
    · have h2 := (dCmp_le _ _ 0 0).1 h1
      omega
    · rw [dCmp_ge] at h1
      have := h.top j y hj hl
      rw [hn] at this
      omega
theorem Lasts.next {l : List St} {k : Nat} {f : Int → Nat × Nat} (h : Lasts l k f) {x : St} (hx : l[k]? = some x) (hb : ¬ dCmp x.2.1 x.2.2 (f x.1).1 (f x.1).2 ≤ 0) : Lasts l (k + 1) (fun n => if n = x.1 then (x.2.1, x.2.2) else f n) := by
  have hb2 := hb
  rw [dCmp_le] at hb2
  refine ⟨fun j y hj hl => ?_, fun n => ?_, fun j hj => ?_⟩
  · by_cases hn : y.1 = x.1
    · rw [if_pos hn]
      by_cases hjk : j < k
      · have := h.top j y hjk hl
        rw [hn] at this
        simp only
        omega
      · obtain rfl : j = k := by omega
        rw [hx] at hl
        cases hl
        exact .inr ⟨rfl, Nat.le_refl _⟩
    · rw [if_neg hn]
      by_cases hjk : j < k
      · exact h.top j y hjk hl
      · obtain rfl : j = k := by omega
        rw [hx] at hl
        cases hl
        exact absurd rfl hn
  · by_cases hn : n = x.1
    · simp only [if_pos hn]
      right
      exact ⟨k, by omega, by rw [hx, hn]⟩
    · simp only [if_neg hn]
      rcases h.from_ n with h1 | ⟨j, hj, hl⟩
      · exact .inl h1
      · exact .inr ⟨j, by omega, hl⟩
  · by_cases hjk : j < k
    · exact h.good j hjk
    · obtain rfl : j = k := by omega
      exact fun h1 => hb ((h.bad hx).2 h1)
end Go.Proofs.Ytgbjfmokfkdglaa
