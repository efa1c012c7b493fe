/-
  Bits changed within 32 of one another: the plain law of WireTells, without memory.
-/
import Derived.Test.YtkdikbenheagmaaDoorSealP
set_option linter.unusedVariables false
set_option linter.unusedSimpArgs false
namespace Go.Proofs.YtkdikbenheagmaaDoor

theorem xorL_len {a b : List UInt8} (h : a.length = b.length) : (Wire.xorL a b).length = a.length := by simp [Wire.xorL, h]
theorem xorL_assoc : ∀ (a b c : List UInt8), Wire.xorL (Wire.xorL a b) c = Wire.xorL a (Wire.xorL b c)
  | [], _, _ => by simp [Wire.xorL]
  | _ :: _, [], _ => by simp [Wire.xorL]
  | _ :: _, _ :: _, [] => by simp [Wire.xorL]
  | x :: a, y :: b, z :: c => by
    have := xorL_assoc a b c
    simp only [Wire.xorL, List.zipWith_cons_cons, UInt8.xor_assoc] at *
    rw [this]
theorem div_xor (x y : Nat) : (x ^^^ y) / 256 = x / 256 ^^^ y / 256 := by
  have h : ∀ z : Nat, z / 256 = z >>> 8 := fun z => by rw [Nat.shiftRight_eq_div_pow]
  rw [h, h, h, Nat.shiftRight_xor_distrib]
theorem le_xor : ∀ (n x y : Nat), Wire.le n (x ^^^ y) = Wire.xorL (Wire.le n x) (Wire.le n y)
  | 0, _, _ => rfl
  | n + 1, x, y => by
    show UInt8.ofNat (x ^^^ y) :: Wire.le n ((x ^^^ y) / 256) = (UInt8.ofNat x ^^^ UInt8.ofNat y) :: Wire.xorL (Wire.le n (x / 256)) (Wire.le n (y / 256))
    rw [div_xor, le_xor n]
    congr 1
    apply UInt8.toNat_inj.1
    rw [UInt8.toNat_xor]
    show (x ^^^ y) % 256 = x % 256 ^^^ y % 256
    exact Nat.xor_mod_two_pow (n := 8)
theorem le_zero : ∀ n, Wire.le n 0 = List.replicate n 0
  | 0 => rfl
  | n + 1 => by show UInt8.ofNat 0 :: Wire.le n (0 / 256) = _; rw [Nat.zero_div, le_zero n]; rfl
theorem xorL_zero (a : List UInt8) : Wire.xorL a (List.replicate a.length 0) = a := by
  apply List.ext_getElem
  · simp [Wire.xorL]
  · intro i h1 h2
    simp [Wire.xorL]
/-- one bit changed -/
theorem flip : ∀ (g : List UInt8) (p : Nat), p < 8 * g.length → g.set (p / 8) (g.getD (p / 8) 0 ^^^ UInt8.ofNat (2 ^ (p % 8))) = Wire.xorL g (Wire.le g.length (2 ^ p))
  | [], p, h => by simp at h
  | x :: t, p, h => by
    show _ = (x ^^^ UInt8.ofNat (2 ^ p)) :: Wire.xorL t (Wire.le t.length (2 ^ p / 256))
    rcases Nat.lt_or_ge p 8 with h8 | h8
    · rw [Nat.div_eq_of_lt h8, Nat.mod_eq_of_lt h8]
      have : 2 ^ p / 256 = 0 := Nat.div_eq_of_lt (by have := Nat.pow_lt_pow_right (a := 2) (m := p) (n := 8) (by omega) h8; omega)
      rw [this, le_zero, xorL_zero]
      rfl
    · obtain ⟨q, rfl⟩ : ∃ q, p = q + 8 := ⟨p - 8, by omega⟩
      have e1 : (2 : Nat) ^ (q + 8) = 2 ^ q * 256 := by rw [Nat.pow_add]
      have e2 : (q + 8) / 8 = q / 8 + 1 := by omega
      have e3 : (q + 8) % 8 = q % 8 := by omega
      have e4 : UInt8.ofNat (2 ^ q * 256) = 0 := by
        apply UInt8.toNat_inj.1
        show 2 ^ q * 256 % 256 = 0
        omega
      have ih := flip t q (by simp at h; omega)
      rw [e1, e2, e3, e4, Nat.mul_div_cancel _ (by omega), ← ih]
      simp
theorem two_xor {a k : Nat} (h : a < 2 ^ k) : a ^^^ 2 ^ k = a + 2 ^ k := by
  have e := Nat.two_pow_add_eq_or_of_lt h 1
  rw [Nat.mul_one] at e
  rw [Nat.add_comm, e]
  apply Nat.eq_of_testBit_eq
  intro i
  rw [Nat.testBit_xor, Nat.testBit_or, Nat.testBit_two_pow]
  by_cases hk : k = i
  · subst hk
    rw [Nat.testBit_lt_two_pow h]; simp
  · simp [hk]
theorem burst_add {s a k : Nat} (h : a < 2 ^ k) : 2 ^ s * a ^^^ 2 ^ (s + k) = 2 ^ s * (a + 2 ^ k) := by
  have e : ∀ z : Nat, 2 ^ s * z = z <<< s := fun z => by rw [Nat.shiftLeft_eq, Nat.mul_comm]
  rw [Nat.pow_add, e, e, e, ← Nat.shiftLeft_xor_distrib, two_xor h]
/-- what the frame is behind so many rounds -/
structure Burst (f : List UInt8) (s k : Nat) (g : List UInt8) (changed : Bool) : Prop where
  ex : ∃ a, a < 2 ^ k ∧ 2 ^ s * a < 2 ^ (8 * f.length) ∧ g = Wire.xorL f (Wire.le f.length (2 ^ s * a)) ∧ (changed = true ↔ a ≠ 0)
theorem Burst.start (f : List UInt8) (s : Nat) : Burst f s 0 f false :=
  ⟨0, by decide, by rw [Nat.mul_zero]; exact Nat.two_pow_pos _, by rw [Nat.mul_zero, le_zero, xorL_zero], by simp⟩
theorem Burst.stay {f g : List UInt8} {s k : Nat} {c : Bool} (h : Burst f s k g c) : Burst f s (k + 1) g c := by
  obtain ⟨a, h1, h2⟩ := h.ex
  exact ⟨a, by rw [Nat.pow_succ]; omega, h2⟩
theorem Burst.len {f g : List UInt8} {s k : Nat} {c : Bool} (h : Burst f s k g c) : g.length = f.length := by
  obtain ⟨a, h1, h2, rfl, _⟩ := h.ex
  exact xorL_len (by rw [Wire.le_length])
theorem Burst.more {f g : List UInt8} {s k : Nat} {c : Bool} (h : Burst f s k g c) (hp : s + k < 8 * f.length) :
    Burst f s (k + 1) (g.set ((s + k) / 8) (g.getD ((s + k) / 8) 0 ^^^ UInt8.ofNat (2 ^ ((s + k) % 8)))) true := by
  have hl := h.len
  obtain ⟨a, h1, h2, rfl, _⟩ := h.ex
  refine ⟨a + 2 ^ k, by rw [Nat.pow_succ]; omega, ?_, ?_, ?_⟩
  · have e := burst_add (s := s) h1
    rw [← e]
    exact Nat.xor_lt_two_pow h2 (Nat.pow_lt_pow_right (by omega) hp)
  · rw [flip _ _ (by rw [hl]; exact hp), hl, xorL_assoc, ← le_xor, burst_add h1]
  · simp
theorem Burst.told {b g : List UInt8} {s k : Nat} (hk : k ≤ 32) (h : Burst (sealL b) s k g true) : (openL g).2 ≠ 0 := by
  obtain ⟨a, h1, h2, rfl, h4⟩ := h.ex
  intro e
  have h32 : 2 ^ k ≤ 2 ^ 32 := Nat.pow_le_pow_right (by omega) hk
  exact Wire.tells (sealL_whole b) (h4.1 rfl) (by omega) h2 (open_ok _ e).2.2
theorem Burst.same {f g : List UInt8} {s k : Nat} (h : Burst f s k g false) : g = f := by
  obtain ⟨a, h1, h2, rfl, h4⟩ := h.ex
  have : a = 0 := Decidable.not_not.1 fun hn => by cases h4.2 hn
  rw [this, Nat.mul_zero, le_zero, xorL_zero]
end Go.Proofs.YtkdikbenheagmaaDoor
