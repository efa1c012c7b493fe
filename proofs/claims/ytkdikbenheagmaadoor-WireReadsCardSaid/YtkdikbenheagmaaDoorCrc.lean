namespace Go.Proofs.YtkdikbenheagmaaDoor.Wire

def nibs : List Nat := [0, 0x1db71064, 0x3b6e20c8, 0x26d930ac, 0x76dc4190, 0x6b6b51f4, 0x4db26158, 0x5005713c, 0xedb88320, 0xf00f9344, 0xd6d6a3e8, 0xcb61b38c, 0x9b64c2b0, 0x86d3d2d4, 0xa00ae278, 0xbdbdf21c]
def nb (i : Nat) : Nat := nibs.getD i 0
/-- four bits go out, by the table -/
def half (c : Nat) : Nat := nb (c &&& 15) ^^^ (c >>> 4)
def stepB (c x : Nat) : Nat := half (half (c ^^^ x))
def top32 : Nat := 4294967295
def crc (c : Nat) (bs : List UInt8) : Nat := bs.foldl (fun c x => stepB c x.toNat) c
def sumN (bs : List UInt8) : Nat := crc top32 bs ^^^ top32

def poly : Nat := 0xEDB88320
/-- one bit goes out -/
def bit1 (s : Nat) : Nat := (s >>> 1) ^^^ (if s % 2 = 1 then poly else 0)

theorem lt_xor {a b : Nat} (ha : a < 4294967296) (hb : b < 4294967296) : a ^^^ b < 4294967296 := Nat.xor_lt_two_pow (n := 32) ha hb
theorem nb_lt (i : Nat) : nb i < 4294967296 := by
  unfold nb
  rcases Nat.lt_or_ge i 16 with h | h
  · have : ∀ j : Fin 16, nibs.getD j.val 0 < 4294967296 := by decide
    exact this ⟨i, h⟩
  · have : nibs.getD i 0 = 0 := by simp [List.getD_eq_getElem?_getD, nibs, h]
    omega
theorem half_lt {c : Nat} (h : c < 4294967296) : half c < 4294967296 := by
  unfold half
  refine lt_xor (nb_lt _) ?_
  rw [Nat.shiftRight_eq_div_pow]; omega
theorem stepB_lt {c x : Nat} (h : c < 4294967296) (hx : x < 256) : stepB c x < 4294967296 := half_lt (half_lt (lt_xor h (by omega)))
theorem crc_lt {c : Nat} (h : c < 4294967296) (bs : List UInt8) : crc c bs < 4294967296 := by
  induction bs generalizing c with
  | nil => exact h
  | cons b bs ih => exact ih (stepB_lt h b.toNat_lt)
theorem sumN_lt (bs : List UInt8) : sumN bs < 4294967296 := lt_xor (crc_lt (by decide) bs) (by decide)

/-! ### bit1 is linear -/
theorem xor_mod2 (a b : Nat) : (a ^^^ b) % 2 = (a % 2 + b % 2) % 2 := by
  have h := Nat.xor_mod_two_pow (a := a) (b := b) (n := 1)
  simp only [Nat.pow_one] at h
  rw [h]
  rcases Nat.mod_two_eq_zero_or_one a with ha | ha <;> rcases Nat.mod_two_eq_zero_or_one b with hb | hb <;> rw [ha, hb] <;> rfl
theorem bit1_xor (a b : Nat) : bit1 (a ^^^ b) = bit1 a ^^^ bit1 b := by
  unfold bit1
  rw [Nat.shiftRight_xor_distrib, xor_mod2]
  rcases Nat.mod_two_eq_zero_or_one a with ha | ha <;> rcases Nat.mod_two_eq_zero_or_one b with hb | hb <;> simp [ha, hb]
  all_goals
    apply Nat.eq_of_testBit_eq
    intro i
    simp only [Nat.testBit_xor]
    cases (a >>> 1).testBit i <;> cases (b >>> 1).testBit i <;> cases poly.testBit i <;> rfl
theorem bit1_zero : bit1 0 = 0 := rfl
theorem bit1_lt {a : Nat} (h : a < 4294967296) : bit1 a < 4294967296 := by
  unfold bit1
  refine lt_xor ?_ (by split <;> decide)
  rw [Nat.shiftRight_eq_div_pow]; omega
theorem bit1_even (d : Nat) : bit1 (2 * d) = d := by
  unfold bit1
  rw [if_neg (by omega), Nat.shiftRight_eq_div_pow, Nat.xor_zero]; omega
def bits (n : Nat) (s : Nat) : Nat := n.repeat bit1 s
theorem bits_succ (n s : Nat) : bits (n + 1) s = bit1 (bits n s) := rfl
theorem bits_zero (n : Nat) : bits n 0 = 0 := by
  induction n with
  | zero => rfl
  | succ n ih => rw [bits_succ, ih]; rfl
theorem bits_xor (n a b : Nat) : bits n (a ^^^ b) = bits n a ^^^ bits n b := by
  induction n with
  | zero => rfl
  | succ n ih => rw [bits_succ, bits_succ, bits_succ, ih, bit1_xor]
theorem bits_lt (n : Nat) {a : Nat} (h : a < 4294967296) : bits n a < 4294967296 := by
  induction n with
  | zero => exact h
  | succ n ih => exact bit1_lt ih
theorem bits_add (n m s : Nat) : bits (n + m) s = bits n (bits m s) := by
  induction n with
  | zero => rw [Nat.zero_add]; rfl
  | succ n ih => rw [Nat.succ_add, bits_succ, bits_succ, ih]
theorem bits_comm1 (n s : Nat) : bits n (bit1 s) = bit1 (bits n s) := by
  have h := bits_add n 1 s
  have h' := bits_add 1 n s
  rw [Nat.add_comm] at h'
  exact h.symm.trans h'
/-- splitting off the four low bits -/
theorem low4 (c : Nat) : c = (c &&& 15) ^^^ (2 * (2 * (2 * (2 * (c >>> 4))))) := by
  apply Nat.eq_of_testBit_eq
  intro i
  have e : 2 * (2 * (2 * (2 * (c >>> 4)))) = (c >>> 4) <<< 4 := by rw [Nat.shiftLeft_eq]; omega
  rw [e, Nat.testBit_xor, Nat.testBit_and, Nat.testBit_shiftLeft, Nat.testBit_shiftRight]
  have h15 : (15 : Nat).testBit i = decide (i < 4) := by
    have : (15 : Nat) = 2 ^ 4 - 1 := rfl
    rw [this, Nat.testBit_two_pow_sub_one]
  rw [h15]
  rcases Nat.lt_or_ge i 4 with h | h
  · simp [h, show ¬ (4 ≤ i) by omega]
  · simp [show ¬ (i < 4) by omega, h, show 4 + (i - 4) = i by omega]
theorem bits4_small : ∀ i, i < 16 → bits 4 i = nb i := by decide
theorem half_eq (c : Nat) : half c = bits 4 c := by
  have hl : bits 4 c = bits 4 (c &&& 15) ^^^ bits 4 (2 * (2 * (2 * (2 * (c >>> 4))))) := by rw [← bits_xor, ← low4]
  have h4 : ∀ d, bits 4 (2 * (2 * (2 * (2 * d)))) = d := by
    intro d
    show bit1 (bit1 (bit1 (bit1 (2 * (2 * (2 * (2 * d))))))) = d
    rw [bit1_even, bit1_even, bit1_even, bit1_even]
  have hs : c &&& 15 < 16 := by
    have := Nat.and_two_pow_sub_one_eq_mod c 4
    have h15 : 2 ^ 4 - 1 = 15 := rfl
    rw [h15] at this
    rw [this]; omega
  rw [hl, h4, bits4_small _ hs]; rfl
theorem stepB_eq (c x : Nat) : stepB c x = bits 8 (c ^^^ x) := by
  unfold stepB
  rw [half_eq, half_eq, ← bits_add]
theorem stepB_xor (c d x y : Nat) : stepB (c ^^^ d) (x ^^^ y) = stepB c x ^^^ stepB d y := by
  rw [stepB_eq, stepB_eq, stepB_eq, ← bits_xor]
  congr 1
  rw [Nat.xor_assoc, Nat.xor_assoc, ← Nat.xor_assoc d, Nat.xor_comm d x, Nat.xor_assoc x]
/-- byte by byte -/
def xorL (a b : List UInt8) : List UInt8 := List.zipWith (· ^^^ ·) a b
theorem crc_xor : ∀ (a b : List UInt8) (c d : Nat), a.length = b.length → crc (c ^^^ d) (xorL a b) = crc c a ^^^ crc d b
  | [], [], c, d, _ => rfl
  | x :: a, y :: b, c, d, h => by
    show crc (stepB (c ^^^ d) (x ^^^ y).toNat) (xorL a b) = crc (stepB c x.toNat) a ^^^ crc (stepB d y.toNat) b
    rw [UInt8.toNat_xor, stepB_xor]
    exact crc_xor a b _ _ (by simpa using h)
theorem crc_append (c : Nat) (a b : List UInt8) : crc c (a ++ b) = crc (crc c a) b := List.foldl_append

theorem crc_snoc (c : Nat) (bs : List UInt8) (k : Nat) (h : k < bs.length) : crc c (bs.take (k + 1)) = stepB (crc c (bs.take k)) (bs.getD k 0).toNat := by
  rw [List.take_succ_eq_append_getElem h, crc_append, List.getD_eq_getElem?_getD, List.getElem?_eq_getElem h]
  rfl
theorem xor3 (a b c : Nat) : a ^^^ b ^^^ (a ^^^ c) = b ^^^ c := by
  rw [Nat.xor_assoc, ← Nat.xor_assoc b, Nat.xor_comm b a, Nat.xor_assoc a, ← Nat.xor_assoc, Nat.xor_self, Nat.zero_xor]
theorem sum_adds (a b : List UInt8) (h : a.length = b.length) : sumN (xorL a b) = sumN a ^^^ sumN b ^^^ sumN (List.replicate a.length 0) := by
  have h1 : crc (top32 ^^^ top32) (xorL a b) = crc top32 a ^^^ crc top32 b := crc_xor a b _ _ h
  have h2 : crc (0 ^^^ top32) (xorL (xorL a b) (List.replicate a.length 0)) = crc 0 (xorL a b) ^^^ crc top32 (List.replicate a.length 0) := crc_xor _ _ _ _ (by simp [xorL, h])
  rw [Nat.xor_self] at h1
  rw [Nat.zero_xor, h1] at h2
  have h3 : xorL (xorL a b) (List.replicate a.length 0) = xorL a b := by
    apply List.ext_getElem
    · simp [xorL, h]
    · intro i h1 h2
      simp [xorL]
  rw [h3] at h2
  unfold sumN
  rw [h2]
  generalize crc top32 a = x; generalize crc top32 b = y; generalize crc top32 (List.replicate a.length 0) = z
  apply Nat.eq_of_testBit_eq
  intro i
  simp only [Nat.testBit_xor]
  cases x.testBit i <;> cases y.testBit i <;> cases z.testBit i <;> cases top32.testBit i <;> rfl

/-! ### a burst -/
theorem bit1_inj {a b : Nat} (ha : a < 4294967296) (hb : b < 4294967296) (h : bit1 a = bit1 b) : a = b := by
  have t : ∀ c, c < 4294967296 → (bit1 c).testBit 31 = decide (c % 2 = 1) := by
    intro c hc
    unfold bit1
    have h1 : (c >>> 1).testBit 31 = false := by
      rw [Nat.testBit_shiftRight]
      exact Nat.testBit_lt_two_pow hc
    rw [Nat.testBit_xor, h1]
    split
    · rename_i h; simp [h]; decide
    · rename_i h; simp [h]
  have hp : decide (a % 2 = 1) = decide (b % 2 = 1) := by rw [← t a ha, ← t b hb, h]
  unfold bit1 at h
  have hm : a % 2 = b % 2 := by
    by_cases h1 : a % 2 = 1 <;> by_cases h2 : b % 2 = 1 <;> simp [h1, h2] at hp <;> omega
  rw [hm] at h
  have hs : a >>> 1 = b >>> 1 := by
    have := congrArg (· ^^^ (if b % 2 = 1 then poly else 0)) h
    simpa [Nat.xor_assoc] using this
  rw [Nat.shiftRight_eq_div_pow, Nat.shiftRight_eq_div_pow] at hs
  omega
theorem bits_ne (n : Nat) {m : Nat} (h0 : m ≠ 0) (h : m < 4294967296) : bits n m ≠ 0 := by
  induction n with
  | zero => exact h0
  | succ n ih =>
    intro e
    rw [bits_succ] at e
    exact ih (bit1_inj (bits_lt n h) (by decide) (e.trans bit1_zero.symm))
theorem bits_shift (s m : Nat) : bits s (2 ^ s * m) = m := by
  induction s generalizing m with
  | zero => simp [bits, Nat.repeat]
  | succ s ih =>
    rw [bits_succ, ← bits_comm1]
    have e : 2 ^ (s + 1) * m = 2 * (2 ^ s * m) := by rw [Nat.pow_succ]; ac_rfl
    rw [e, bit1_even, ih]
/-- the bytes of a number, the lowest first -/
def le : Nat → Nat → List UInt8
  | 0, _ => []
  | n + 1, e => UInt8.ofNat e :: le n (e / 256)
theorem le_length (n e : Nat) : (le n e).length = n := by
  induction n generalizing e with
  | zero => rfl
  | succ n ih => simp [le, ih]
theorem split8 (e : Nat) : e = (e % 256) ^^^ (2 ^ 8 * (e / 256)) := by
  apply Nat.eq_of_testBit_eq
  intro i
  have e1 : 2 ^ 8 * (e / 256) = (e >>> 8) <<< 8 := by rw [Nat.shiftLeft_eq, Nat.shiftRight_eq_div_pow]; omega
  have e2 : e % 256 = e % 2 ^ 8 := rfl
  rw [e1, e2, Nat.testBit_xor, Nat.testBit_mod_two_pow, Nat.testBit_shiftLeft, Nat.testBit_shiftRight]
  rcases Nat.lt_or_ge i 8 with h | h
  · simp [h, show ¬ (8 ≤ i) by omega]
  · simp [show ¬ (i < 8) by omega, h, show 8 + (i - 8) = i by omega]
theorem crc_le (n : Nat) : ∀ (c e : Nat), crc c (le n e) ^^^ (e / 2 ^ (8 * n)) = bits (8 * n) (c ^^^ e) := by
  induction n with
  | zero => intro c e; simp [crc, le, bits, Nat.repeat]
  | succ n ih =>
    intro c e
    have h1 : crc c (le (n + 1) e) = crc (stepB c (e % 256)) (le n (e / 256)) := by
      show crc (stepB c (UInt8.ofNat e).toNat) (le n (e / 256)) = _
      rw [show (UInt8.ofNat e).toNat = e % 256 from rfl]
    have h2 : e / 2 ^ (8 * (n + 1)) = (e / 256) / 2 ^ (8 * n) := by
      rw [Nat.div_div_eq_div_mul, show 8 * (n + 1) = 8 + 8 * n by omega, Nat.pow_add]
    have h3 : bits (8 * (n + 1)) (c ^^^ e) = bits (8 * n) (bits 8 (c ^^^ e)) := by rw [← bits_add]; congr 1
    have h4 : bits 8 (c ^^^ e) = stepB c (e % 256) ^^^ (e / 256) := by
      rw [stepB_eq]
      have h : c ^^^ e = (c ^^^ (e % 256)) ^^^ (2 ^ 8 * (e / 256)) := by rw [Nat.xor_assoc, ← split8]
      rw [h, bits_xor, bits_shift]
    rw [h1, h2, ih, h3, h4]
theorem crc_le_small {n c e : Nat} (h : e < 2 ^ (8 * n)) : crc c (le n e) = bits (8 * n) (c ^^^ e) := by
  have := crc_le n c e
  rwa [Nat.div_eq_of_lt h, Nat.xor_zero] at this
theorem burst_ne {n s m : Nat} (h0 : m ≠ 0) (hm : m < 4294967296) (h : 2 ^ s * m < 2 ^ (8 * n)) : crc 0 (le n (2 ^ s * m)) ≠ 0 := by
  rw [crc_le_small h, Nat.zero_xor]
  have hs : s ≤ 8 * n := by
    rcases Nat.lt_or_ge (8 * n) s with hh | hh
    · exfalso
      have h1 : 2 ^ (8 * n) < 2 ^ s := Nat.pow_lt_pow_right (by omega) hh
      have h2 : 2 ^ s * 1 ≤ 2 ^ s * m := Nat.mul_le_mul_left _ (by omega)
      omega
    · exact hh
  rw [show 8 * n = (8 * n - s) + s by omega, bits_add, bits_shift]
  exact bits_ne _ h0 hm
/-- a frame whose sum is right -/
def Whole (f : List UInt8) : Prop := ∃ d, f = d ++ le 4 (sumN d)
theorem whole_crc {f : List UInt8} (h : Whole f) : crc top32 f = bits 32 top32 := by
  obtain ⟨d, rfl⟩ := h
  rw [crc_append, crc_le_small (n := 4) (sumN_lt d)]
  unfold sumN
  rw [← Nat.xor_assoc, Nat.xor_self, Nat.zero_xor]
theorem tells {f : List UInt8} (hf : Whole f) {s m : Nat} (h0 : m ≠ 0) (hm : m < 4294967296) (h : 2 ^ s * m < 2 ^ (8 * f.length)) : ¬ Whole (xorL f (le f.length (2 ^ s * m))) := by
  intro hw
  have h1 := crc_xor f (le f.length (2 ^ s * m)) top32 0 (le_length _ _).symm
  rw [Nat.xor_zero, whole_crc hw, whole_crc hf] at h1
  have h2 := congrArg (bits 32 top32 ^^^ ·) h1
  simp only [Nat.xor_self, ← Nat.xor_assoc, Nat.zero_xor] at h2
  exact burst_ne h0 hm h h2.symm

end Go.Proofs.YtkdikbenheagmaaDoor.Wire
