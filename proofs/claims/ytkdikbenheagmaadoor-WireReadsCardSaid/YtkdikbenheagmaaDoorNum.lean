namespace Go.Proofs.YtkdikbenheagmaaDoor.Wire
/-! ### numbers in bytes -/
/-- how many bytes a number wants -/
def nby (v : Nat) : Nat := if h : v = 0 then 0 else nby (v / 256) + 1
decreasing_by omega
/-- its k lowest bytes, the highest first -/
def be : Nat → Nat → List UInt8
  | 0, _ => []
  | k + 1, v => be k (v / 256) ++ [UInt8.ofNat v]
def form (v : Nat) : List UInt8 := UInt8.ofNat (nby v) :: be (nby v) v
def dec (bs : List UInt8) : Nat := bs.foldl (fun v b => v * 256 + b.toNat) 0

theorem nby_zero : nby 0 = 0 := by unfold nby; simp
theorem nby_pos {v : Nat} (h : v ≠ 0) : nby v = nby (v / 256) + 1 := by rw [nby]; simp [h]
theorem be_length (k v : Nat) : (be k v).length = k := by
  induction k generalizing v with
  | zero => rfl
  | succ k ih => simp [be, ih]
theorem nby_le : ∀ (k v : Nat), v < 256 ^ k → nby v ≤ k := by
  intro k
  induction k with
  | zero => intro v h; have : v = 0 := by simpa using h
            subst this; rw [nby_zero]; omega
  | succ k ih =>
    intro v h
    by_cases h0 : v = 0
    · subst h0; rw [nby_zero]; omega
    · rw [nby_pos h0]
      have := ih (v / 256) (by rw [Nat.pow_succ] at h; omega)
      omega
theorem lt_nby (v : Nat) : v < 256 ^ nby v := by
  induction v using Nat.strongRecOn with
  | _ v ih =>
    by_cases h0 : v = 0
    · subst h0; rw [nby_zero]; omega
    · rw [nby_pos h0, Nat.pow_succ]
      have := ih (v / 256) (by omega)
      omega
theorem nby_lt {k v : Nat} (h : k < nby v) : 256 ^ k ≤ v := by
  rcases Nat.lt_or_ge v (256 ^ k) with h' | h'
  · have := nby_le k v h'; omega
  · exact h'
theorem dec_append (a b : List UInt8) : dec (a ++ b) = b.foldl (fun v b => v * 256 + b.toNat) (dec a) := List.foldl_append
theorem dec_snoc (a : List UInt8) (x : UInt8) : dec (a ++ [x]) = dec a * 256 + x.toNat := by rw [dec_append]; rfl
theorem dec_be (k v : Nat) : dec (be k v) = v % 256 ^ k := by
  induction k generalizing v with
  | zero => rw [Nat.pow_zero, Nat.mod_one]; rfl
  | succ k ih =>
    rw [be, dec_snoc, ih, Nat.pow_succ, show (UInt8.ofNat v).toNat = v % 256 from rfl]
    rw [Nat.mul_comm (256 ^ k), Nat.mod_mul]
    omega
theorem dec_form (v : Nat) : dec (be (nby v) v) = v := by rw [dec_be, Nat.mod_eq_of_lt (lt_nby v)]
/-- the byte at a place of 'be' -/
theorem be_get (k v i : Nat) (h : i < k) : (be k v).getD i 0 = UInt8.ofNat (v / 256 ^ (k - 1 - i)) := by
  induction k generalizing v with
  | zero => omega
  | succ k ih =>
    rw [be, List.getD_eq_getElem?_getD]
    rcases Nat.lt_or_ge i k with h' | h'
    · rw [List.getElem?_append_left (by rw [be_length]; exact h'), ← List.getD_eq_getElem?_getD, ih _ h', Nat.div_div_eq_div_mul]
      have : 256 * 256 ^ (k - 1 - i) = 256 ^ (k + 1 - 1 - i) := by
        rw [show k + 1 - 1 - i = (k - 1 - i) + 1 by omega, Nat.pow_succ, Nat.mul_comm]
      rw [this]
    · have : i = k := by omega
      subst this
      rw [List.getElem?_append_right (by rw [be_length]; omega), be_length]
      simp
theorem be_head_ne {v : Nat} (h : v ≠ 0) : (be (nby v) v).getD 0 0 ≠ 0 := by
  have hp : 0 < nby v := by rw [nby_pos h]; omega
  rw [be_get _ _ _ hp]
  have h1 := lt_nby v
  have h2 : 256 ^ (nby v - 1) ≤ v := nby_lt (by omega)
  rw [show nby v - 1 - 0 = nby v - 1 by omega]
  have h3 : 0 < v / 256 ^ (nby v - 1) := Nat.div_pos h2 (Nat.pow_pos (by omega))
  have h4 : v / 256 ^ (nby v - 1) < 256 := by
    rw [Nat.div_lt_iff_lt_mul (Nat.pow_pos (by omega)), Nat.mul_comm, ← Nat.pow_succ, Nat.succ_eq_add_one, show nby v - 1 + 1 = nby v by omega]
    exact h1
  intro e
  have := congrArg UInt8.toNat e
  rw [show (UInt8.ofNat (v / 256 ^ (nby v - 1))).toNat = (v / 256 ^ (nby v - 1)) % 256 from rfl, Nat.mod_eq_of_lt h4] at this
  have h0 : (0 : UInt8).toNat = 0 := rfl
  omega
/-- reading: an error's number (10: short, 12: form), or the number and how many bytes it took -/
def num (bs : List UInt8) : Nat × Nat × Nat :=
  match bs with
  | [] => (0, 0, 10)
  | k :: r => if 8 < k.toNat then (0, 0, 12) else if r.length < k.toNat then (0, 0, 10) else if 0 < k.toNat ∧ r.getD 0 0 = 0 then (0, 0, 12) else (dec (r.take k.toNat), 1 + k.toNat, 0)
theorem nby_le8 {v : Nat} (h : v < 18446744073709551616) : nby v ≤ 8 := nby_le 8 v (by simpa using h)
theorem nby_toNat {v : Nat} (h : v < 18446744073709551616) : (UInt8.ofNat (nby v)).toNat = nby v := by
  have := nby_le8 h
  rw [show (UInt8.ofNat (nby v)).toNat = nby v % 256 from rfl]; omega
theorem form_length (v : Nat) : (form v).length = nby v + 1 := by simp [form, be_length]
theorem num_form {v : Nat} (h : v < 18446744073709551616) (t : List UInt8) : num (form v ++ t) = (v, (form v).length, 0) := by
  have h8 := nby_le8 h
  have ht := nby_toNat h
  show num (UInt8.ofNat (nby v) :: (be (nby v) v ++ t)) = _
  unfold num
  simp only [ht]
  rw [if_neg (by omega), if_neg (by simp [be_length]), if_neg]
  · rw [List.take_left' (by rw [be_length]), dec_form, form_length, Nat.add_comm]
  · rintro ⟨h1, h2⟩
    by_cases h0 : v = 0
    · subst h0; rw [nby_zero] at h1; omega
    · apply be_head_ne h0
      rw [List.getD_eq_getElem?_getD, List.getElem?_append_left (by rw [be_length]; exact h1)] at h2
      rw [List.getD_eq_getElem?_getD]; exact h2
theorem dec_lt (bs : List UInt8) : dec bs < 256 ^ bs.length := by
  have key : ∀ (bs : List UInt8) (a n : Nat), a < 256 ^ n → bs.foldl (fun v b => v * 256 + b.toNat) a < 256 ^ (n + bs.length) := by
    intro bs
    induction bs with
    | nil => intro a n h; exact h
    | cons b bs ih =>
      intro a n h
      have hb := b.toNat_lt
      have := ih (a * 256 + b.toNat) (n + 1) (by rw [Nat.pow_succ]; omega)
      rw [List.length_cons, show n + (bs.length + 1) = n + 1 + bs.length by omega]
      exact this
  have := key bs 0 0 (by simp)
  simpa [dec] using this
theorem be_dec (bs : List UInt8) : be bs.length (dec bs) = bs := by
  have key : ∀ n (bs : List UInt8), bs.length = n → be n (dec bs) = bs := by
    intro n
    induction n with
    | zero => intro bs h; have : bs = [] := List.eq_nil_of_length_eq_zero h
              subst this; rfl
    | succ n ih =>
      intro bs h
      rcases List.eq_nil_or_concat bs with rfl | ⟨l, x, rfl⟩
      · simp at h
      · rw [List.concat_eq_append] at *
        have hl : l.length = n := by simpa using h
        have hx := x.toNat_lt
        rw [dec_snoc, be, show (dec l * 256 + x.toNat) / 256 = dec l by omega, ih l hl]
        congr 2
        have : UInt8.ofNat (dec l * 256 + x.toNat) = UInt8.ofNat x.toNat := by
          apply UInt8.toNat.inj
          show (dec l * 256 + x.toNat) % 256 = x.toNat % 256
          omega
        rw [this]; simp
  exact key _ bs rfl
theorem dec_cons (b : UInt8) (bs : List UInt8) : dec (b :: bs) = b.toNat * 256 ^ bs.length + dec bs := by
  have key : ∀ (bs : List UInt8) (a : Nat), bs.foldl (fun v b => v * 256 + b.toNat) a = a * 256 ^ bs.length + dec bs := by
    intro bs
    induction bs with
    | nil => intro a; simp [dec]
    | cons c bs ih =>
      intro a
      show bs.foldl _ (a * 256 + c.toNat) = _
      rw [ih]
      have h2 : dec (c :: bs) = bs.foldl (fun v b => v * 256 + b.toNat) (0 * 256 + c.toNat) := rfl
      rw [h2, ih, List.length_cons, Nat.pow_succ, Nat.zero_mul, Nat.zero_add, Nat.add_mul, Nat.mul_assoc, Nat.mul_comm 256]
      omega
  have := key bs b.toNat
  show bs.foldl _ (0 * 256 + b.toNat) = _
  rw [Nat.zero_mul, Nat.zero_add]; exact this
theorem nby_dec {bs : List UInt8} (h : bs = [] ∨ bs.getD 0 0 ≠ 0) : nby (dec bs) = bs.length := by
  apply Nat.le_antisymm
  · exact nby_le _ _ (dec_lt bs)
  · cases bs with
    | nil => simp
    | cons b bs =>
      have hb : b ≠ 0 := by simpa using h
      have hb' : b.toNat ≠ 0 := fun e => hb (UInt8.toNat.inj e)
      rcases Nat.lt_or_ge (nby (dec (b :: bs))) (b :: bs).length with hh | hh
      · exfalso
        have h1 := lt_nby (dec (b :: bs))
        have h2 : (256 : Nat) ^ nby (dec (b :: bs)) ≤ 256 ^ bs.length := Nat.pow_le_pow_right (by omega) (by simp at hh; omega)
        rw [dec_cons] at h1 h2
        have h3 : 1 * 256 ^ bs.length ≤ b.toNat * 256 ^ bs.length := Nat.mul_le_mul_right _ (by omega)
        omega
      · exact hh
/-- what is read is the one form -/
theorem num_ok {bs : List UInt8} {v n : Nat} (h : num bs = (v, n, 0)) : bs.take n = form v ∧ n ≤ bs.length ∧ n ≤ 9 ∧ 0 < n ∧ v < 18446744073709551616 := by
  cases bs with
  | nil => simp [num] at h
  | cons k r =>
    unfold num at h
    simp only at h
    split at h
    · simp at h
    · rename_i h8
      split at h
      · simp at h
      · rename_i hl
        split at h
        · simp at h
        · rename_i hz
          simp only [Prod.mk.injEq, and_true] at h
          obtain ⟨rfl, rfl⟩ := h
          have hlen : (r.take k.toNat).length = k.toNat := by rw [List.length_take]; omega
          have hn : nby (dec (r.take k.toNat)) = k.toNat := by
            rw [nby_dec, hlen]
            by_cases h0 : k.toNat = 0
            · left; rw [h0]; rfl
            · right
              intro e
              apply hz
              refine ⟨by omega, ?_⟩
              rw [List.getD_eq_getElem?_getD, List.getElem?_take_of_lt (by omega)] at e
              rw [List.getD_eq_getElem?_getD]; exact e
          refine ⟨?_, by simp; omega, by omega, by omega, ?_⟩
          · unfold form
            rw [hn, Nat.add_comm, List.take_succ_cons]
            have hb := be_dec (r.take k.toNat)
            rw [hlen] at hb
            rw [hb]; simp
          · have h1 := dec_lt (r.take k.toNat)
            rw [hlen] at h1
            have h2 : (256 : Nat) ^ k.toNat ≤ 256 ^ 8 := Nat.pow_le_pow_right (by omega) (by omega)
            have h3 : (256 : Nat) ^ 8 = 18446744073709551616 := by decide
            omega
/-- no shorter piece is a number -/
theorem num_short {bs : List UInt8} {v n k : Nat} (h : num bs = (v, n, 0)) (hk : k < n) : num (bs.take k) = (0, 0, 10) := by
  cases bs with
  | nil => simp [num] at h
  | cons c r =>
    cases k with
    | zero => rfl
    | succ k =>
      have hn := num_ok h
      have hn1 : n = 1 + c.toNat := by
        unfold num at h
        simp only at h
        split at h
        · simp at h
        · split at h
          · simp at h
          · split at h
            · simp at h
            · simp only [Prod.mk.injEq, and_true] at h; exact h.2.symm
      have h8 : ¬ 8 < c.toNat := by omega
      rw [List.take_succ_cons]
      unfold num
      simp only
      rw [if_neg h8, if_pos]
      rw [List.length_take]; omega
theorem num_err {bs : List UInt8} {v n e : Nat} (h : num bs = (v, n, e)) (he : e ≠ 0) : v = 0 ∧ n = 0 ∧ (e = 10 ∨ e = 12) := by
  cases bs with
  | nil => simp [num] at h; omega
  | cons k r =>
    unfold num at h
    simp only at h
    split at h
    · simp at h; omega
    · split at h
      · simp at h; omega
      · split at h
        · simp at h; omega
        · simp at h; omega
end Go.Proofs.YtkdikbenheagmaaDoor.Wire
