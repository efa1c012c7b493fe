/-
  The walks of wire.Writer's methods: Number, Int, Count, Text, Bytes.
-/
import Derived.Test.YtkdikbenheagmaaDoorWriter
import Derived.Lib.AppendStr
set_option linter.unusedVariables false
set_option linter.unusedSimpArgs false
namespace Go.Proofs.YtkdikbenheagmaaDoor
open Go.RowKit

/-! ### what a writer does, without memory: what was laid down, the error -/
abbrev WS := List UInt8 × Int
def wNum (s : WS) (v : Nat) : WS := if s.2 = 0 then (s.1 ++ Wire.form v, 0) else s
def wInt (s : WS) (n : Int) : WS := if s.2 = 0 then (if n < 0 then (s.1, 3) else (s.1 ++ Wire.form n.toNat, 0)) else s
def wCount (s : WS) (n most : Int) : WS := if s.2 = 0 then (if n < 0 ∨ most < 0 then (s.1, 3) else if most < n then (s.1, 11) else (s.1 ++ Wire.form n.toNat, 0)) else s
def wText (s : WS) (t : List UInt8) (most : Int) : WS := if (wCount s t.length most).2 = 0 then ((wCount s t.length most).1 ++ t, 0) else wCount s t.length most
/-- A writer at block p in this state. -/
def WAt (w : World) (p : Nat) (s : WS) : Prop := ∃ A c, Wr w p A c s.1 s.2
/-- What a call on it leaves. -/
def Wrote (p : Nat) (s : WS) (w : World) (e : Ending) (w' : World) : Prop := e = .returned (.tuple #[]) ∧ Below p w w' ∧ WAt w' p s

theorem wfail_any (p : Nat) (e : Int) (s : WS) (w : World) (h : WAt w p s) :
    Calls Tryd.prog 60 #[.pointer (some ⟨p, 0, none⟩), .int .i64 e] w (Wrote p (s.1, e) w) := by
  obtain ⟨A, c, h⟩ := h
  have hb := h.buf
  have he := h.err
  have h1 := h.f1
  have H := Lib.hid h
  clear h
  go_enter Tryd.func60, Tryd.ntmps60
  go_wp2
  go_end0
  refine ⟨rfl, Below.setCell (Below.refl p w) (p := ⟨p, 1, none⟩) (Nat.le_refl p) _, A, c, ?_, ?_, ?_, ?_, ?_⟩
  · rw [World.cell?_setCell_other _ _ _ _ (by simp)]; exact H.out.buf
  · exact ownsRow_setCell_below H.out.own (by show p < p + 1; omega) _
  · exact World.cell?_setCell_same _ _ _ H.out.err
  · rw [World.frozen?_setCell]; exact H.out.f0
  · rw [World.frozen?_setCell]; exact H.out.f1

theorem number_any (p : Nat) (v : Nat) (hv : v < 18446744073709551616) (s : WS) (w : World) (h : WAt w p s) (hb : s.1.length + 9 ≤ 140737488355328) :
    Calls Tryd.prog 32 #[.pointer (some ⟨p, 0, none⟩), .int .u64 v] w (Wrote p (wNum s v) w) := by
  obtain ⟨A, c, h⟩ := h
  have HV := Lib.hid hv
  have H := Lib.hid h
  clear h hv
  by_cases he : s.2 = 0
  · have he' := Lib.hid he
    have HE : wNum s v = (s.1 ++ Wire.form v, 0) := by unfold wNum; rw [if_pos he]
    rw [HE]
    rw [he] at H
    clear HE he
    go_enter Tryd.func32, Tryd.ntmps32
    go_wp2_with fail
    refine (open_yes p w H.out.err).mono ?_
    rintro e w' ⟨rfl, rfl⟩
    go_wp2_with fail
    refine (put_any p v HV.out A c s.1 w H.out hb).mono ?_
    rintro e w' ⟨rfl, h1, h2⟩
    have h1 := Lib.hid h1
    have h2 := Lib.hid h2
    go_wp2
    go_end0
    exact ⟨rfl, h1.out, h2.out⟩
  · have HE : wNum s v = s := by unfold wNum; rw [if_neg he]
    rw [HE]
    go_enter Tryd.func32, Tryd.ntmps32
    go_wp2_with fail
    refine (open_no p w _ H.out.err (beq_eq_false_iff_ne.2 he)).mono ?_
    rintro e w' ⟨rfl, rfl⟩
    go_wp2
    go_end0
    exact ⟨rfl, Below.refl _ _, A, c, H.out⟩
theorem number_nil (v : Int) (w : World) : Calls Tryd.prog 32 #[.pointer none, .int .u64 v] w fun e w' => e = .returned (.tuple #[]) ∧ w = w' := by
  go_enter Tryd.func32, Tryd.ntmps32
  go_wp2_with fail
  refine (open_nil w).mono ?_
  rintro e w' ⟨rfl, rfl⟩
  go_wp2
  go_end0
  exact ⟨rfl, rfl⟩

theorem int_any (p : Nat) (n : Int) (hn : -9223372036854775808 ≤ n ∧ n ≤ 9223372036854775807) (s : WS) (w : World) (h : WAt w p s) (hb : s.1.length + 9 ≤ 140737488355328) :
    Calls Tryd.prog 41 #[.pointer (some ⟨p, 0, none⟩), .int .i64 n] w (Wrote p (wInt s n) w) := by
  obtain ⟨A, c, h⟩ := h
  have HN := Lib.hid hn
  have H := Lib.hid h
  clear h hn
  by_cases he : s.2 = 0
  · rw [he] at H
    by_cases h0 : n < 0
    · have HE : wInt s n = (s.1, 3) := by unfold wInt; rw [if_pos he, if_pos h0]
      have HA : Hid (WAt w p s) := ⟨A, c, by rw [he]; exact H.out⟩
      rw [HE]
      clear HE he
      go_enter Tryd.func41, Tryd.ntmps41
      go_wp2_with fail
      refine (open_yes p w H.out.err).mono ?_
      rintro e w' ⟨rfl, rfl⟩
      go_wp2_with fail
      refine (wfail_any p 3 s w HA.out).mono ?_
      rintro e w' ⟨rfl, h1, h2⟩
      have h1 := Lib.hid h1
      have h2 := Lib.hid h2
      go_wp2
      go_end0
      exact ⟨rfl, h1.out, h2.out⟩
    · have HE : wInt s n = (s.1 ++ Wire.form n.toNat, 0) := by unfold wInt; rw [if_pos he, if_neg h0]
      rw [HE]
      clear HE he
      obtain ⟨m, rfl⟩ := Int.eq_ofNat_of_zero_le (show 0 ≤ n by omega)
      have hm : m < 18446744073709551616 := by have := HN.out; omega
      rw [Int.toNat_natCast]
      have HM := Lib.hid hm
      have hm2 : (m : Int) ≤ 9223372036854775807 := HN.out.2
      clear hm
      go_enter Tryd.func41, Tryd.ntmps41
      go_wp2_with fail
      refine (open_yes p w H.out.err).mono ?_
      rintro e w' ⟨rfl, rfl⟩
      go_wp2_with fail
      refine (put_any p m HM.out A c s.1 w H.out hb).mono ?_
      rintro e w' ⟨rfl, h1, h2⟩
      have h1 := Lib.hid h1
      have h2 := Lib.hid h2
      go_wp2
      go_end0
      exact ⟨rfl, h1.out, h2.out⟩
  · have HE : wInt s n = s := by unfold wInt; rw [if_neg he]
    rw [HE]
    go_enter Tryd.func41, Tryd.ntmps41
    go_wp2_with fail
    refine (open_no p w _ H.out.err (beq_eq_false_iff_ne.2 he)).mono ?_
    rintro e w' ⟨rfl, rfl⟩
    go_wp2
    go_end0
    exact ⟨rfl, Below.refl _ _, A, c, H.out⟩
theorem int_nil (v : Int) (w : World) : Calls Tryd.prog 41 #[.pointer none, .int .i64 v] w fun e w' => e = .returned (.tuple #[]) ∧ w = w' := by
  go_enter Tryd.func41, Tryd.ntmps41
  go_wp2_with fail
  refine (open_nil w).mono ?_
  rintro e w' ⟨rfl, rfl⟩
  go_wp2
  go_end0
  exact ⟨rfl, rfl⟩

theorem count_any (p : Nat) (n most : Int) (hn : -9223372036854775808 ≤ n ∧ n ≤ 9223372036854775807) (s : WS) (w : World) (h : WAt w p s) (hb : s.1.length + 9 ≤ 140737488355328) :
    Calls Tryd.prog 42 #[.pointer (some ⟨p, 0, none⟩), .int .i64 n, .int .i64 most] w (Wrote p (wCount s n most) w) := by
  obtain ⟨A, c, h⟩ := h
  have HN := Lib.hid hn
  have H := Lib.hid h
  clear h hn
  by_cases he : s.2 = 0
  · have HA : Hid (WAt w p s) := ⟨A, c, H.out⟩
    rw [he] at H
    by_cases h0 : n < 0 ∨ most < 0
    · have HE : wCount s n most = (s.1, 3) := by unfold wCount; rw [if_pos he, if_pos h0]
      rw [HE]
      clear HE he
      by_cases h1 : n < 0
      all_goals
        have h2 : n < 0 ∨ most < 0 := h0
        clear h0
        try (have h3 : most < 0 := by omega)
        try clear h2
        go_enter Tryd.func42, Tryd.ntmps42
        go_wp2_with fail
        refine (open_yes p w H.out.err).mono ?_
        rintro e w' ⟨rfl, rfl⟩
        go_wp2_with fail
        refine (wfail_any p 3 s w HA.out).mono ?_
        rintro e w' ⟨rfl, h1, h2⟩
        have h1 := Lib.hid h1
        have h2 := Lib.hid h2
        go_wp2
        go_end0
        exact ⟨rfl, h1.out, h2.out⟩
    · have hn0 : 0 ≤ n := by omega
      have hm0 : 0 ≤ most := by omega
      by_cases h1 : most < n
      · have HE : wCount s n most = (s.1, 11) := by unfold wCount; rw [if_pos he, if_neg h0, if_pos h1]
        rw [HE]
        clear HE he h0
        go_enter Tryd.func42, Tryd.ntmps42
        go_wp2_with fail
        refine (open_yes p w H.out.err).mono ?_
        rintro e w' ⟨rfl, rfl⟩
        go_wp2_with fail
        refine (wfail_any p 11 s w HA.out).mono ?_
        rintro e w' ⟨rfl, h1, h2⟩
        have h1 := Lib.hid h1
        have h2 := Lib.hid h2
        go_wp2
        go_end0
        exact ⟨rfl, h1.out, h2.out⟩
      · have HE : wCount s n most = (s.1 ++ Wire.form n.toNat, 0) := by unfold wCount; rw [if_pos he, if_neg h0, if_neg h1]
        rw [HE]
        clear HE he h0
        obtain ⟨m, rfl⟩ := Int.eq_ofNat_of_zero_le hn0
        have hm : m < 18446744073709551616 := by have := HN.out; omega
        rw [Int.toNat_natCast]
        have HM := Lib.hid hm
        have hm2 : (m : Int) ≤ 9223372036854775807 := HN.out.2
        clear hm
        go_enter Tryd.func42, Tryd.ntmps42
        go_wp2_with fail
        refine (open_yes p w H.out.err).mono ?_
        rintro e w' ⟨rfl, rfl⟩
        go_wp2_with fail
        refine (put_any p m HM.out A c s.1 w H.out hb).mono ?_
        rintro e w' ⟨rfl, h1, h2⟩
        have h1 := Lib.hid h1
        have h2 := Lib.hid h2
        go_wp2
        go_end0
        exact ⟨rfl, h1.out, h2.out⟩
  · have HE : wCount s n most = s := by unfold wCount; rw [if_neg he]
    rw [HE]
    go_enter Tryd.func42, Tryd.ntmps42
    go_wp2_with fail
    refine (open_no p w _ H.out.err (beq_eq_false_iff_ne.2 he)).mono ?_
    rintro e w' ⟨rfl, rfl⟩
    go_wp2
    go_end0
    exact ⟨rfl, Below.refl _ _, A, c, H.out⟩
theorem count_nil (v most : Int) (w : World) : Calls Tryd.prog 42 #[.pointer none, .int .i64 v, .int .i64 most] w fun e w' => e = .returned (.tuple #[]) ∧ w = w' := by
  go_enter Tryd.func42, Tryd.ntmps42
  go_wp2_with fail
  refine (open_nil w).mono ?_
  rintro e w' ⟨rfl, rfl⟩
  go_wp2
  go_end0
  exact ⟨rfl, rfl⟩
theorem text_nil (s : ByteArray) (most : Int) (w : World) : Calls Tryd.prog 43 #[.pointer none, .string s, .int .i64 most] w fun e w' => e = .returned (.tuple #[]) ∧ w = w' := by
  go_enter Tryd.func43, Tryd.ntmps43
  go_wp2_with fail
  refine (count_nil _ _ w).mono ?_
  rintro e w' ⟨rfl, rfl⟩
  go_wp2_with fail
  refine (open_nil w).mono ?_
  rintro e w' ⟨rfl, rfl⟩
  go_wp2
  go_end0
  exact ⟨rfl, rfl⟩

theorem wCount_len (s : WS) (n most : Int) (hn : n ≤ 9223372036854775807) : (wCount s n most).1.length ≤ s.1.length + 9 := by
  unfold wCount
  split
  · split
    · simp
    · split
      · simp
      · rename_i h _
        rw [List.length_append, Wire.form_length]
        have := Wire.nby_le8 (v := n.toNat) (by omega)
        omega
  · simp
theorem strCells_Bv (s : ByteArray) : Lib.strCells s = Bv s.data.toList := rfl

set_option maxHeartbeats 400000 in
theorem text_any (p : Nat) (t : ByteArray) (most : Int) (ht : t.size ≤ 140737488355328) (s : WS) (w : World) (h : WAt w p s) (hb : s.1.length + 9 + t.size ≤ 140737488355328) :
    Calls Tryd.prog 43 #[.pointer (some ⟨p, 0, none⟩), .string t, .int .i64 most] w (Wrote p (wText s t.data.toList most) w) := by
  obtain ⟨i0, hi, hz0, hz1, hz2⟩ := info_parts info_u8
  have H := Lib.hid h
  have HI := Lib.hid hi
  have HZ0 := Lib.hid hz0
  have HZ1 := Lib.hid hz1
  have HZ2 := Lib.hid hz2
  clear h hi hz0 hz1 hz2
  have hl : t.data.toList.length = t.size := by rw [Array.length_toList]; rfl
  have hlen := wCount_len s t.size most (by omega)
  have hT : wText s t.data.toList most = if (wCount s t.size most).2 = 0 then ((wCount s t.size most).1 ++ t.data.toList, 0) else wCount s t.size most := by unfold wText; rw [hl]
  have HL := Lib.hid hl
  clear hl
  generalize hs1 : wCount s (t.size : Int) most = s1 at hT hlen
  have HS1 := Lib.hid hs1
  clear hs1
  by_cases he : s1.2 = 0
  · rw [if_pos he] at hT
    rw [hT]
    clear hT
    have HE := Lib.hid he
    clear he
    go_enter Tryd.func43, Tryd.ntmps43
    go_wp2_with fail
    refine (count_any p _ most (by omega) s w H.out (by omega)).mono ?_
    rintro e w1 ⟨rfl, h1, h2⟩
    rw [HS1.out] at h2
    obtain ⟨A, c, h2⟩ := h2
    have h1 := Lib.hid h1
    rw [HE.out] at h2
    have hbuf := h2.buf
    have hp : p < w1.heap.size := World.block_lt_of_cell? w1 _ hbuf
    have hown := Lib.hid h2.own
    have H2 := Lib.hid h2
    clear h2
    go_wp2_with fail
    refine (open_yes p w1 H2.out.err).mono ?_
    rintro e w' ⟨rfl, rfl⟩
    have b1 : s1.1.length + t.size ≤ maxLen := by simp only [maxLen]; omega
    have b2 : s1.1.length + t.size ≤ 140737488355328 := by omega
    go_wp2_with (at_builtin; refine Lib.wpList_append_own_string _ rfl (.tmp 17) (.tmp 18) 22 9 rfl (p + 1) 5 i0 Tryd.underlying22 Tryd.underlying9 HI.out HZ0.out HZ1.out HZ2.out _ _ _ rfl hown.out t rfl b1 b2 hp ?_)
    intro v' w2 hown2 hgrow2 _
    have hex := own_shape hown2
    obtain ⟨A', c', hv, _, _, _⟩ := hex
    rw [hv] at hown2 ⊢
    have R := H2.out.stands (World.grownBy.refl _ _) hgrow2
    have S := Lib.hid (Wr.stored (ys := t.data.toList) (by rw [List.length_append, HL.out]) R hown2)
    obtain ⟨r0, _, r2, _, _, _⟩ := R
    clear hgrow2 hown2 hbuf
    go_wp2
    go_end0
    exact ⟨rfl, h1.out.trans S.out.2, A', c', S.out.1⟩
  · rw [if_neg he] at hT
    rw [hT]
    clear hT
    have HE := Lib.hid he
    clear he
    go_enter Tryd.func43, Tryd.ntmps43
    go_wp2_with fail
    refine (count_any p _ most (by omega) s w H.out (by omega)).mono ?_
    rintro e w1 ⟨rfl, h1, h2⟩
    rw [HS1.out] at h2
    obtain ⟨A, c, h2⟩ := h2
    have h1 := Lib.hid h1
    have H2 := Lib.hid h2
    clear h2
    go_wp2_with fail
    refine (open_no p w1 _ H2.out.err (beq_eq_false_iff_ne.2 HE.out)).mono ?_
    rintro e w' ⟨rfl, rfl⟩
    go_wp2
    go_end0
    exact ⟨rfl, h1.out, A, c, H2.out⟩

/-- Writer.Bytes: new memory that reads as what was laid down; or the error. -/
def Told (E : TypeId) (w : World) (e : Ending) (w' : World) (bs : List UInt8) (err : Int) : Prop :=
  ∃ A c, e = .returned (.tuple #[.slice A bs.length c, .int .i64 err]) ∧ Below w.heap.size w w' ∧ w'.ownsRow w.heap.size E 1 (.slice A bs.length c) bs.length (Bv bs)
theorem Told.mk {E : TypeId} {w w' : World} {bs : List UInt8} {err : Int} {v : Value} (hb : Below w.heap.size w w') (h : w'.ownsRow w.heap.size E 1 v bs.length (Bv bs)) : Told E w (.returned (.tuple #[v, .int .i64 err])) w' bs err := by
  obtain ⟨A, c, rfl, _⟩ := own_shape h
  exact ⟨A, c, rfl, hb, h⟩
set_option maxHeartbeats 400000 in
theorem bytes_any (p : Nat) (s : WS) (w : World) (h : WAt w p s) (hb : s.1.length ≤ 140737488355328) :
    Calls Tryd.prog 25 #[.pointer (some ⟨p, 0, none⟩)] w fun e w' => Told 5 w e w' (if s.2 = 0 then s.1 else []) s.2 := by
  obtain ⟨A, c, h⟩ := h
  have hbuf := h.buf
  have herr := h.err
  have HR := Lib.hid (own_rd h.own)
  have hshape := own_shape h.own
  by_cases he : s.2 = 0
  · rw [if_pos he]
    rw [he] at herr ⊢
    have hA : Hid (A = none → s.1.length = 0 ∧ c = 0) := by
      obtain ⟨A', c', e, _, hn, _⟩ := hshape
      cases e
      exact hn
    clear he hshape h
    have b1 : 0 + s.1.length ≤ maxLen := by simp only [maxLen]; omega
    have b2 : (0 + s.1.length) * 1 ≤ 140737488355328 := by omega
    go_enter Tryd.func25, Tryd.ntmps25
    go_wp2_with (at_builtin; refine wpList_app rfl (.const (.slice none 0 0)) (.tmp 18) rfl eltByte w.heap.size _ _ [] rfl (World.ownsRow_nil _ _ _ _) A _ _ (Bv s.1) rfl HR.out.lenBv hA.out HR.out.news (Bv_one _) b1 b2 (Nat.le_refl _) ?_)
    intro A' c' w1 hown hgrow _
    try simp only [Nat.zero_add, List.nil_append] at hown
    have HO := Lib.hid hown
    have HG : Hid (Below w.heap.size w w1) := (Below.refl _ _).grown hgrow (Nat.le_refl _) (by intro k hk; cases hk)
    clear hown hgrow
    go_wp2
    go_ret2
    exact Told.mk HG.out HO.out
  · rw [if_neg he]
    have hne : (s.2 != 0) = true := bne_iff_ne.2 he
    clear hshape h hbuf
    go_enter Tryd.func25, Tryd.ntmps25
    go_wp2
    go_quiet (fail)
    go_wp2
    go_ret2
    exact Told.mk (Below.drewN (Below.refl _ _) _) (World.ownsRow_nil _ _ _ _)
theorem bytes_nil (w : World) : Calls Tryd.prog 25 #[.pointer none] w fun e w' => Told 5 w e w' [] 4 := by
  go_enter Tryd.func25, Tryd.ntmps25
  go_wp2
  go_ret2
  exact Told.mk (Below.refl _ _) (World.ownsRow_nil _ _ _ _)
end Go.Proofs.YtkdikbenheagmaaDoor
