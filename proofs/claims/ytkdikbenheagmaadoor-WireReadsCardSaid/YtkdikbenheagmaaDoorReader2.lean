/-
  The walks of wire.Reader's methods: Number, Int, Count, Text, At, Left, End, and NewReader.
-/
import Derived.Test.YtkdikbenheagmaaDoorReader
set_option linter.unusedVariables false
set_option linter.unusedSimpArgs false
namespace Go.Proofs.YtkdikbenheagmaaDoor
open Go.RowKit

/-! ### what a reader does, without memory: how far it is, its error -/
abbrev RS := Nat × Int
def rNum (bs : List UInt8) (s : RS) : Nat × RS :=
  if s.2 = 0 then (if (Wire.num (bs.drop s.1)).2.2 = 0 then ((Wire.num (bs.drop s.1)).1, (s.1 + (Wire.num (bs.drop s.1)).2.1, 0)) else (0, (s.1, ((Wire.num (bs.drop s.1)).2.2 : Nat)))) else (0, s)
def rInt (bs : List UInt8) (s : RS) (most : Int) : Nat × RS :=
  if s.2 = 0 then (if most < 0 then (0, (s.1, 3)) else if (Wire.num (bs.drop s.1)).2.2 = 0 then (if most < ((Wire.num (bs.drop s.1)).1 : Int) then (0, (s.1, 11)) else ((Wire.num (bs.drop s.1)).1, (s.1 + (Wire.num (bs.drop s.1)).2.1, 0))) else (0, (s.1, ((Wire.num (bs.drop s.1)).2.2 : Nat)))) else (0, s)
def rText (bs : List UInt8) (s : RS) (most : Int) : List UInt8 × RS :=
  if s.2 = 0 then (if (rInt bs s most).2.2 = 0 then (if bs.length - (rInt bs s most).2.1 < (rInt bs s most).1 then ([], (s.1, 10)) else ((bs.drop (rInt bs s most).2.1).take (rInt bs s most).1, ((rInt bs s most).2.1 + (rInt bs s most).1, 0))) else ([], (rInt bs s most).2)) else ([], s)
def rEnd (bs : List UInt8) (s : RS) : Int := if s.2 = 0 then (if s.1 < bs.length then 15 else 0) else s.2
theorem num_lt (bs : List UInt8) : (Wire.num bs).1 < 18446744073709551616 ∧ (Wire.num bs).2.1 ≤ bs.length := by
  rcases h : Wire.num bs with ⟨v, n, e⟩
  by_cases he : e = 0
  · subst he
    have := Wire.num_ok h
    exact ⟨this.2.2.2.2, this.2.1⟩
  · have := Wire.num_err h he
    simp only [this.1, this.2.1]
    omega

/-- What a call on a reader leaves: the reader in another state, all else as it was. -/
def Read1 (p : Nat) (A : Option Addr) (c : Nat) (bs : List UInt8) (s : RS) (w w' : World) : Prop := Rr w' p A c bs s.1 s.2 ∧ w.grownBy w' (some p)

set_option maxRecDepth 100000 in
set_option maxHeartbeats 400000 in
theorem rnumber_any (p : Nat) (A : Option Addr) (c : Nat) (bs : List UInt8) (s : RS) (w : World) (h : Rr w p A c bs s.1 s.2) :
    Calls Tryd.prog 29 #[.pointer (some ⟨p, 0, none⟩)] w fun e w' => e = .returned (.int .u64 ((rNum bs s).1 : Nat)) ∧ Read1 p A c bs (rNum bs s).2 w w' := by
  have H := Lib.hid h
  clear h
  by_cases he : s.2 = 0
  · have F := get_any p A c bs s.1 s.2 w H.out
    have HN := num_lt (bs.drop s.1)
    have HL := H.out.le
    rw [List.length_drop] at HN
    rw [he] at H
    rcases hr : Wire.num (bs.drop s.1) with ⟨v, n, e⟩
    rw [hr] at F HN
    simp only at F HN
    by_cases he2 : e = 0
    · have HE : rNum bs s = (v, (s.1 + n, 0)) := by unfold rNum; rw [if_pos he, hr]; simp only; rw [if_pos he2]
      rw [HE]
      subst he2
      simp only [if_true] at F
      have F := Lib.hid F
      have HV := Lib.hid HN
      have h1 := H.out.pos
      have h2 := H.out.f1
      clear HE he hr HN
      go_enter Tryd.func29, Tryd.ntmps29
      go_wp2_with fail
      refine (ropen_yes p w H.out.made H.out.err).mono ?_
      rintro e w' ⟨rfl, rfl⟩
      go_wp2_with fail
      refine F.out.mono ?_
      rintro e w' ⟨rfl, m, rfl⟩
      go_wp2
      go_ret
      exact ⟨rfl, (H.out.drewN m).setPos (by have := HV.out; omega), (grown_drewN (World.grownBy.refl _ _) m).trans (grown_setCell _ ⟨p, 1, none⟩ _)⟩
    · have HE : rNum bs s = (0, (s.1, (e : Int))) := by unfold rNum; rw [if_pos he, hr]; simp only; rw [if_neg he2]
      rw [HE]
      simp only [if_neg he2] at F
      have F := Lib.hid F
      have hne : ((e : Int) != 0) = true := bne_iff_ne.2 (by omega)
      have h1 := H.out.err
      have h2 := H.out.f2
      clear HE he hr HN
      go_enter Tryd.func29, Tryd.ntmps29
      go_wp2_with fail
      refine (ropen_yes p w H.out.made H.out.err).mono ?_
      rintro e w' ⟨rfl, rfl⟩
      go_wp2_with fail
      refine F.out.mono ?_
      rintro e w' ⟨rfl, m, rfl⟩
      go_wp2
      go_ret
      exact ⟨rfl, (H.out.drewN m).setErr _, (grown_drewN (World.grownBy.refl _ _) m).trans (grown_setCell _ ⟨p, 2, none⟩ _)⟩
  · have HE : rNum bs s = (0, s) := by unfold rNum; rw [if_neg he]
    rw [HE]
    go_enter Tryd.func29, Tryd.ntmps29
    go_wp2_with fail
    refine (ropen_no p w _ H.out.made H.out.err (beq_eq_false_iff_ne.2 he)).mono ?_
    rintro e w' ⟨rfl, rfl⟩
    go_wp2
    go_ret
    exact ⟨rfl, H.out, World.grownBy.refl _ _⟩

set_option maxRecDepth 100000 in
set_option maxHeartbeats 400000 in
theorem rint_any (p : Nat) (A : Option Addr) (c : Nat) (bs : List UInt8) (s : RS) (most : Int) (hm : most ≤ 9223372036854775807) (w : World) (h : Rr w p A c bs s.1 s.2) :
    Calls Tryd.prog 34 #[.pointer (some ⟨p, 0, none⟩), .int .i64 most] w fun e w' => e = .returned (.int .i64 ((rInt bs s most).1 : Nat)) ∧ Read1 p A c bs (rInt bs s most).2 w w' := by
  have H := Lib.hid h
  clear h
  by_cases he : s.2 = 0
  · have F := get_any p A c bs s.1 s.2 w H.out
    have HN := num_lt (bs.drop s.1)
    have HL := H.out.le
    rw [List.length_drop] at HN
    rw [he] at H
    by_cases h0 : most < 0
    · have HE : rInt bs s most = (0, (s.1, 3)) := by unfold rInt; rw [if_pos he, if_pos h0]
      rw [HE]
      have h1 := H.out.err
      have h2 := H.out.f2
      clear HE he HN F
      go_enter Tryd.func34, Tryd.ntmps34
      go_wp2_with fail
      refine (ropen_yes p w H.out.made H.out.err).mono ?_
      rintro e w' ⟨rfl, rfl⟩
      go_wp2
      go_ret
      exact ⟨rfl, H.out.setErr _, grown_setCell _ ⟨p, 2, none⟩ _⟩
    · rcases hr : Wire.num (bs.drop s.1) with ⟨v, n, e⟩
      rw [hr] at F HN
      simp only at F HN
      by_cases he2 : e = 0
      · subst he2
        simp only [if_true] at F
        have F := Lib.hid F
        have HV := Lib.hid HN
        have e1 : ((most : Int) % 18446744073709551616) = most := by omega
        have hm0 : 0 ≤ most := by omega
        by_cases hlt : most < (v : Int)
        · have HE : rInt bs s most = (0, (s.1, 11)) := by unfold rInt; rw [if_pos he, if_neg h0, hr]; simp only; rw [if_pos trivial, if_pos hlt]
          rw [HE]
          have h1 := H.out.err
          have h2 := H.out.f2
          clear HE he hr HN h0 e1
          go_enter Tryd.func34, Tryd.ntmps34
          go_wp2_with fail
          refine (ropen_yes p w H.out.made H.out.err).mono ?_
          rintro e w' ⟨rfl, rfl⟩
          go_wp2_with fail
          refine F.out.mono ?_
          rintro e w' ⟨rfl, m, rfl⟩
          go_wp2
          go_ret
          exact ⟨rfl, (H.out.drewN m).setErr _, (grown_drewN (World.grownBy.refl _ _) m).trans (grown_setCell _ ⟨p, 2, none⟩ _)⟩
        · have HE : rInt bs s most = (v, (s.1 + n, 0)) := by unfold rInt; rw [if_pos he, if_neg h0, hr]; simp only; rw [if_pos trivial, if_neg hlt]
          rw [HE]
          have h1 := H.out.pos
          have h2 := H.out.f1
          have hv : (v : Int) ≤ most := by omega
          clear HE he hr HN h0 e1 hlt
          go_enter Tryd.func34, Tryd.ntmps34
          go_wp2_with fail
          refine (ropen_yes p w H.out.made H.out.err).mono ?_
          rintro e w' ⟨rfl, rfl⟩
          go_wp2_with fail
          refine F.out.mono ?_
          rintro e w' ⟨rfl, m, rfl⟩
          go_wp2
          go_ret
          exact ⟨rfl, (H.out.drewN m).setPos (by have := HV.out; omega), (grown_drewN (World.grownBy.refl _ _) m).trans (grown_setCell _ ⟨p, 1, none⟩ _)⟩
      · have HE : rInt bs s most = (0, (s.1, (e : Int))) := by unfold rInt; rw [if_pos he, if_neg h0, hr]; simp only; rw [if_neg he2]
        rw [HE]
        simp only [if_neg he2] at F
        have F := Lib.hid F
        have hne : ((e : Int) != 0) = true := bne_iff_ne.2 (by omega)
        have hne2 : ((e : Int) == 0) = false := beq_eq_false_iff_ne.2 (by omega)
        have h1 := H.out.err
        have h2 := H.out.f2
        clear HE he hr HN
        go_enter Tryd.func34, Tryd.ntmps34
        go_wp2_with fail
        refine (ropen_yes p w H.out.made H.out.err).mono ?_
        rintro e w' ⟨rfl, rfl⟩
        go_wp2_with fail
        refine F.out.mono ?_
        rintro e w' ⟨rfl, m, rfl⟩
        go_wp2
        go_ret
        exact ⟨rfl, (H.out.drewN m).setErr _, (grown_drewN (World.grownBy.refl _ _) m).trans (grown_setCell _ ⟨p, 2, none⟩ _)⟩
  · have HE : rInt bs s most = (0, s) := by unfold rInt; rw [if_neg he]
    rw [HE]
    go_enter Tryd.func34, Tryd.ntmps34
    go_wp2_with fail
    refine (ropen_no p w _ H.out.made H.out.err (beq_eq_false_iff_ne.2 he)).mono ?_
    rintro e w' ⟨rfl, rfl⟩
    go_wp2
    go_ret
    exact ⟨rfl, H.out, World.grownBy.refl _ _⟩
theorem rcount_any (p : Nat) (A : Option Addr) (c : Nat) (bs : List UInt8) (s : RS) (most : Int) (hm : most ≤ 9223372036854775807) (w : World) (h : Rr w p A c bs s.1 s.2) :
    Calls Tryd.prog 36 #[.pointer (some ⟨p, 0, none⟩), .int .i64 most] w fun e w' => e = .returned (.int .i64 ((rInt bs s most).1 : Nat)) ∧ Read1 p A c bs (rInt bs s most).2 w w' := by
  have F := Lib.hid (rint_any p A c bs s most hm w h)
  clear h
  go_enter Tryd.func36, Tryd.ntmps36
  go_wp2_with fail
  refine F.out.mono ?_
  rintro e w' ⟨rfl, h1⟩
  have h1 := Lib.hid h1
  go_wp2
  go_ret
  exact ⟨rfl, h1.out⟩

/-! ### where it is -/
theorem rat_any (p : Nat) (A : Option Addr) (c : Nat) (bs : List UInt8) (s : RS) (w : World) (h : Rr w p A c bs s.1 s.2) :
    Calls Tryd.prog 30 #[.pointer (some ⟨p, 0, none⟩)] w fun e w' => e = .returned (.int .i64 (s.1 : Int)) ∧ w = w' := by
  have h1 := h.pos
  have h2 := h.made
  clear h
  go_enter Tryd.func30, Tryd.ntmps30
  go_wp2
  go_ret
  exact ⟨rfl, rfl⟩
theorem rleft_any (p : Nat) (A : Option Addr) (c : Nat) (bs : List UInt8) (s : RS) (w : World) (h : Rr w p A c bs s.1 s.2) :
    Calls Tryd.prog 39 #[.pointer (some ⟨p, 0, none⟩)] w fun e w' => e = .returned (.int .i64 ((bs.length - s.1 : Nat) : Int)) ∧ ∃ m, w' = w.drewN m := by
  have h0 := h.buf
  have h1 := h.pos
  have h2 := h.made
  have h3 := h.rd.le
  have h4 := h.le
  have e1 : IntKind.i64.wrap ((bs.length : Int) - (s.1 : Int)) = ((bs.length - s.1 : Nat) : Int) := by rw [IntKind.wrap_i64]; omega
  clear h
  go_enter Tryd.func39, Tryd.ntmps39
  go_wp2
  go_quiet (fail)
  go_wp2
  go_ret
  exact ⟨rfl, _, rfl⟩
theorem rend_any (p : Nat) (A : Option Addr) (c : Nat) (bs : List UInt8) (s : RS) (w : World) (h : Rr w p A c bs s.1 s.2) :
    Calls Tryd.prog 31 #[.pointer (some ⟨p, 0, none⟩)] w fun e w' => e = .returned (.int .i64 (rEnd bs s)) ∧ ∃ m, w' = w.drewN m := by
  have h0 := h.buf
  have h1 := h.pos
  have h2 := h.made
  have h3 := h.err
  clear h
  by_cases he : s.2 = 0
  · rw [he] at h3
    by_cases hl : s.1 < bs.length
    · have HE : rEnd bs s = 15 := by unfold rEnd; rw [if_pos he, if_pos hl]
      rw [HE]
      have hl' : (s.1 : Int) < (bs.length : Int) := by omega
      clear HE he
      go_enter Tryd.func31, Tryd.ntmps31
      go_wp2
      go_quiet (fail)
      go_wp2
      go_ret
      exact ⟨rfl, _, rfl⟩
    · have HE : rEnd bs s = 0 := by unfold rEnd; rw [if_pos he, if_neg hl]
      rw [HE]
      have hl' : ¬ (s.1 : Int) < (bs.length : Int) := by omega
      clear HE he
      go_enter Tryd.func31, Tryd.ntmps31
      go_wp2
      go_quiet (fail)
      go_wp2
      go_ret
      exact ⟨rfl, _, rfl⟩
  · have HE : rEnd bs s = s.2 := by unfold rEnd; rw [if_neg he]
    rw [HE]
    have hne : (s.2 != 0) = true := bne_iff_ne.2 he
    clear HE he
    go_enter Tryd.func31, Tryd.ntmps31
    go_wp2
    go_ret
    exact ⟨rfl, 0, rfl⟩
end Go.Proofs.YtkdikbenheagmaaDoor
