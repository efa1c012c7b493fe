/-
  The walks of wire.Reader's methods: Text, and NewReader; readers that no call made; SameBytes.
-/
import Derived.Test.YtkdikbenheagmaaDoorReader2
import Derived.Test.YtkdikbenheagmaaDoorBase2
set_option linter.unusedVariables false
set_option linter.unusedSimpArgs false
namespace Go.Proofs.YtkdikbenheagmaaDoor
open Go.RowKit

theorem rInt_le (bs : List UInt8) (s : RS) (most : Int) (h : s.1 ≤ bs.length) (hm : most ≤ 9223372036854775807) : (rInt bs s most).2.1 ≤ bs.length ∧ ((rInt bs s most).2.2 = 0 → ((rInt bs s most).1 : Int) ≤ 9223372036854775807) := by
  have hn := num_lt (bs.drop s.1)
  rw [List.length_drop] at hn
  unfold rInt
  split
  · split
    · exact ⟨h, fun e => by simp at e⟩
    · split
      · split
        · exact ⟨h, fun e => by simp at e⟩
        · exact ⟨by simp only; omega, fun _ => by simp only; omega⟩
      · exact ⟨h, fun _ => by simp⟩
  · exact ⟨h, fun _ => by simp⟩

set_option maxRecDepth 100000 in
set_option maxHeartbeats 800000 in
theorem rtext_any (p : Nat) (A : Option Addr) (c : Nat) (bs : List UInt8) (s : RS) (most : Int) (hm : most ≤ 9223372036854775807) (w : World) (h : Rr w p A c bs s.1 s.2) (hA : A = none → c = 0) :
    Calls Tryd.prog 37 #[.pointer (some ⟨p, 0, none⟩), .int .i64 most] w fun e w' => e = .returned (.string (txt (rText bs s most).1)) ∧ Read1 p A c bs (rText bs s most).2 w w' := by
  have H := Lib.hid h
  have hle := h.le
  have hlen := h.rd.le
  have hcap := h.cap
  clear h
  by_cases he : s.2 = 0
  · have F := Lib.hid (rint_any p A c bs s most hm w H.out)
    have hq := rInt_le bs s most hle hm
    have HT : rText bs s most = if (rInt bs s most).2.2 = 0 then (if bs.length - (rInt bs s most).2.1 < (rInt bs s most).1 then ([], (s.1, 10)) else ((bs.drop (rInt bs s most).2.1).take (rInt bs s most).1, ((rInt bs s most).2.1 + (rInt bs s most).1, 0))) else ([], (rInt bs s most).2) := by unfold rText; rw [if_pos he]
    rw [he] at H
    rcases hr : rInt bs s most with ⟨n, a1, e1⟩
    rw [hr] at F hq HT
    simp only at F hq HT
    have hp := H.out.pos
    by_cases he1 : e1 = 0
    · rw [if_pos he1] at HT
      subst he1
      have hn9 := hq.2 rfl
      have ha1 := hq.1
      clear hq hr he
      by_cases hl : bs.length - a1 < n
      · rw [if_pos hl] at HT
        rw [HT]
        have hl' : ((bs.length - a1 : Nat) : Int) < (n : Int) := by omega
        have w1 : IntKind.i64.wrap ((bs.length : Int) - (a1 : Int)) = ((bs.length - a1 : Nat) : Int) := by rw [IntKind.wrap_i64]; omega
        have W1 := Lib.hid w1
        clear HT hl w1
        go_enter Tryd.func37, Tryd.ntmps37
        go_wp2_with fail
        refine (ropen_yes p w H.out.made H.out.err).mono ?_
        rintro e w' ⟨rfl, rfl⟩
        go_wp2_with fail
        refine F.out.mono ?_
        rintro e w1 ⟨rfl, h1, h2⟩
        have hbuf1 := h1.buf
        have hpos1 := h1.pos
        have herr1 := h1.err
        have hf1 := h1.f1
        have hf2 := h1.f2
        have H1 := Lib.hid h1
        have H2 := Lib.hid h2
        clear h1 h2
        go_wp2
        have w1 := W1.out
        go_quiet (fail)
        clear w1
        go_wp2
        go_ret
        refine ⟨rfl, ((H1.out.drewN _).setPos hle).setErr 10, ?_⟩
        exact ((grown_drewN H2.out _).trans (grown_setCell _ ⟨p, 1, none⟩ _)).trans (grown_setCell _ ⟨p, 2, none⟩ _)
      · rw [if_neg hl] at HT
        rw [HT]
        have hl' : ¬ ((bs.length - a1 : Nat) : Int) < (n : Int) := by omega
        have w1 : IntKind.i64.wrap ((bs.length : Int) - (a1 : Int)) = ((bs.length - a1 : Nat) : Int) := by rw [IntKind.wrap_i64]; omega
        have w2 : IntKind.i64.wrap ((a1 : Int) + (n : Int)) = (a1 : Int) + (n : Int) := by rw [IntKind.wrap_i64]; omega
        have W1 := Lib.hid w1
        have W2 := Lib.hid w2
        obtain ⟨i0, hi, hz0, hz1, hz2⟩ := info_parts (show (Tryd.prog.info? 5).map (fun i => (i.zero, i.size, i.bytes)) = some (some (.int .u8 0), 1, 1) by kernel_rfl)
        obtain ⟨A2, hcut, hrd⟩ := run_cut2 (P := Tryd.prog) 22 5 Tryd.underlying22 hi hz1 A bs.length c a1 (a1 + n) (by omega) (by omega) hA
        rw [show a1 + n - a1 = n by omega] at hcut hrd
        rw [Int.natCast_add] at hcut
        have HCUT := Lib.hid hcut
        have HRD := Lib.hid hrd
        have hle2 : a1 + n ≤ bs.length := by omega
        clear HT hl w1 w2 hcut hrd hi hz0 hz1 hz2
        go_enter Tryd.func37, Tryd.ntmps37
        go_wp2_with fail
        refine (ropen_yes p w H.out.made H.out.err).mono ?_
        rintro e w' ⟨rfl, rfl⟩
        go_wp2_with fail
        refine F.out.mono ?_
        rintro e w1 ⟨rfl, h1, h2⟩
        have hbuf1 := h1.buf
        have hpos1 := h1.pos
        have herr1 := h1.err
        have hf1 := h1.f1
        have hf2 := h1.f2
        have H1 := Lib.hid h1
        have H2 := Lib.hid h2
        have hconv := fun nq => run_text (P := Tryd.prog) 22 9 5 Tryd.underlying22 Tryd.underlying5 Tryd.underlying9 ((HRD.out w1 bs h1.rd hle2).drewN (k := nq)) (c - a1)
        have HCONV := Lib.hid hconv
        clear h1 h2 hconv
        go_wp2
        have w1 := W1.out
        go_quiet (fail)
        clear w1
        go_wp2
        have w2 := W2.out
        have hcut := HCUT.out
        have hconv := HCONV.out
        go_quiet (fail)
        clear w2 hcut hconv
        have hs9 : (a1 : Int) + (n : Int) ≤ 9223372036854775807 := by omega
        go_wp2
        go_ret
        refine ⟨rfl, ?_, ?_⟩
        · exact (H1.out.drewN _).setPos hle2
        · exact (grown_drewN H2.out _).trans (grown_setCell _ ⟨p, 1, none⟩ _)
    · rw [if_neg he1] at HT
      rw [HT]
      have hne : (e1 != 0) = true := bne_iff_ne.2 he1
      clear HT hr he hq
      go_enter Tryd.func37, Tryd.ntmps37
      go_wp2_with fail
      refine (ropen_yes p w H.out.made H.out.err).mono ?_
      rintro e w' ⟨rfl, rfl⟩
      go_wp2_with fail
      refine F.out.mono ?_
      rintro e w1 ⟨rfl, h1, h2⟩
      have herr1 := h1.err
      have H1 := Lib.hid h1
      have H2 := Lib.hid h2
      clear h1 h2
      go_wp2
      go_ret
      exact ⟨rfl, H1.out, H2.out⟩
  · have HE : rText bs s most = ([], s) := by unfold rText; rw [if_neg he]
    rw [HE]
    go_enter Tryd.func37, Tryd.ntmps37
    go_wp2_with fail
    refine (ropen_no p w _ H.out.made H.out.err (beq_eq_false_iff_ne.2 he)).mono ?_
    rintro e w' ⟨rfl, rfl⟩
    go_wp2
    go_ret
    exact ⟨rfl, H.out, World.grownBy.refl _ _⟩
end Go.Proofs.YtkdikbenheagmaaDoor
