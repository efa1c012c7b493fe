/-
  The walk of tally.check of ballots.
-/
import Derived.Test.YtjjobgolpedgeaaTLogged
set_option linter.unusedVariables false
set_option linter.unusedSimpArgs false
namespace Go.Proofs.Ytjjobgolpedgeaa
open Go.RowKit

set_option maxHeartbeats 16000000 in
set_option maxRecDepth 100000 in
theorem checkBallot_any (c : Cg) (rc : Nat) (self : Int) (A : Option Addr) (n cp : Nat) (L : List Lt) (w : World) (h : RdV w A n L) (hsm : n * 64 ≤ 140737488355328) (hwf : ∀ x ∈ L, ∀ y ∈ x.log, (Lit.int .i64 y.n).wf = true) (hrc : Ob w rc [.int .i64 c.f, .int .i64 c.r, .int .i64 c.p, .bool c.u]) :
    Calls Try.prog 132 #[c.agg, .int .i64 self, .slice A n cp, .func (.func 133) #[] #[.pointer (some ⟨rc, 0, none⟩)]] w fun e w' => e = .returned (.int .i64 (chkR Lt.n (Lt.may c.r) c self L)) ∧ Below w.heap.size w w' := by
  obtain ⟨cf, cr, cpp, cu⟩ := c
  by_cases h1 : cf < 1
  · rw [chkR_bad (show Cg.bad ⟨cf, cr, cpp, cu⟩ from .inl h1)]
    go_enter Try.func132, Try.ntmps132
    go_wp2
    go_ret
    exact ⟨rfl, by go_grown⟩
  by_cases h2 : 3 < cf
  · rw [chkR_bad (show Cg.bad ⟨cf, cr, cpp, cu⟩ from .inr (.inl h2))]
    go_enter Try.func132, Try.ntmps132
    go_wp2
    go_ret
    exact ⟨rfl, by go_grown⟩
  by_cases h3 : cr < 1
  · rw [chkR_bad (show Cg.bad ⟨cf, cr, cpp, cu⟩ from .inr (.inr (.inl h3)))]
    go_enter Try.func132, Try.ntmps132
    go_wp2
    go_ret
    exact ⟨rfl, by go_grown⟩
  by_cases h4 : 256 < cr
  · rw [chkR_bad (show Cg.bad ⟨cf, cr, cpp, cu⟩ from .inr (.inr (.inr h4)))]
    go_enter Try.func132, Try.ntmps132
    go_wp2
    go_ret
    exact ⟨rfl, by go_grown⟩
  have HG : Hid (¬ Cg.bad ⟨cf, cr, cpp, cu⟩) := fun h => by unfold Cg.bad at h; simp only at h; omega
  have HRC : Hid (Ob w rc [.int .i64 cf, .int .i64 cr, .int .i64 cpp, .bool cu]) := hrc
  have HWF := Lib.hid hwf
  clear hrc hwf
  have H := Lib.hid h
  have HL := Lib.hid h.len
  have hn : (n : Int) ≤ 6000000000000 := by omega
  clear h hsm
  obtain ⟨R, hR⟩ : ∃ R, chkR Lt.n (Lt.may cr) ⟨cf, cr, cpp, cu⟩ self L = R := ⟨_, rfl⟩
  have HR := Lib.hid hR
  rw [hR]
  clear hR
  go_enter Try.func132, Try.ntmps132
  go_wp2_with fail
  have OC := Lib.hid (Ob.fresh w #[.int .i64 cf, .int .i64 cr, .int .i64 cpp, .bool cu] 70)
  have BW : Hid (Below w.heap.size w (w.alloc (.cells #[.int .i64 cf, .int .i64 cr, .int .i64 cpp, .bool cu] 70))) := below_al _ _
  generalize w.alloc (.cells #[.int .i64 cf, .int .i64 cr, .int .i64 cpp, .bool cu] 70) = w1 at OC BW ⊢
  obtain ⟨r4, hr4⟩ : ∃ r, w.heap.size = r := ⟨_, rfl⟩
  rw [hr4] at OC ⊢
  clear hr4
  go_loopw [32] (fun iv wr => ∃ (k : Nat), k ≤ n ∧ iv = .int .i64 k ∧ Hid (Below w1.heap.size w1 wr) ∧ Hid (∀ i, i < k → okI Lt.n (Lt.may cr) cf self L i = true)) (fun iv _ => n - (intOf iv).toNat)
  case atStart => exact ⟨0, by omega, rfl, Below.refl _ _, fun i hi => by omega⟩
  case round =>
    obtain ⟨k, hk, rfl, HB, HO⟩ := hrel
    by_cases hkn : k < n
    · obtain ⟨x, hx⟩ : ∃ x, L[k]? = some x := ⟨_, List.getElem?_eq_getElem (by have := HL.out; omega)⟩
      obtain ⟨al, bX, jX, rfl, hoX, g0, g1, g2, g3, g4, g5⟩ := ((H.out.below BW.out).below HB.out).atV hx
      have o4 := (OC.out.below HB.out).cell 0 rfl
      have z4 := World.block_lt_of_cell? wr _ o4
      have hki : (k : Int) < (n : Int) := by omega
      have HKN := Lib.hid hkn
      have HXX := Lib.hid hx
      clear hx hkn hk
      have hmn := mBallot_node
      go_wp2_with fail
      clear hmn o4 z4
      have OX := Lib.hid (Ob.fresh wr #[.int .i64 x.n, .int .u64 (x.h : Nat), .int .u64 (x.l : Nat), .int .i64 x.v, .int .i64 x.c, .slice bX x.log.length jX] 144)
      have BX : Hid (Below w1.heap.size w1 (wr.alloc (.cells #[.int .i64 x.n, .int .u64 (x.h : Nat), .int .u64 (x.l : Nat), .int .i64 x.v, .int .i64 x.c, .slice bX x.log.length jX] 144))) := HB.out.alloc HB.out.size _
      have OL := Lib.hid (hoX.below (below_al wr (.cells #[.int .i64 x.n, .int .u64 (x.h : Nat), .int .u64 (x.l : Nat), .int .i64 x.v, .int .i64 x.c, .slice bX x.log.length jX] 144)))
      generalize wr.alloc (.cells #[.int .i64 x.n, .int .u64 (x.h : Nat), .int .u64 (x.l : Nat), .int .i64 x.v, .int .i64 x.c, .slice bX x.log.length jX] 144) = w2 at OX BX OL ⊢
      generalize wr.heap.size = rx at OX ⊢
      clear g0 g1 g2 g3 g4 g5 HB hoX
      refine (nodeBallot_l x bX jX _).mono ?_
      rintro e w3 ⟨rfl, hb3⟩
      have OX3 := Lib.hid (OX.out.below hb3)
      have OL3 := Lib.hid (OL.out.below hb3)
      have B3 : Hid (Below w1.heap.size w1 w3) := BX.out.trans (hb3.mono BX.out.size)
      clear hb3 OX BX OL
      have OC3 := Lib.hid (OC.out.below B3.out)
      have R3 := Lib.hid ((H.out.below BW.out).below B3.out)
      go_upto_region 7 with fail
      go_cut [74] (fun bv wx => bv = .bool (!okI Lt.n (Lt.may cr) cf self L k) ∧ Hid (Below w3.heap.size w3 wx))
      case first =>
        obtain ⟨mb, hmb⟩ : ∃ mb, (Lt.may cr) x = mb := ⟨_, rfl⟩
        have FM : Hid (∀ y, Below w3.heap.size w3 y → Calls Try.prog 133 #[x.agg bX jX, .pointer (some ⟨rc, 0, none⟩)] y fun e w' => e = .returned (.bool mb) ∧ Below y.heap.size y w') := fun y hy => hmb ▸ mayBallot_any x bX jX cf cr cpp cu rc y (((HRC.out.below BW.out).below B3.out).below hy) (OL3.out.below hy) (HWF.out x (List.mem_of_getElem? HXX.out))
        have HOK : Hid (okI Lt.n (Lt.may cr) cf self L k = (voterF cf self (prevN Lt.n L k) x.n && mb)) := by unfold okI; rw [HXX.out, ← hmb]; exact rfl
        clear hmb OL3
        have o4 := OC3.out.cell 0 rfl
        obtain ⟨p0, p1, p2, p3, p4, p5⟩ := OX3.out.all6
        by_cases m1 : x.n < 0
        case pos =>
          have HV := Lib.hid (voterF_not (f := cf) (self := self) (ahead := prevN Lt.n L k) (node := x.n) (by omega))
          go_wp2_with fail
          go_meet
          exact ⟨by rw [HOK.out, HV.out]; exact rfl, Below.refl _ _⟩
        by_cases m2 : 2 * cf < x.n
        case pos =>
          have HV := Lib.hid (voterF_not (f := cf) (self := self) (ahead := prevN Lt.n L k) (node := x.n) (by omega))
          go_wp2_with fail
          go_meet
          exact ⟨by rw [HOK.out, HV.out]; exact rfl, Below.refl _ _⟩
        by_cases m3 : x.n = self
        case pos =>
          have HV := Lib.hid (voterF_not (f := cf) (self := self) (ahead := prevN Lt.n L k) (node := x.n) (by omega))
          subst m3
          go_wp2_with fail
          go_meet
          exact ⟨by rw [HOK.out, HV.out]; exact rfl, Below.refl _ _⟩
        have d3 : (x.n == self) = false := beq_eq_false_iff_ne.2 m3
        have M3 := Lib.hid m3
        have M1 := Lib.hid m1
        have M2 := Lib.hid m2
        clear m3
        by_cases m4 : k = 0
        case pos =>
          subst m4
          have HV : Hid (voterF cf self (prevN Lt.n L 0) x.n = true) := (voterF_iff _ _ _ _).2 ⟨by unfold prevN; rw [if_pos rfl]; have := M1.out; omega, by have := M1.out; omega, by have := M2.out; omega, M3.out⟩
          go_wp2_with fail
          refine (FM.out _ (Below.refl _ _)).mono ?_
          rintro e w5 ⟨rfl, hb5⟩
          have B5 := Lib.hid hb5
          clear hb5 p0 p1 p2 p3 p4 p5
          cases mb
          all_goals (go_wp2_with fail)
          all_goals go_meet
          all_goals (exact ⟨by rw [HOK.out, HV.out]; exact rfl, B5.out⟩)
        obtain ⟨p, hp⟩ : ∃ p, L[k - 1]? = some p := ⟨_, List.getElem?_eq_getElem (by have := HL.out; have := HKN.out; omega)⟩
        have HPN : Hid (prevN Lt.n L k = p.n) := by unfold prevN; rw [if_neg m4, hp]; exact rfl
        obtain ⟨al', bP, jP, e, _, q0, q1, q2, q3, q4, q5⟩ := R3.out.atV hp
        cases e
        have k0 : (0 : Int) < (k : Int) := by omega
        have e1 : IntKind.i64.wrap ((k : Int) - 1) = (k : Int) - 1 := by rw [IntKind.wrap_i64]; omega
        have e2 : ((k : Int) - 1).toNat = k - 1 := by omega
        have e3 : (0 : Int) ≤ (k : Int) - 1 := by omega
        have e4 : (k : Int) - 1 < (n : Int) := by omega
        have K0 := Lib.hid m4
        clear hp m4
        have hmn := mBallot_node
        go_wp2_with fail
        clear hmn
        refine (nodeBallot_l p bP jP _).mono ?_
        rintro e w5 ⟨rfl, hb5⟩
        have B5 := Lib.hid hb5
        have OX5 := Lib.hid (OX3.out.below hb5)
        clear hb5 p0 p1 p2 p3 p4 p5 q0 q1 q2 q3 q4 q5 o4 e1 e2 e3 e4
        obtain ⟨p0, p1, p2, p3, p4, p5⟩ := OX5.out.all6
        by_cases m5 : x.n ≤ p.n
        case pos =>
          have HV : Hid (voterF cf self (prevN Lt.n L k) x.n = false) := voterF_not (by rw [HPN.out]; omega)
          go_wp2_with fail
          go_meet
          exact ⟨by rw [HOK.out, HV.out]; exact rfl, B5.out⟩
        case neg =>
          have d5 : decide (x.n ≤ p.n) = false := decide_eq_false m5
          have HV : Hid (voterF cf self (prevN Lt.n L k) x.n = true) := (voterF_iff _ _ _ _).2 ⟨by rw [HPN.out]; omega, by have := M1.out; omega, by have := M2.out; omega, M3.out⟩
          go_wp2_with fail
          refine (FM.out _ B5.out).mono ?_
          rintro e w6 ⟨rfl, hb6⟩
          have B6 := Lib.hid (B5.out.trans (hb6.mono B5.out.size))
          clear hb6 p0 p1 p2 p3 p4 p5
          cases mb
          all_goals (go_wp2_with fail)
          all_goals go_meet
          all_goals (exact ⟨by rw [HOK.out, HV.out]; exact rfl, B6.out⟩)
      case rest =>
        obtain ⟨rfl, HC⟩ := hcut
        have B4 : Hid (Below w1.heap.size w1 wc) := B3.out.trans (HC.out.mono B3.out.size)
        have hk2 : (k : Int) + 1 ≤ 6000000000001 := by have := HKN.out; omega
        clear HC OX3 B3 OC3 R3 OL3
        obtain ⟨nb, hnb⟩ : ∃ nb, (!okI Lt.n (Lt.may cr) cf self L k) = nb := ⟨_, rfl⟩
        rw [hnb]
        cases nb with
        | true =>
          have HE : Hid (R = 80) := by rw [← HR.out]; exact chkR_one (i := k) HG.out (by have := HKN.out; have := HL.out; omega) (by simpa using hnb)
          clear hnb
          go_wp2_with fail
          go_ret
          exact ⟨by rw [HE.out]; exact rfl, BW.out.trans (B4.out.mono BW.out.size)⟩
        | false =>
          have HE := Lib.hid (show okI Lt.n (Lt.may cr) cf self L k = true by simpa using hnb)
          clear hnb
          go_wp2_with fail
          go_roundw
          case rel => exact ⟨k + 1, HKN.out, by go_num, B4.out, fun i hi => by
            by_cases e : i = k
            · rw [e]; exact HE.out
            · exact HO.out i (by omega)⟩
          case measure => have := HKN.out; simp [intOf]; omega
    · obtain rfl : n = k := by omega
      have hki : ¬ (n : Int) < (n : Int) := by omega
      have HE : Hid (R = 0) := by rw [← HR.out]; exact chkR_all HG.out fun i hi => HO.out i (by have := HL.out; omega)
      clear hkn hk
      go_wp2_with fail
      go_ret
      exact ⟨by rw [HE.out]; exact rfl, BW.out.trans (HB.out.mono BW.out.size)⟩
end Go.Proofs.Ytjjobgolpedgeaa
