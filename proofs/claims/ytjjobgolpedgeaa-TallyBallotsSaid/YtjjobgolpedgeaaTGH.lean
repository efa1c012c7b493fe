/-
  Parts of the walks of TallyBallots and TallyAnswers. Merged by merge.py: TCheckBallot, TBallotsA, TRefCheckBallot.
-/
import Derived.Test.YtjjobgolpedgeaaTGA
import Derived.Test.YtjjobgolpedgeaaTSmall
import Derived.Test.YtjjobgolpedgeaaTGE
set_option linter.unusedVariables false
set_option linter.unusedSimpArgs false
namespace Go.Proofs.Ytjjobgolpedgeaa
open Go.RowKit

set_option maxHeartbeats 16000000 in
set_option maxRecDepth 100000 in
theorem checkBallot_any (c : Cg) (rc : Nat) (self : Int) (A : Option Addr) (n cp : Nat) (L : List Lt) (w : World) (h : RdV w A n L) (hsm : n * 64 ≤ 140737488355328) (hwf : ∀ x ∈ L, ∀ y ∈ x.log, (Lit.int .i64 y.n).wf = true) (hrc : Ob w rc [.int .i64 c.f, .int .i64 c.r, .int .i64 c.p, .bool c.u]) :
    Calls Try.prog 132 #[c.agg, .int .i64 self, .slice A n cp, .func (.func 133) #[] #[.pointer (some ⟨rc, 0, none⟩)]] w fun e w' => e = .returned (.int .i64 (chkR Lt.n (Lt.may c.r) c self L)) ∧ Below w.heap.size w w' := by
  obtain ⟨cf, cr, cpp, cu⟩ := c
  by_cases h1 : cf < 1
  · rw [chkR_bad (show Cg.bad ⟨cf, cr, cpp, cu⟩ from .inl h1)]
    go_enter Try.func132, Try.ntmps132
    go_wp2
    go_ret
    exact ⟨rfl, by go_grown⟩
  by_cases h2 : 3 < cf
  · rw [chkR_bad (show Cg.bad ⟨cf, cr, cpp, cu⟩ from .inr (.inl h2))]
    go_enter Try.func132, Try.ntmps132
    go_wp2
    go_ret
    exact ⟨rfl, by go_grown⟩
  by_cases h3 : cr < 1
  · rw [chkR_bad (show Cg.bad ⟨cf, cr, cpp, cu⟩ from .inr (.inr (.inl h3)))]
    go_enter Try.func132, Try.ntmps132
    go_wp2
    go_ret
    exact ⟨rfl, by go_grown⟩
  by_cases h4 : 256 < cr
  · rw [chkR_bad (show Cg.bad ⟨cf, cr, cpp, cu⟩ from .inr (.inr (.inr h4)))]
    go_enter Try.func132, Try.ntmps132
    go_wp2
    go_ret
    exact ⟨rfl, by go_grown⟩
  have HG : Hid (¬ Cg.bad ⟨cf, cr, cpp, cu⟩) := fun h => by unfold Cg.bad at h; simp only at h; omega
  have HRC : Hid (Ob w rc [.int .i64 cf, .int .i64 cr, .int .i64 cpp, .bool cu]) := hrc
  have HWF := Lib.hid hwf
  clear hrc hwf
  have H := Lib.hid h
  have HL := Lib.hid h.len
  have hn : (n : Int) ≤ 6000000000000 := by omega
  clear h hsm
  obtain ⟨R, hR⟩ : ∃ R, chkR Lt.n (Lt.may cr) ⟨cf, cr, cpp, cu⟩ self L = R := ⟨_, rfl⟩
  have HR := Lib.hid hR
  rw [hR]
  clear hR
  go_enter Try.func132, Try.ntmps132
  go_wp2_with fail
  have OC := Lib.hid (Ob.fresh w #[.int .i64 cf, .int .i64 cr, .int .i64 cpp, .bool cu] 70)
  have BW : Hid (Below w.heap.size w (w.alloc (.cells #[.int .i64 cf, .int .i64 cr, .int .i64 cpp, .bool cu] 70))) := below_al _ _
  generalize w.alloc (.cells #[.int .i64 cf, .int .i64 cr, .int .i64 cpp, .bool cu] 70) = w1 at OC BW ⊢
  obtain ⟨r4, hr4⟩ : ∃ r, w.heap.size = r := ⟨_, rfl⟩
  rw [hr4] at OC ⊢
  clear hr4
  go_loopw [32] (fun iv wr => ∃ (k : Nat), k ≤ n ∧ iv = .int .i64 k ∧ Hid (Below w1.heap.size w1 wr) ∧ Hid (∀ i, i < k → okI Lt.n (Lt.may cr) cf self L i = true)) (fun iv _ => n - (intOf iv).toNat)
  case atStart => exact ⟨0, by omega, rfl, Below.refl _ _, fun i hi => by omega⟩
  case round =>
    obtain ⟨k, hk, rfl, HB, HO⟩ := hrel
    by_cases hkn : k < n
    · obtain ⟨x, hx⟩ : ∃ x, L[k]? = some x := ⟨_, List.getElem?_eq_getElem (by have := HL.out; omega)⟩
      obtain ⟨al, bX, jX, rfl, hoX, g0, g1, g2, g3, g4, g5⟩ := ((H.out.below BW.out).below HB.out).atV hx
      have o4 := (OC.out.below HB.out).cell 0 rfl
      have z4 := World.block_lt_of_cell? wr _ o4
      have hki : (k : Int) < (n : Int) := by omega
      have HKN := Lib.hid hkn
      have HXX := Lib.hid hx
      clear hx hkn hk
      have hmn := mBallot_node
      go_wp2_with fail
      clear hmn o4 z4
      have OX := Lib.hid (Ob.fresh wr #[.int .i64 x.n, .int .u64 (x.h : Nat), .int .u64 (x.l : Nat), .int .i64 x.v, .int .i64 x.c, .slice bX x.log.length jX] 144)
      have BX : Hid (Below w1.heap.size w1 (wr.alloc (.cells #[.int .i64 x.n, .int .u64 (x.h : Nat), .int .u64 (x.l : Nat), .int .i64 x.v, .int .i64 x.c, .slice bX x.log.length jX] 144))) := HB.out.alloc HB.out.size _
      have OL := Lib.hid (hoX.below (below_al wr (.cells #[.int .i64 x.n, .int .u64 (x.h : Nat), .int .u64 (x.l : Nat), .int .i64 x.v, .int .i64 x.c, .slice bX x.log.length jX] 144)))
      generalize wr.alloc (.cells #[.int .i64 x.n, .int .u64 (x.h : Nat), .int .u64 (x.l : Nat), .int .i64 x.v, .int .i64 x.c, .slice bX x.log.length jX] 144) = w2 at OX BX OL ⊢
      generalize wr.heap.size = rx at OX ⊢
      clear g0 g1 g2 g3 g4 g5 HB hoX
      refine (nodeBallot_l x bX jX _).mono ?_
      rintro e w3 ⟨rfl, hb3⟩
      have OX3 := Lib.hid (OX.out.below hb3)
      have OL3 := Lib.hid (OL.out.below hb3)
      have B3 : Hid (Below w1.heap.size w1 w3) := BX.out.trans (hb3.mono BX.out.size)
      clear hb3 OX BX OL
      have OC3 := Lib.hid (OC.out.below B3.out)
      have R3 := Lib.hid ((H.out.below BW.out).below B3.out)
      go_upto_region 7 with fail
      go_cut [74] (fun bv wx => bv = .bool (!okI Lt.n (Lt.may cr) cf self L k) ∧ Hid (Below w3.heap.size w3 wx))
      case first =>
        obtain ⟨mb, hmb⟩ : ∃ mb, (Lt.may cr) x = mb := ⟨_, rfl⟩
        have FM : Hid (∀ y, Below w3.heap.size w3 y → Calls Try.prog 133 #[x.agg bX jX, .pointer (some ⟨rc, 0, none⟩)] y fun e w' => e = .returned (.bool mb) ∧ Below y.heap.size y w') := fun y hy => hmb ▸ mayBallot_any x bX jX cf cr cpp cu rc y (((HRC.out.below BW.out).below B3.out).below hy) (OL3.out.below hy) (HWF.out x (List.mem_of_getElem? HXX.out))
        have HOK : Hid (okI Lt.n (Lt.may cr) cf self L k = (voterF cf self (prevN Lt.n L k) x.n && mb)) := by unfold okI; rw [HXX.out, ← hmb]; exact rfl
        clear hmb OL3
        have o4 := OC3.out.cell 0 rfl
        obtain ⟨p0, p1, p2, p3, p4, p5⟩ := OX3.out.all6
        by_cases m1 : x.n < 0
        case pos =>
          have HV := Lib.hid (voterF_not (f := cf) (self := self) (ahead := prevN Lt.n L k) (node := x.n) (by omega))
          go_wp2_with fail
          go_meet
          exact ⟨by rw [HOK.out, HV.out]; exact rfl, Below.refl _ _⟩
        by_cases m2 : 2 * cf < x.n
        case pos =>
          have HV := Lib.hid (voterF_not (f := cf) (self := self) (ahead := prevN Lt.n L k) (node := x.n) (by omega))
          go_wp2_with fail
          go_meet
          exact ⟨by rw [HOK.out, HV.out]; exact rfl, Below.refl _ _⟩
        by_cases m3 : x.n = self
        case pos =>
          have HV := Lib.hid (voterF_not (f := cf) (self := self) (ahead := prevN Lt.n L k) (node := x.n) (by omega))
          subst m3
          go_wp2_with fail
          go_meet
          exact ⟨by rw [HOK.out, HV.out]; exact rfl, Below.refl _ _⟩
        have d3 : (x.n == self) = false := beq_eq_false_iff_ne.2 m3
        have M3 := Lib.hid m3
        have M1 := Lib.hid m1
        have M2 := Lib.hid m2
        clear m3
        by_cases m4 : k = 0
        case pos =>
          subst m4
          have HV : Hid (voterF cf self (prevN Lt.n L 0) x.n = true) := (voterF_iff _ _ _ _).2 ⟨by unfold prevN; rw [if_pos rfl]; have := M1.out; omega, by have := M1.out; omega, by have := M2.out; omega, M3.out⟩
          go_wp2_with fail
          refine (FM.out _ (Below.refl _ _)).mono ?_
          rintro e w5 ⟨rfl, hb5⟩
          have B5 := Lib.hid hb5
          clear hb5 p0 p1 p2 p3 p4 p5
          cases mb
          all_goals (go_wp2_with fail)
          all_goals go_meet
          all_goals (exact ⟨by rw [HOK.out, HV.out]; exact rfl, B5.out⟩)
        obtain ⟨p, hp⟩ : ∃ p, L[k - 1]? = some p := ⟨_, List.getElem?_eq_getElem (by have := HL.out; have := HKN.out; omega)⟩
        have HPN : Hid (prevN Lt.n L k = p.n) := by unfold prevN; rw [if_neg m4, hp]; exact rfl
        obtain ⟨al', bP, jP, e, _, q0, q1, q2, q3, q4, q5⟩ := R3.out.atV hp
        cases e
        have k0 : (0 : Int) < (k : Int) := by omega
        have e1 : IntKind.i64.wrap ((k : Int) - 1) = (k : Int) - 1 := by rw [IntKind.wrap_i64]; omega
        have e2 : ((k : Int) - 1).toNat = k - 1 := by omega
        have e3 : (0 : Int) ≤ (k : Int) - 1 := by omega
        have e4 : (k : Int) - 1 < (n : Int) := by omega
        have K0 := Lib.hid m4
        clear hp m4
        have hmn := mBallot_node
        go_wp2_with fail
        clear hmn
        refine (nodeBallot_l p bP jP _).mono ?_
        rintro e w5 ⟨rfl, hb5⟩
        have B5 := Lib.hid hb5
        have OX5 := Lib.hid (OX3.out.below hb5)
        clear hb5 p0 p1 p2 p3 p4 p5 q0 q1 q2 q3 q4 q5 o4 e1 e2 e3 e4
        obtain ⟨p0, p1, p2, p3, p4, p5⟩ := OX5.out.all6
        by_cases m5 : x.n ≤ p.n
        case pos =>
          have HV : Hid (voterF cf self (prevN Lt.n L k) x.n = false) := voterF_not (by rw [HPN.out]; omega)
          go_wp2_with fail
          go_meet
          exact ⟨by rw [HOK.out, HV.out]; exact rfl, B5.out⟩
        case neg =>
          have d5 : decide (x.n ≤ p.n) = false := decide_eq_false m5
          have HV : Hid (voterF cf self (prevN Lt.n L k) x.n = true) := (voterF_iff _ _ _ _).2 ⟨by rw [HPN.out]; omega, by have := M1.out; omega, by have := M2.out; omega, M3.out⟩
          go_wp2_with fail
          refine (FM.out _ B5.out).mono ?_
          rintro e w6 ⟨rfl, hb6⟩
          have B6 := Lib.hid (B5.out.trans (hb6.mono B5.out.size))
          clear hb6 p0 p1 p2 p3 p4 p5
          cases mb
          all_goals (go_wp2_with fail)
          all_goals go_meet
          all_goals (exact ⟨by rw [HOK.out, HV.out]; exact rfl, B6.out⟩)
      case rest =>
        obtain ⟨rfl, HC⟩ := hcut
        have B4 : Hid (Below w1.heap.size w1 wc) := B3.out.trans (HC.out.mono B3.out.size)
        have hk2 : (k : Int) + 1 ≤ 6000000000001 := by have := HKN.out; omega
        clear HC OX3 B3 OC3 R3 OL3
        obtain ⟨nb, hnb⟩ : ∃ nb, (!okI Lt.n (Lt.may cr) cf self L k) = nb := ⟨_, rfl⟩
        rw [hnb]
        cases nb with
        | true =>
          have HE : Hid (R = 80) := by rw [← HR.out]; exact chkR_one (i := k) HG.out (by have := HKN.out; have := HL.out; omega) (by simpa using hnb)
          clear hnb
          go_wp2_with fail
          go_ret
          exact ⟨by rw [HE.out]; exact rfl, BW.out.trans (B4.out.mono BW.out.size)⟩
        | false =>
          have HE := Lib.hid (show okI Lt.n (Lt.may cr) cf self L k = true by simpa using hnb)
          clear hnb
          go_wp2_with fail
          go_roundw
          case rel => exact ⟨k + 1, HKN.out, by go_num, B4.out, fun i hi => by
            by_cases e : i = k
            · rw [e]; exact HE.out
            · exact HO.out i (by omega)⟩
          case measure => have := HKN.out; simp [intOf]; omega
    · obtain rfl : n = k := by omega
      have hki : ¬ (n : Int) < (n : Int) := by omega
      have HE : Hid (R = 0) := by rw [← HR.out]; exact chkR_all HG.out fun i hi => HO.out i (by have := HL.out; omega)
      clear hkn hk
      go_wp2_with fail
      go_ret
      exact ⟨by rw [HE.out]; exact rfl, BW.out.trans (HB.out.mono BW.out.size)⟩
end Go.Proofs.Ytjjobgolpedgeaa
set_option linter.unusedVariables false
set_option linter.unusedSimpArgs false
namespace Go.Proofs.Ytjjobgolpedgeaa
open Go.RowKit

set_option maxHeartbeats 8000000 in
set_option maxRecDepth 100000 in
theorem checkBallots_any (c : Cg) (self : Int) (A : Option Addr) (n cp : Nat) (V : List Lt) (w : World) (h : RdV w A n V) (hsm : (n + 2) * 64 ≤ 140737488355328) (hwf : ∀ x ∈ V, ∀ y ∈ x.log, (Lit.int .i64 y.n).wf = true) :
    Calls Try.prog 65 #[c.agg, .int .i64 self, .slice A n cp] w fun e w' => e = .returned (.int .i64 (chkR Lt.n (Lt.may c.r) c self V)) ∧ Below w.heap.size w w' := by
  obtain ⟨cf, cr, cpp, cu⟩ := c
  obtain ⟨L, h1, h2, h3⟩ := h.raws
  have H := Lib.hid h1
  have HL := Lib.hid h1.len
  have HSM := Lib.hid hsm
  have HO := Lib.hid h2
  have HV := Lib.hid h3
  have HWF := Lib.hid hwf
  clear h hsm h1 h2 h3 hwf
  go_enter Try.func65, Try.ntmps65
  go_upto_region 1 with fail
  have OC := Lib.hid (Ob.fresh w #[.int .i64 cf, .int .i64 cr, .int .i64 cpp, .bool cu] 70)
  have BW : Hid (Below w.heap.size w (w.alloc (.cells #[.int .i64 cf, .int .i64 cr, .int .i64 cpp, .bool cu] 70))) := below_al _ _
  generalize w.alloc (.cells #[.int .i64 cf, .int .i64 cr, .int .i64 cpp, .bool cu] 70) = w1 at OC BW ⊢
  generalize w.heap.size = r at OC ⊢
  have H1 := Lib.hid (H.out.below BW.out)
  have SX : Hid (∀ y, Below w1.heap.size w1 y → (y.cell? ⟨r, 0, none⟩ = some (.int .i64 cf) ∧ y.cell? ⟨r, 1, none⟩ = some (.int .i64 cr) ∧ y.cell? ⟨r, 2, none⟩ = some (.int .i64 cpp) ∧ y.cell? ⟨r, 3, none⟩ = some (.bool cu)) ∧ Below w1.heap.size w1 y) := fun y hb => ⟨(OC.out.below hb).all4, hb⟩
  have F1 : Hid (∀ y, ((y.cell? ⟨r, 0, none⟩ = some (.int .i64 cf) ∧ y.cell? ⟨r, 1, none⟩ = some (.int .i64 cr) ∧ y.cell? ⟨r, 2, none⟩ = some (.int .i64 cpp) ∧ y.cell? ⟨r, 3, none⟩ = some (.bool cu)) ∧ Below w1.heap.size w1 y) → Calls Try.prog 90 #[.slice A n cp, .func (.func 91) #[] #[]] y fun e y' => RetL 144 6 Bt.cells y L e y' ∧ ((y'.cell? ⟨r, 0, none⟩ = some (.int .i64 cf) ∧ y'.cell? ⟨r, 1, none⟩ = some (.int .i64 cr) ∧ y'.cell? ⟨r, 2, none⟩ = some (.int .i64 cpp) ∧ y'.cell? ⟨r, 3, none⟩ = some (.bool cu)) ∧ Below w1.heap.size w1 y')) := fun y hy =>
    (turn_toBallot A n cp L y (H1.out.below hy.2) (by have := HSM.out; omega)).mono fun e y' h9 => ⟨h9, SX.out _ (hy.2.trans (h9.choose_spec.choose_spec.2.1.mono hy.2.size))⟩
  have F2 : Hid (∀ y A1 c1, ((y.cell? ⟨r, 0, none⟩ = some (.int .i64 cf) ∧ y.cell? ⟨r, 1, none⟩ = some (.int .i64 cr) ∧ y.cell? ⟨r, 2, none⟩ = some (.int .i64 cpp) ∧ y.cell? ⟨r, 3, none⟩ = some (.bool cu)) ∧ Below w1.heap.size w1 y) → RdC 6 Bt.cells y A1 L.length L → Calls Try.prog 132 #[.agg #[.int .i64 cf, .int .i64 cr, .int .i64 cpp, .bool cu], .int .i64 self, .slice A1 L.length c1, .func (.func 133) #[] #[.pointer (some ⟨r, 0, none⟩)]] y fun e y' => e = .returned (.int .i64 (chkR Lt.n (Lt.may cr) ⟨cf, cr, cpp, cu⟩ self V)) ∧ ((y'.cell? ⟨r, 0, none⟩ = some (.int .i64 cf) ∧ y'.cell? ⟨r, 1, none⟩ = some (.int .i64 cr) ∧ y'.cell? ⟨r, 2, none⟩ = some (.int .i64 cpp) ∧ y'.cell? ⟨r, 3, none⟩ = some (.bool cu)) ∧ Below w1.heap.size w1 y')) := fun y A1 c1 hy hr =>
    (checkBallot_any ⟨cf, cr, cpp, cu⟩ r self A1 L.length c1 V y (by rw [← HV.out]; exact RdV.of hr fun z hz => ⟨((HO.out z hz).1.below BW.out).below hy.2, (HO.out z hz).2⟩) (by have := HSM.out; have := HL.out; omega) HWF.out (OC.out.below hy.2)).mono fun e y' h9 => ⟨h9.1, SX.out _ (hy.2.trans (h9.2.mono hy.2.size))⟩
  obtain ⟨⟨p0, p1, p2, p3⟩, _⟩ := SX.out _ (Below.refl _ _)
  obtain ⟨R, hR⟩ : ∃ R, chkR Lt.n (Lt.may cr) ⟨cf, cr, cpp, cu⟩ self V = R := ⟨_, rfl⟩
  rw [hR] at F2
  have HR := Lib.hid hR
  clear hR
  go_region_held3 (fun y => (y.cell? ⟨r, 0, none⟩ = some (.int .i64 cf) ∧ y.cell? ⟨r, 1, none⟩ = some (.int .i64 cr) ∧ y.cell? ⟨r, 2, none⟩ = some (.int .i64 cpp) ∧ y.cell? ⟨r, 3, none⟩ = some (.bool cu)) ∧ Below w1.heap.size w1 y) (first | exact ⟨⟨p0, p1, p2, p3⟩, Below.drew (Below.refl _ _)⟩ | assumption | go_keep)
    (first
     | (go_at_call 132; refine (F2.out _ A1 c1 hx1 r1).mono ?_; rintro e x2 ⟨rfl, hx2⟩)
     | (go_at_call 90; refine (F1.out _ (by first | assumption | (simp [*]))).mono ?_; rintro e x1 ⟨⟨A1, c1, rfl, hb1, ho1⟩, hx1⟩; have r1 := rdBt ho1 rfl))
  all_goals have HB := Lib.hid hx2.2
  all_goals clear hx1 hx2 hb1 ho1 r1 p0 p1 p2 p3 F1 F2 SX
  all_goals (go_wp2_with fail)
  all_goals go_ret
  all_goals exact ⟨by rw [HR.out]; exact rfl, BW.out.trans (HB.out.mono BW.out.size)⟩
end Go.Proofs.Ytjjobgolpedgeaa
set_option linter.unusedVariables false
set_option linter.unusedSimpArgs false
namespace Go.Proofs.Ytjjobgolpedgeaa
open Go.RowKit

set_option maxHeartbeats 8000000 in
set_option maxRecDepth 100000 in
theorem refCheckBallots_any (c : Cg) (self : Int) (A : Option Addr) (n cp : Nat) (L : List Lt) (w : World) (h : RdVc w A n L) (hsm : n * 64 ≤ 140737488355328) :
    Calls Try.prog 67 #[c.agg, .int .i64 self, .slice A n cp] w fun e w' => e = .returned (.int .i64 (chkR Lt.n (Lt.may c.r) c self L)) ∧ Below w.heap.size w w' := by
  have H := Lib.hid h
  have HL := Lib.hid h.len
  have hn : (n : Int) ≤ 6000000000000 := by omega
  clear h hsm
  have FCF := Lib.hid (config_any c)
  have FV := Lib.hid (fun ahead node w hf => voter_any c self ahead node w hf)
  obtain ⟨R, hR⟩ : ∃ R, chkR Lt.n (Lt.may c.r) c self L = R := ⟨_, rfl⟩
  have HR := Lib.hid hR
  rw [hR]
  clear hR
  obtain ⟨cf, cr, cpp, cu⟩ := c
  go_enter Try.func67, Try.ntmps67
  go_wp2_with fail
  have OC := Lib.hid (Ob.fresh w #[.int .i64 cf, .int .i64 cr, .int .i64 cpp, .bool cu] 70)
  have BW : Hid (Below w.heap.size w (w.alloc (.cells #[.int .i64 cf, .int .i64 cr, .int .i64 cpp, .bool cu] 70))) := below_al _ _
  generalize w.alloc (.cells #[.int .i64 cf, .int .i64 cr, .int .i64 cpp, .bool cu] 70) = w1 at OC BW ⊢
  generalize w.heap.size = r at OC ⊢
  refine (FCF.out _).mono ?_
  rintro e w2 ⟨rfl, hb2⟩
  have OC2 := Lib.hid (OC.out.below hb2)
  have BW2 := Lib.hid (BW.out.trans (hb2.mono BW.out.size))
  clear hb2 OC BW FCF
  by_cases hbad : Cg.bad ⟨cf, cr, cpp, cu⟩
  · have HE : Hid (R = 1) := by rw [← HR.out]; exact chkR_bad hbad
    rw [if_pos hbad]
    clear hbad
    go_wp2_with fail
    go_ret
    exact ⟨by rw [HE.out]; exact rfl, BW2.out⟩
  rw [if_neg hbad]
  have HG := Lib.hid hbad
  have HF : Hid (1 ≤ cf ∧ cf ≤ 3) := by unfold Cg.bad at hbad; simp only at hbad; simp only [Hid]; omega
  clear hbad
  have H2 := Lib.hid (H.out.below BW2.out)
  go_wp2_with fail
  go_loopw [7, 8] (fun av iv wr => ∃ (k : Nat), k ≤ n ∧ av = .int .i64 (prevN Lt.n L k) ∧ iv = .int .i64 k ∧ Hid (Below w2.heap.size w2 wr) ∧ Hid (∀ i, i < k → okI Lt.n (Lt.may cr) cf self L i = true)) (fun _ iv _ => n - (intOf iv).toNat)
  case atStart => exact ⟨0, by omega, rfl, rfl, Below.refl _ _, fun i hi => by omega⟩
  case round =>
    obtain ⟨k, hk, rfl, rfl, HB, HO⟩ := hrel
    by_cases hkn : k < n
    · obtain ⟨x, hx⟩ : ∃ x, L[k]? = some x := ⟨_, List.getElem?_eq_getElem (by have := HL.out; omega)⟩
      obtain ⟨al, bX, jX, rfl, hoX, hjX, g0, g1, g2, g3, g4, g5⟩ := (H2.out.below HB.out).atV hx
      have HOX := Lib.hid hoX
      have HJX := Lib.hid hjX
      clear hoX hjX g1 g2
      obtain ⟨o0, o1, o2, o3⟩ := (OC2.out.below HB.out).all4
      have HPV : Hid (prevN Lt.n L (k + 1) = x.n) := by unfold prevN; rw [if_neg (by omega), Nat.add_sub_cancel, hx]; exact rfl
      obtain ⟨ahead, hah⟩ : ∃ a, prevN Lt.n L k = a := ⟨_, rfl⟩
      rw [hah]
      have HAH := Lib.hid hah
      have hki : (k : Int) < (n : Int) := by omega
      have HKN := Lib.hid hkn
      have HXX := Lib.hid hx
      clear hx hkn hk hah
      go_upto_region 7 with fail
      have FO := Lib.hid (fun y (hx : ((y.cell? ⟨r, 0, none⟩ = some (.int .i64 cf) ∧ y.cell? ⟨r, 1, none⟩ = some (.int .i64 cr) ∧ y.cell? ⟨r, 2, none⟩ = some (.int .i64 cpp) ∧ y.cell? ⟨r, 3, none⟩ = some (.bool cu)) ∧ (y.cell? (al.add (k * 6)) = some (.int .i64 x.n) ∧ y.cell? ⟨(al.add (k * 6)).block, (al.add (k * 6)).off + 3, none⟩ = some (.int .i64 x.v) ∧ y.cell? ⟨(al.add (k * 6)).block, (al.add (k * 6)).off + 4, none⟩ = some (.int .i64 x.c) ∧ y.cell? ⟨(al.add (k * 6)).block, (al.add (k * 6)).off + 5, none⟩ = some (.slice bX x.log.length jX)) ∧ Below wr.heap.size wr y)) => (FV.out ahead x.n y HF.out).mono (fun e y' (h9 : _ ∧ _) => show e = .returned (.bool (voterF cf self ahead x.n)) ∧ ((y'.cell? ⟨r, 0, none⟩ = some (.int .i64 cf) ∧ y'.cell? ⟨r, 1, none⟩ = some (.int .i64 cr) ∧ y'.cell? ⟨r, 2, none⟩ = some (.int .i64 cpp) ∧ y'.cell? ⟨r, 3, none⟩ = some (.bool cu)) ∧ (y'.cell? (al.add (k * 6)) = some (.int .i64 x.n) ∧ y'.cell? ⟨(al.add (k * 6)).block, (al.add (k * 6)).off + 3, none⟩ = some (.int .i64 x.v) ∧ y'.cell? ⟨(al.add (k * 6)).block, (al.add (k * 6)).off + 4, none⟩ = some (.int .i64 x.c) ∧ y'.cell? ⟨(al.add (k * 6)).block, (al.add (k * 6)).off + 5, none⟩ = some (.slice bX x.log.length jX)) ∧ Below wr.heap.size wr y') from ⟨h9.1, ⟨keep4 h9.2 hx.1, ⟨(h9.2.cell (World.block_lt_of_cell? y _ hx.2.1.1)).trans hx.2.1.1, (h9.2.cell (World.block_lt_of_cell? y _ hx.2.1.2.1)).trans hx.2.1.2.1, (h9.2.cell (World.block_lt_of_cell? y _ hx.2.1.2.2.1)).trans hx.2.1.2.2.1, (h9.2.cell (World.block_lt_of_cell? y _ hx.2.1.2.2.2)).trans hx.2.1.2.2.2⟩, hx.2.2.trans (h9.2.mono hx.2.2.size)⟩⟩))
      have FW := Lib.hid (fun y (hx : ((y.cell? ⟨r, 0, none⟩ = some (.int .i64 cf) ∧ y.cell? ⟨r, 1, none⟩ = some (.int .i64 cr) ∧ y.cell? ⟨r, 2, none⟩ = some (.int .i64 cpp) ∧ y.cell? ⟨r, 3, none⟩ = some (.bool cu)) ∧ (y.cell? (al.add (k * 6)) = some (.int .i64 x.n) ∧ y.cell? ⟨(al.add (k * 6)).block, (al.add (k * 6)).off + 3, none⟩ = some (.int .i64 x.v) ∧ y.cell? ⟨(al.add (k * 6)).block, (al.add (k * 6)).off + 4, none⟩ = some (.int .i64 x.c) ∧ y.cell? ⟨(al.add (k * 6)).block, (al.add (k * 6)).off + 5, none⟩ = some (.slice bX x.log.length jX)) ∧ Below wr.heap.size wr y)) => (whole_any cf cr cpp cu x.v bX jX x.log x.c y (HOX.out.below hx.2.2) HJX.out).mono (fun e y' (h9 : _ ∧ _) => show e = .returned (.bool (Lt.may cr x)) ∧ ((y'.cell? ⟨r, 0, none⟩ = some (.int .i64 cf) ∧ y'.cell? ⟨r, 1, none⟩ = some (.int .i64 cr) ∧ y'.cell? ⟨r, 2, none⟩ = some (.int .i64 cpp) ∧ y'.cell? ⟨r, 3, none⟩ = some (.bool cu)) ∧ (y'.cell? (al.add (k * 6)) = some (.int .i64 x.n) ∧ y'.cell? ⟨(al.add (k * 6)).block, (al.add (k * 6)).off + 3, none⟩ = some (.int .i64 x.v) ∧ y'.cell? ⟨(al.add (k * 6)).block, (al.add (k * 6)).off + 4, none⟩ = some (.int .i64 x.c) ∧ y'.cell? ⟨(al.add (k * 6)).block, (al.add (k * 6)).off + 5, none⟩ = some (.slice bX x.log.length jX)) ∧ Below wr.heap.size wr y') from ⟨h9.1, ⟨keep4 h9.2 hx.1, ⟨(h9.2.cell (World.block_lt_of_cell? y _ hx.2.1.1)).trans hx.2.1.1, (h9.2.cell (World.block_lt_of_cell? y _ hx.2.1.2.1)).trans hx.2.1.2.1, (h9.2.cell (World.block_lt_of_cell? y _ hx.2.1.2.2.1)).trans hx.2.1.2.2.1, (h9.2.cell (World.block_lt_of_cell? y _ hx.2.1.2.2.2)).trans hx.2.1.2.2.2⟩, hx.2.2.trans (h9.2.mono hx.2.2.size)⟩⟩))
      obtain ⟨bb, hbb⟩ : ∃ bb, voterF cf self ahead x.n = bb := ⟨_, rfl⟩
      rw [hbb] at FO
      have HBB := Lib.hid hbb
      clear hbb
      obtain ⟨wb, hwb⟩ : ∃ wb, Lt.may cr x = wb := ⟨_, rfl⟩
      rw [hwb] at FW
      have HWB := Lib.hid hwb
      clear hwb
      cases bb with
      | false =>
        refine wp_region_held_drew (S := (fun y => ((y.cell? ⟨r, 0, none⟩ = some (.int .i64 cf) ∧ y.cell? ⟨r, 1, none⟩ = some (.int .i64 cr) ∧ y.cell? ⟨r, 2, none⟩ = some (.int .i64 cpp) ∧ y.cell? ⟨r, 3, none⟩ = some (.bool cu)) ∧ (y.cell? (al.add (k * 6)) = some (.int .i64 x.n) ∧ y.cell? ⟨(al.add (k * 6)).block, (al.add (k * 6)).off + 3, none⟩ = some (.int .i64 x.v) ∧ y.cell? ⟨(al.add (k * 6)).block, (al.add (k * 6)).off + 4, none⟩ = some (.int .i64 x.c) ∧ y.cell? ⟨(al.add (k * 6)).block, (al.add (k * 6)).off + 5, none⟩ = some (.slice bX x.log.length jX)) ∧ Below wr.heap.size wr y))) (by kernel_rfl) ⟨⟨o0, o1, o2, o3⟩, ⟨g0, g3, g4, g5⟩, Below.drew (Below.refl _ _)⟩ (fun hHeld => ?_)
        refine takeH0 (v := ?va0) (by kernel_rfl) (by kernel_rfl) (by kernel_rfl) (fun _ _ _ h => h) (by rfl) ?ya0 (by assumption) ?ra0
        case ya0 => (intro w hSw; (try dsimp only at hSw); go_simp; (try with_reducible rfl))
        try simp only [Act.put, List.setIfInBounds_toArray, List.set_cons_zero, List.set_cons_succ]
        refine takeH1 (v := ?va1) (by kernel_rfl) (by kernel_rfl) (by kernel_rfl) (fun _ _ _ h => h) (by rfl) ?ya1 (by assumption) ?ra1
        case ya1 => (intro w hSw; (try dsimp only at hSw); go_simp; (try with_reducible rfl))
        try simp only [Act.put, List.setIfInBounds_toArray, List.set_cons_zero, List.set_cons_succ]
        refine takeH2 (v := ?va2) (by kernel_rfl) (by kernel_rfl) (by kernel_rfl) (fun _ _ _ h => h) (by rfl) ?ya2 (by assumption) ?ra2
        case ya2 => (intro w hSw; (try dsimp only at hSw); go_simp; (try with_reducible rfl))
        try simp only [Act.put, List.setIfInBounds_toArray, List.set_cons_zero, List.set_cons_succ]
        refine takeH3 (v := ?va3) (by kernel_rfl) (by kernel_rfl) (by kernel_rfl) (fun _ _ _ h => h) (by rfl) ?ya3 (by assumption) ?ra3
        case ya3 => (intro w hSw; (try dsimp only at hSw); go_simp; (try with_reducible rfl))
        try simp only [Act.put, List.setIfInBounds_toArray, List.set_cons_zero, List.set_cons_succ]
        refine takeH4 (v := ?va4) (by kernel_rfl) (by kernel_rfl) (by kernel_rfl) (fun _ _ _ h => h) (by rfl) ?ya4 (by assumption) ?ra4
        case ya4 => (intro w hSw; (try dsimp only at hSw); go_simp; (try with_reducible rfl))
        try simp only [Act.put, List.setIfInBounds_toArray, List.set_cons_zero, List.set_cons_succ]
        refine takeH5 (v := ?va5) (by kernel_rfl) (by kernel_rfl) (by kernel_rfl) (fun _ _ _ h => h) (by rfl) ?ya5 (by assumption) ?ra5
        case ya5 => (intro w hSw; (try dsimp only at hSw); go_simp; (try with_reducible rfl))
        try simp only [Act.put, List.setIfInBounds_toArray, List.set_cons_zero, List.set_cons_succ]
        refine takeH6 (v := ?va6) (by kernel_rfl) (by kernel_rfl) (by kernel_rfl) (fun _ _ _ h => h) (by rfl) ?ya6 (by assumption) ?ra6
        case ya6 => (intro w hSw; (try dsimp only at hSw); go_simp; (try with_reducible rfl))
        try simp only [Act.put, List.setIfInBounds_toArray, List.set_cons_zero, List.set_cons_succ]
        refine takeH7 (v := ?va7) (by kernel_rfl) (by kernel_rfl) (by kernel_rfl) (fun _ _ _ h => h) (by rfl) ?ya7 (by assumption) ?ra7
        case ya7 => (intro w hSw; (try dsimp only at hSw); go_simp; (try with_reducible rfl))
        try simp only [Act.put, List.setIfInBounds_toArray, List.set_cons_zero, List.set_cons_succ]
        refine callH8 (by kernel_rfl) (fun K hK => ?_)
        first | (go_at_call 100; refine (FO.out _ hHeld).mono ?_; rintro e xv ⟨rfl, hv⟩) | (go_simp; go_at_call 100; refine (FO.out _ hHeld).mono ?_; rintro e xv ⟨rfl, hv⟩)
        refine hK.out _ _ hv (fun hvH => ?_)
        clear hK K
        try simp only [Act.put, List.setIfInBounds_toArray, List.set_cons_zero, List.set_cons_succ]
        refine takeH9 (v := ?va9) (by kernel_rfl) (by kernel_rfl) (by kernel_rfl) (fun _ _ _ h => h) (by rfl) ?ya9 (by assumption) ?ra9
        case ya9 => (intro w hSw; (try dsimp only at hSw); go_simp; (try with_reducible rfl))
        try simp only [Act.put, List.setIfInBounds_toArray, List.set_cons_zero, List.set_cons_succ]
        refine takeH10 (v := ?va10) (by kernel_rfl) (by kernel_rfl) (by kernel_rfl) (fun _ _ _ h => h) (by rfl) ?ya10 (by assumption) ?ra10
        case ya10 => (intro w hSw; (try dsimp only at hSw); go_simp; (try with_reducible rfl))
        try simp only [Act.put, List.setIfInBounds_toArray, List.set_cons_zero, List.set_cons_succ]
        refine skipH11 (by kernel_rfl) (by kernel_rfl) (by kernel_rfl) (fun _ _ _ h => h) (by rfl) (by assumption) ?_
        try simp only [Act.put, List.setIfInBounds_toArray, List.set_cons_zero, List.set_cons_succ]
        refine skipH12 (by kernel_rfl) (by kernel_rfl) (by kernel_rfl) (fun _ _ _ h => h) (by rfl) (by assumption) ?_
        try simp only [Act.put, List.setIfInBounds_toArray, List.set_cons_zero, List.set_cons_succ]
        refine skipH13 (by kernel_rfl) (by kernel_rfl) (by kernel_rfl) (fun _ _ _ h => h) (by rfl) (by assumption) ?_
        try simp only [Act.put, List.setIfInBounds_toArray, List.set_cons_zero, List.set_cons_succ]
        refine skipH14 (by kernel_rfl) (by kernel_rfl) (by kernel_rfl) (fun _ _ _ h => h) (by rfl) (by assumption) ?_
        try simp only [Act.put, List.setIfInBounds_toArray, List.set_cons_zero, List.set_cons_succ]
        refine skipH15 (by kernel_rfl) (by kernel_rfl) (by kernel_rfl) (fun _ _ _ h => h) (by rfl) (by assumption) ?_
        try simp only [Act.put, List.setIfInBounds_toArray, List.set_cons_zero, List.set_cons_succ]
        refine skipH16 (by kernel_rfl) (by kernel_rfl) (by kernel_rfl) (fun _ _ _ h => h) (by rfl) (by assumption) ?_
        try simp only [Act.put, List.setIfInBounds_toArray, List.set_cons_zero, List.set_cons_succ]
        refine skipH17 (by kernel_rfl) (by kernel_rfl) (by kernel_rfl) (fun _ _ _ h => h) (by rfl) (by assumption) ?_
        try simp only [Act.put, List.setIfInBounds_toArray, List.set_cons_zero, List.set_cons_succ]
        refine skipH18 (by kernel_rfl) (by kernel_rfl) (by kernel_rfl) (fun _ _ _ h => h) (by rfl) (by assumption) ?_
        try simp only [Act.put, List.setIfInBounds_toArray, List.set_cons_zero, List.set_cons_succ]
        refine skipH19 (by kernel_rfl) (by kernel_rfl) (by kernel_rfl) (fun _ _ _ h => h) (by rfl) (by assumption) ?_
        try simp only [Act.put, List.setIfInBounds_toArray, List.set_cons_zero, List.set_cons_succ]
        refine skipH20 (by kernel_rfl) (by kernel_rfl) (by kernel_rfl) (fun _ _ _ h => h) (by rfl) (by assumption) ?_
        try simp only [Act.put, List.setIfInBounds_toArray, List.set_cons_zero, List.set_cons_succ]
        refine skipH21 (by kernel_rfl) (by kernel_rfl) (by kernel_rfl) (fun _ _ _ h => h) (by rfl) (by assumption) ?_
        try simp only [Act.put, List.setIfInBounds_toArray, List.set_cons_zero, List.set_cons_succ]
        refine skipH22 (by kernel_rfl) (by kernel_rfl) (by kernel_rfl) (fun _ _ _ h => h) (by rfl) (by assumption) ?_
        try simp only [Act.put, List.setIfInBounds_toArray, List.set_cons_zero, List.set_cons_succ]
        refine skipH23 (by kernel_rfl) (by kernel_rfl) (by kernel_rfl) (fun _ _ _ h => h) (by rfl) (by assumption) ?_
        try simp only [Act.put, List.setIfInBounds_toArray, List.set_cons_zero, List.set_cons_succ]
        refine skipH24 (by kernel_rfl) (by kernel_rfl) (by kernel_rfl) (fun _ _ _ h => h) (by rfl) (by assumption) ?_
        try simp only [Act.put, List.setIfInBounds_toArray, List.set_cons_zero, List.set_cons_succ]
        refine skipH25 (by kernel_rfl) (by kernel_rfl) (by kernel_rfl) (fun _ _ _ h => h) (by rfl) (by assumption) ?_
        try simp only [Act.put, List.setIfInBounds_toArray, List.set_cons_zero, List.set_cons_succ]
        refine skipH26 (by kernel_rfl) (by kernel_rfl) (by kernel_rfl) (fun _ _ _ h => h) (by rfl) (by assumption) ?_
        try simp only [Act.put, List.setIfInBounds_toArray, List.set_cons_zero, List.set_cons_succ]
        refine skipH27 (by kernel_rfl) (by kernel_rfl) (by kernel_rfl) (fun _ _ _ h => h) (by rfl) (by assumption) ?_
        try simp only [Act.put, List.setIfInBounds_toArray, List.set_cons_zero, List.set_cons_succ]
        refine skipH28 (by kernel_rfl) (by kernel_rfl) (by kernel_rfl) (fun _ _ _ h => h) (by rfl) (by assumption) ?_
        try simp only [Act.put, List.setIfInBounds_toArray, List.set_cons_zero, List.set_cons_succ]
        refine takeH29 (v := ?va29) (by kernel_rfl) (by kernel_rfl) (by kernel_rfl) (fun _ _ _ h => h) (by rfl) ?ya29 (by assumption) ?ra29
        case ya29 => (intro w hSw; (try dsimp only at hSw); go_simp; (try with_reducible rfl))
        try simp only [Act.put, List.setIfInBounds_toArray, List.set_cons_zero, List.set_cons_succ]
        refine wpAnyH_done (by kernel_rfl) ?_ _
        have B3 : Hid (Below w2.heap.size w2 xv) := HB.out.trans (hv.2.2.mono HB.out.size)
        clear hv
        clear FO FW HB g0 g3 g4 g5 o0 o1 o2 o3
        have HE : Hid (R = 80) := by rw [← HR.out]; exact chkR_one (i := k) HG.out (by have := HKN.out; have := HL.out; omega) (by unfold okI; rw [HXX.out, HAH.out]; show (voterF cf self ahead x.n && (Lt.may cr) x) = false; rw [HBB.out, Bool.false_and])
        go_wp2_with fail
        go_ret
        exact ⟨by rw [HE.out]; exact rfl, BW2.out.trans (B3.out.mono BW2.out.size)⟩
      | true =>
        cases wb with
        | false =>
          refine wp_region_held_drew (S := (fun y => ((y.cell? ⟨r, 0, none⟩ = some (.int .i64 cf) ∧ y.cell? ⟨r, 1, none⟩ = some (.int .i64 cr) ∧ y.cell? ⟨r, 2, none⟩ = some (.int .i64 cpp) ∧ y.cell? ⟨r, 3, none⟩ = some (.bool cu)) ∧ (y.cell? (al.add (k * 6)) = some (.int .i64 x.n) ∧ y.cell? ⟨(al.add (k * 6)).block, (al.add (k * 6)).off + 3, none⟩ = some (.int .i64 x.v) ∧ y.cell? ⟨(al.add (k * 6)).block, (al.add (k * 6)).off + 4, none⟩ = some (.int .i64 x.c) ∧ y.cell? ⟨(al.add (k * 6)).block, (al.add (k * 6)).off + 5, none⟩ = some (.slice bX x.log.length jX)) ∧ Below wr.heap.size wr y))) (by kernel_rfl) ⟨⟨o0, o1, o2, o3⟩, ⟨g0, g3, g4, g5⟩, Below.drew (Below.refl _ _)⟩ (fun hHeld => ?_)
          refine takeH0 (v := ?vb0) (by kernel_rfl) (by kernel_rfl) (by kernel_rfl) (fun _ _ _ h => h) (by rfl) ?yb0 (by assumption) ?rb0
          case yb0 => (intro w hSw; (try dsimp only at hSw); go_simp; (try with_reducible rfl))
          try simp only [Act.put, List.setIfInBounds_toArray, List.set_cons_zero, List.set_cons_succ]
          refine takeH1 (v := ?vb1) (by kernel_rfl) (by kernel_rfl) (by kernel_rfl) (fun _ _ _ h => h) (by rfl) ?yb1 (by assumption) ?rb1
          case yb1 => (intro w hSw; (try dsimp only at hSw); go_simp; (try with_reducible rfl))
          try simp only [Act.put, List.setIfInBounds_toArray, List.set_cons_zero, List.set_cons_succ]
          refine takeH2 (v := ?vb2) (by kernel_rfl) (by kernel_rfl) (by kernel_rfl) (fun _ _ _ h => h) (by rfl) ?yb2 (by assumption) ?rb2
          case yb2 => (intro w hSw; (try dsimp only at hSw); go_simp; (try with_reducible rfl))
          try simp only [Act.put, List.setIfInBounds_toArray, List.set_cons_zero, List.set_cons_succ]
          refine takeH3 (v := ?vb3) (by kernel_rfl) (by kernel_rfl) (by kernel_rfl) (fun _ _ _ h => h) (by rfl) ?yb3 (by assumption) ?rb3
          case yb3 => (intro w hSw; (try dsimp only at hSw); go_simp; (try with_reducible rfl))
          try simp only [Act.put, List.setIfInBounds_toArray, List.set_cons_zero, List.set_cons_succ]
          refine takeH4 (v := ?vb4) (by kernel_rfl) (by kernel_rfl) (by kernel_rfl) (fun _ _ _ h => h) (by rfl) ?yb4 (by assumption) ?rb4
          case yb4 => (intro w hSw; (try dsimp only at hSw); go_simp; (try with_reducible rfl))
          try simp only [Act.put, List.setIfInBounds_toArray, List.set_cons_zero, List.set_cons_succ]
          refine takeH5 (v := ?vb5) (by kernel_rfl) (by kernel_rfl) (by kernel_rfl) (fun _ _ _ h => h) (by rfl) ?yb5 (by assumption) ?rb5
          case yb5 => (intro w hSw; (try dsimp only at hSw); go_simp; (try with_reducible rfl))
          try simp only [Act.put, List.setIfInBounds_toArray, List.set_cons_zero, List.set_cons_succ]
          refine takeH6 (v := ?vb6) (by kernel_rfl) (by kernel_rfl) (by kernel_rfl) (fun _ _ _ h => h) (by rfl) ?yb6 (by assumption) ?rb6
          case yb6 => (intro w hSw; (try dsimp only at hSw); go_simp; (try with_reducible rfl))
          try simp only [Act.put, List.setIfInBounds_toArray, List.set_cons_zero, List.set_cons_succ]
          refine takeH7 (v := ?vb7) (by kernel_rfl) (by kernel_rfl) (by kernel_rfl) (fun _ _ _ h => h) (by rfl) ?yb7 (by assumption) ?rb7
          case yb7 => (intro w hSw; (try dsimp only at hSw); go_simp; (try with_reducible rfl))
          try simp only [Act.put, List.setIfInBounds_toArray, List.set_cons_zero, List.set_cons_succ]
          refine callH8 (by kernel_rfl) (fun K hK => ?_)
          first | (go_at_call 100; refine (FO.out _ hHeld).mono ?_; rintro e xv ⟨rfl, hv⟩) | (go_simp; go_at_call 100; refine (FO.out _ hHeld).mono ?_; rintro e xv ⟨rfl, hv⟩)
          refine hK.out _ _ hv (fun hvH => ?_)
          clear hK K
          try simp only [Act.put, List.setIfInBounds_toArray, List.set_cons_zero, List.set_cons_succ]
          refine takeH9 (v := ?vb9) (by kernel_rfl) (by kernel_rfl) (by kernel_rfl) (fun _ _ _ h => h) (by rfl) ?yb9 (by assumption) ?rb9
          case yb9 => (intro w hSw; (try dsimp only at hSw); go_simp; (try with_reducible rfl))
          try simp only [Act.put, List.setIfInBounds_toArray, List.set_cons_zero, List.set_cons_succ]
          refine takeH10 (v := ?vb10) (by kernel_rfl) (by kernel_rfl) (by kernel_rfl) (fun _ _ _ h => h) (by rfl) ?yb10 (by assumption) ?rb10
          case yb10 => (intro w hSw; (try dsimp only at hSw); go_simp; (try with_reducible rfl))
          try simp only [Act.put, List.setIfInBounds_toArray, List.set_cons_zero, List.set_cons_succ]
          refine takeH11 (v := ?vb11) (by kernel_rfl) (by kernel_rfl) (by kernel_rfl) (fun _ _ _ h => h) (by rfl) ?yb11 (by assumption) ?rb11
          case yb11 => (intro w hSw; (try dsimp only at hSw); go_simp; (try with_reducible rfl))
          try simp only [Act.put, List.setIfInBounds_toArray, List.set_cons_zero, List.set_cons_succ]
          refine takeH12 (v := ?vb12) (by kernel_rfl) (by kernel_rfl) (by kernel_rfl) (fun _ _ _ h => h) (by rfl) ?yb12 (by assumption) ?rb12
          case yb12 => (intro w hSw; (try dsimp only at hSw); go_simp; (try with_reducible rfl))
          try simp only [Act.put, List.setIfInBounds_toArray, List.set_cons_zero, List.set_cons_succ]
          refine takeH13 (v := ?vb13) (by kernel_rfl) (by kernel_rfl) (by kernel_rfl) (fun _ _ _ h => h) (by rfl) ?yb13 (by assumption) ?rb13
          case yb13 => (intro w hSw; (try dsimp only at hSw); go_simp; (try with_reducible rfl))
          try simp only [Act.put, List.setIfInBounds_toArray, List.set_cons_zero, List.set_cons_succ]
          refine takeH14 (v := ?vb14) (by kernel_rfl) (by kernel_rfl) (by kernel_rfl) (fun _ _ _ h => h) (by rfl) ?yb14 (by assumption) ?rb14
          case yb14 => (intro w hSw; (try dsimp only at hSw); go_simp; (try with_reducible rfl))
          try simp only [Act.put, List.setIfInBounds_toArray, List.set_cons_zero, List.set_cons_succ]
          refine takeH15 (v := ?vb15) (by kernel_rfl) (by kernel_rfl) (by kernel_rfl) (fun _ _ _ h => h) (by rfl) ?yb15 (by assumption) ?rb15
          case yb15 => (intro w hSw; (try dsimp only at hSw); go_simp; (try with_reducible rfl))
          try simp only [Act.put, List.setIfInBounds_toArray, List.set_cons_zero, List.set_cons_succ]
          refine takeH16 (v := ?vb16) (by kernel_rfl) (by kernel_rfl) (by kernel_rfl) (fun _ _ _ h => h) (by rfl) ?yb16 (by assumption) ?rb16
          case yb16 => (intro w hSw; (try dsimp only at hSw); go_simp; (try with_reducible rfl))
          try simp only [Act.put, List.setIfInBounds_toArray, List.set_cons_zero, List.set_cons_succ]
          refine takeH17 (v := ?vb17) (by kernel_rfl) (by kernel_rfl) (by kernel_rfl) (fun _ _ _ h => h) (by rfl) ?yb17 (by assumption) ?rb17
          case yb17 => (intro w hSw; (try dsimp only at hSw); go_simp; (try with_reducible rfl))
          try simp only [Act.put, List.setIfInBounds_toArray, List.set_cons_zero, List.set_cons_succ]
          refine takeH18 (v := ?vb18) (by kernel_rfl) (by kernel_rfl) (by kernel_rfl) (fun _ _ _ h => h) (by rfl) ?yb18 (by assumption) ?rb18
          case yb18 => (intro w hSw; (try dsimp only at hSw); go_simp; (try with_reducible rfl))
          try simp only [Act.put, List.setIfInBounds_toArray, List.set_cons_zero, List.set_cons_succ]
          refine takeH19 (v := ?vb19) (by kernel_rfl) (by kernel_rfl) (by kernel_rfl) (fun _ _ _ h => h) (by rfl) ?yb19 (by assumption) ?rb19
          case yb19 => (intro w hSw; (try dsimp only at hSw); go_simp; (try with_reducible rfl))
          try simp only [Act.put, List.setIfInBounds_toArray, List.set_cons_zero, List.set_cons_succ]
          refine takeH20 (v := ?vb20) (by kernel_rfl) (by kernel_rfl) (by kernel_rfl) (fun _ _ _ h => h) (by rfl) ?yb20 (by assumption) ?rb20
          case yb20 => (intro w hSw; (try dsimp only at hSw); go_simp; (try with_reducible rfl))
          try simp only [Act.put, List.setIfInBounds_toArray, List.set_cons_zero, List.set_cons_succ]
          refine takeH21 (v := ?vb21) (by kernel_rfl) (by kernel_rfl) (by kernel_rfl) (fun _ _ _ h => h) (by rfl) ?yb21 (by assumption) ?rb21
          case yb21 => (intro w hSw; (try dsimp only at hSw); go_simp; (try with_reducible rfl))
          try simp only [Act.put, List.setIfInBounds_toArray, List.set_cons_zero, List.set_cons_succ]
          refine takeH22 (v := ?vb22) (by kernel_rfl) (by kernel_rfl) (by kernel_rfl) (fun _ _ _ h => h) (by rfl) ?yb22 (by assumption) ?rb22
          case yb22 => (intro w hSw; (try dsimp only at hSw); go_simp; (try with_reducible rfl))
          try simp only [Act.put, List.setIfInBounds_toArray, List.set_cons_zero, List.set_cons_succ]
          refine takeH23 (v := ?vb23) (by kernel_rfl) (by kernel_rfl) (by kernel_rfl) (fun _ _ _ h => h) (by rfl) ?yb23 (by assumption) ?rb23
          case yb23 => (intro w hSw; (try dsimp only at hSw); go_simp; (try with_reducible rfl))
          try simp only [Act.put, List.setIfInBounds_toArray, List.set_cons_zero, List.set_cons_succ]
          refine takeH24 (v := ?vb24) (by kernel_rfl) (by kernel_rfl) (by kernel_rfl) (fun _ _ _ h => h) (by rfl) ?yb24 (by assumption) ?rb24
          case yb24 => (intro w hSw; (try dsimp only at hSw); go_simp; (try with_reducible rfl))
          try simp only [Act.put, List.setIfInBounds_toArray, List.set_cons_zero, List.set_cons_succ]
          refine takeH25 (v := ?vb25) (by kernel_rfl) (by kernel_rfl) (by kernel_rfl) (fun _ _ _ h => h) (by rfl) ?yb25 (by assumption) ?rb25
          case yb25 => (intro w hSw; (try dsimp only at hSw); go_simp; (try with_reducible rfl))
          try simp only [Act.put, List.setIfInBounds_toArray, List.set_cons_zero, List.set_cons_succ]
          refine takeH26 (v := ?vb26) (by kernel_rfl) (by kernel_rfl) (by kernel_rfl) (fun _ _ _ h => h) (by rfl) ?yb26 (by assumption) ?rb26
          case yb26 => (intro w hSw; (try dsimp only at hSw); go_simp; (try with_reducible rfl))
          try simp only [Act.put, List.setIfInBounds_toArray, List.set_cons_zero, List.set_cons_succ]
          refine callH27 (by kernel_rfl) (fun K hK => ?_)
          first | (go_at_call 127; refine (FW.out _ hvH).mono ?_; rintro e xw ⟨rfl, hw⟩) | (go_simp; go_at_call 127; refine (FW.out _ hvH).mono ?_; rintro e xw ⟨rfl, hw⟩)
          refine hK.out _ _ hw (fun hwH => ?_)
          clear hK K
          try simp only [Act.put, List.setIfInBounds_toArray, List.set_cons_zero, List.set_cons_succ]
          refine takeH28 (v := ?vb28) (by kernel_rfl) (by kernel_rfl) (by kernel_rfl) (fun _ _ _ h => h) (by rfl) ?yb28 (by assumption) ?rb28
          case yb28 => (intro w hSw; (try dsimp only at hSw); go_simp; (try with_reducible rfl))
          try simp only [Act.put, List.setIfInBounds_toArray, List.set_cons_zero, List.set_cons_succ]
          refine takeH29 (v := ?vb29) (by kernel_rfl) (by kernel_rfl) (by kernel_rfl) (fun _ _ _ h => h) (by rfl) ?yb29 (by assumption) ?rb29
          case yb29 => (intro w hSw; (try dsimp only at hSw); go_simp; (try with_reducible rfl))
          try simp only [Act.put, List.setIfInBounds_toArray, List.set_cons_zero, List.set_cons_succ]
          refine wpAnyH_done (by kernel_rfl) ?_ _
          have B3 : Hid (Below w2.heap.size w2 xw) := HB.out.trans (hw.2.2.mono HB.out.size)
          clear hw hv
          clear FO FW HB g0 g3 g4 g5 o0 o1 o2 o3
          have HE : Hid (R = 80) := by rw [← HR.out]; exact chkR_one (i := k) HG.out (by have := HKN.out; have := HL.out; omega) (by unfold okI; rw [HXX.out, HAH.out]; show (voterF cf self ahead x.n && (Lt.may cr) x) = false; rw [HBB.out, Bool.true_and]; exact HWB.out)
          go_wp2_with fail
          go_ret
          exact ⟨by rw [HE.out]; exact rfl, BW2.out.trans (B3.out.mono BW2.out.size)⟩
        | true =>
          refine wp_region_held_drew (S := (fun y => ((y.cell? ⟨r, 0, none⟩ = some (.int .i64 cf) ∧ y.cell? ⟨r, 1, none⟩ = some (.int .i64 cr) ∧ y.cell? ⟨r, 2, none⟩ = some (.int .i64 cpp) ∧ y.cell? ⟨r, 3, none⟩ = some (.bool cu)) ∧ (y.cell? (al.add (k * 6)) = some (.int .i64 x.n) ∧ y.cell? ⟨(al.add (k * 6)).block, (al.add (k * 6)).off + 3, none⟩ = some (.int .i64 x.v) ∧ y.cell? ⟨(al.add (k * 6)).block, (al.add (k * 6)).off + 4, none⟩ = some (.int .i64 x.c) ∧ y.cell? ⟨(al.add (k * 6)).block, (al.add (k * 6)).off + 5, none⟩ = some (.slice bX x.log.length jX)) ∧ Below wr.heap.size wr y))) (by kernel_rfl) ⟨⟨o0, o1, o2, o3⟩, ⟨g0, g3, g4, g5⟩, Below.drew (Below.refl _ _)⟩ (fun hHeld => ?_)
          refine takeH0 (v := ?vc0) (by kernel_rfl) (by kernel_rfl) (by kernel_rfl) (fun _ _ _ h => h) (by rfl) ?yc0 (by assumption) ?rc0
          case yc0 => (intro w hSw; (try dsimp only at hSw); go_simp; (try with_reducible rfl))
          try simp only [Act.put, List.setIfInBounds_toArray, List.set_cons_zero, List.set_cons_succ]
          refine takeH1 (v := ?vc1) (by kernel_rfl) (by kernel_rfl) (by kernel_rfl) (fun _ _ _ h => h) (by rfl) ?yc1 (by assumption) ?rc1
          case yc1 => (intro w hSw; (try dsimp only at hSw); go_simp; (try with_reducible rfl))
          try simp only [Act.put, List.setIfInBounds_toArray, List.set_cons_zero, List.set_cons_succ]
          refine takeH2 (v := ?vc2) (by kernel_rfl) (by kernel_rfl) (by kernel_rfl) (fun _ _ _ h => h) (by rfl) ?yc2 (by assumption) ?rc2
          case yc2 => (intro w hSw; (try dsimp only at hSw); go_simp; (try with_reducible rfl))
          try simp only [Act.put, List.setIfInBounds_toArray, List.set_cons_zero, List.set_cons_succ]
          refine takeH3 (v := ?vc3) (by kernel_rfl) (by kernel_rfl) (by kernel_rfl) (fun _ _ _ h => h) (by rfl) ?yc3 (by assumption) ?rc3
          case yc3 => (intro w hSw; (try dsimp only at hSw); go_simp; (try with_reducible rfl))
          try simp only [Act.put, List.setIfInBounds_toArray, List.set_cons_zero, List.set_cons_succ]
          refine takeH4 (v := ?vc4) (by kernel_rfl) (by kernel_rfl) (by kernel_rfl) (fun _ _ _ h => h) (by rfl) ?yc4 (by assumption) ?rc4
          case yc4 => (intro w hSw; (try dsimp only at hSw); go_simp; (try with_reducible rfl))
          try simp only [Act.put, List.setIfInBounds_toArray, List.set_cons_zero, List.set_cons_succ]
          refine takeH5 (v := ?vc5) (by kernel_rfl) (by kernel_rfl) (by kernel_rfl) (fun _ _ _ h => h) (by rfl) ?yc5 (by assumption) ?rc5
          case yc5 => (intro w hSw; (try dsimp only at hSw); go_simp; (try with_reducible rfl))
          try simp only [Act.put, List.setIfInBounds_toArray, List.set_cons_zero, List.set_cons_succ]
          refine takeH6 (v := ?vc6) (by kernel_rfl) (by kernel_rfl) (by kernel_rfl) (fun _ _ _ h => h) (by rfl) ?yc6 (by assumption) ?rc6
          case yc6 => (intro w hSw; (try dsimp only at hSw); go_simp; (try with_reducible rfl))
          try simp only [Act.put, List.setIfInBounds_toArray, List.set_cons_zero, List.set_cons_succ]
          refine takeH7 (v := ?vc7) (by kernel_rfl) (by kernel_rfl) (by kernel_rfl) (fun _ _ _ h => h) (by rfl) ?yc7 (by assumption) ?rc7
          case yc7 => (intro w hSw; (try dsimp only at hSw); go_simp; (try with_reducible rfl))
          try simp only [Act.put, List.setIfInBounds_toArray, List.set_cons_zero, List.set_cons_succ]
          refine callH8 (by kernel_rfl) (fun K hK => ?_)
          first | (go_at_call 100; refine (FO.out _ hHeld).mono ?_; rintro e xv ⟨rfl, hv⟩) | (go_simp; go_at_call 100; refine (FO.out _ hHeld).mono ?_; rintro e xv ⟨rfl, hv⟩)
          refine hK.out _ _ hv (fun hvH => ?_)
          clear hK K
          try simp only [Act.put, List.setIfInBounds_toArray, List.set_cons_zero, List.set_cons_succ]
          refine takeH9 (v := ?vc9) (by kernel_rfl) (by kernel_rfl) (by kernel_rfl) (fun _ _ _ h => h) (by rfl) ?yc9 (by assumption) ?rc9
          case yc9 => (intro w hSw; (try dsimp only at hSw); go_simp; (try with_reducible rfl))
          try simp only [Act.put, List.setIfInBounds_toArray, List.set_cons_zero, List.set_cons_succ]
          refine takeH10 (v := ?vc10) (by kernel_rfl) (by kernel_rfl) (by kernel_rfl) (fun _ _ _ h => h) (by rfl) ?yc10 (by assumption) ?rc10
          case yc10 => (intro w hSw; (try dsimp only at hSw); go_simp; (try with_reducible rfl))
          try simp only [Act.put, List.setIfInBounds_toArray, List.set_cons_zero, List.set_cons_succ]
          refine takeH11 (v := ?vc11) (by kernel_rfl) (by kernel_rfl) (by kernel_rfl) (fun _ _ _ h => h) (by rfl) ?yc11 (by assumption) ?rc11
          case yc11 => (intro w hSw; (try dsimp only at hSw); go_simp; (try with_reducible rfl))
          try simp only [Act.put, List.setIfInBounds_toArray, List.set_cons_zero, List.set_cons_succ]
          refine takeH12 (v := ?vc12) (by kernel_rfl) (by kernel_rfl) (by kernel_rfl) (fun _ _ _ h => h) (by rfl) ?yc12 (by assumption) ?rc12
          case yc12 => (intro w hSw; (try dsimp only at hSw); go_simp; (try with_reducible rfl))
          try simp only [Act.put, List.setIfInBounds_toArray, List.set_cons_zero, List.set_cons_succ]
          refine takeH13 (v := ?vc13) (by kernel_rfl) (by kernel_rfl) (by kernel_rfl) (fun _ _ _ h => h) (by rfl) ?yc13 (by assumption) ?rc13
          case yc13 => (intro w hSw; (try dsimp only at hSw); go_simp; (try with_reducible rfl))
          try simp only [Act.put, List.setIfInBounds_toArray, List.set_cons_zero, List.set_cons_succ]
          refine takeH14 (v := ?vc14) (by kernel_rfl) (by kernel_rfl) (by kernel_rfl) (fun _ _ _ h => h) (by rfl) ?yc14 (by assumption) ?rc14
          case yc14 => (intro w hSw; (try dsimp only at hSw); go_simp; (try with_reducible rfl))
          try simp only [Act.put, List.setIfInBounds_toArray, List.set_cons_zero, List.set_cons_succ]
          refine takeH15 (v := ?vc15) (by kernel_rfl) (by kernel_rfl) (by kernel_rfl) (fun _ _ _ h => h) (by rfl) ?yc15 (by assumption) ?rc15
          case yc15 => (intro w hSw; (try dsimp only at hSw); go_simp; (try with_reducible rfl))
          try simp only [Act.put, List.setIfInBounds_toArray, List.set_cons_zero, List.set_cons_succ]
          refine takeH16 (v := ?vc16) (by kernel_rfl) (by kernel_rfl) (by kernel_rfl) (fun _ _ _ h => h) (by rfl) ?yc16 (by assumption) ?rc16
          case yc16 => (intro w hSw; (try dsimp only at hSw); go_simp; (try with_reducible rfl))
          try simp only [Act.put, List.setIfInBounds_toArray, List.set_cons_zero, List.set_cons_succ]
          refine takeH17 (v := ?vc17) (by kernel_rfl) (by kernel_rfl) (by kernel_rfl) (fun _ _ _ h => h) (by rfl) ?yc17 (by assumption) ?rc17
          case yc17 => (intro w hSw; (try dsimp only at hSw); go_simp; (try with_reducible rfl))
          try simp only [Act.put, List.setIfInBounds_toArray, List.set_cons_zero, List.set_cons_succ]
          refine takeH18 (v := ?vc18) (by kernel_rfl) (by kernel_rfl) (by kernel_rfl) (fun _ _ _ h => h) (by rfl) ?yc18 (by assumption) ?rc18
          case yc18 => (intro w hSw; (try dsimp only at hSw); go_simp; (try with_reducible rfl))
          try simp only [Act.put, List.setIfInBounds_toArray, List.set_cons_zero, List.set_cons_succ]
          refine takeH19 (v := ?vc19) (by kernel_rfl) (by kernel_rfl) (by kernel_rfl) (fun _ _ _ h => h) (by rfl) ?yc19 (by assumption) ?rc19
          case yc19 => (intro w hSw; (try dsimp only at hSw); go_simp; (try with_reducible rfl))
          try simp only [Act.put, List.setIfInBounds_toArray, List.set_cons_zero, List.set_cons_succ]
          refine takeH20 (v := ?vc20) (by kernel_rfl) (by kernel_rfl) (by kernel_rfl) (fun _ _ _ h => h) (by rfl) ?yc20 (by assumption) ?rc20
          case yc20 => (intro w hSw; (try dsimp only at hSw); go_simp; (try with_reducible rfl))
          try simp only [Act.put, List.setIfInBounds_toArray, List.set_cons_zero, List.set_cons_succ]
          refine takeH21 (v := ?vc21) (by kernel_rfl) (by kernel_rfl) (by kernel_rfl) (fun _ _ _ h => h) (by rfl) ?yc21 (by assumption) ?rc21
          case yc21 => (intro w hSw; (try dsimp only at hSw); go_simp; (try with_reducible rfl))
          try simp only [Act.put, List.setIfInBounds_toArray, List.set_cons_zero, List.set_cons_succ]
          refine takeH22 (v := ?vc22) (by kernel_rfl) (by kernel_rfl) (by kernel_rfl) (fun _ _ _ h => h) (by rfl) ?yc22 (by assumption) ?rc22
          case yc22 => (intro w hSw; (try dsimp only at hSw); go_simp; (try with_reducible rfl))
          try simp only [Act.put, List.setIfInBounds_toArray, List.set_cons_zero, List.set_cons_succ]
          refine takeH23 (v := ?vc23) (by kernel_rfl) (by kernel_rfl) (by kernel_rfl) (fun _ _ _ h => h) (by rfl) ?yc23 (by assumption) ?rc23
          case yc23 => (intro w hSw; (try dsimp only at hSw); go_simp; (try with_reducible rfl))
          try simp only [Act.put, List.setIfInBounds_toArray, List.set_cons_zero, List.set_cons_succ]
          refine takeH24 (v := ?vc24) (by kernel_rfl) (by kernel_rfl) (by kernel_rfl) (fun _ _ _ h => h) (by rfl) ?yc24 (by assumption) ?rc24
          case yc24 => (intro w hSw; (try dsimp only at hSw); go_simp; (try with_reducible rfl))
          try simp only [Act.put, List.setIfInBounds_toArray, List.set_cons_zero, List.set_cons_succ]
          refine takeH25 (v := ?vc25) (by kernel_rfl) (by kernel_rfl) (by kernel_rfl) (fun _ _ _ h => h) (by rfl) ?yc25 (by assumption) ?rc25
          case yc25 => (intro w hSw; (try dsimp only at hSw); go_simp; (try with_reducible rfl))
          try simp only [Act.put, List.setIfInBounds_toArray, List.set_cons_zero, List.set_cons_succ]
          refine takeH26 (v := ?vc26) (by kernel_rfl) (by kernel_rfl) (by kernel_rfl) (fun _ _ _ h => h) (by rfl) ?yc26 (by assumption) ?rc26
          case yc26 => (intro w hSw; (try dsimp only at hSw); go_simp; (try with_reducible rfl))
          try simp only [Act.put, List.setIfInBounds_toArray, List.set_cons_zero, List.set_cons_succ]
          refine callH27 (by kernel_rfl) (fun K hK => ?_)
          first | (go_at_call 127; refine (FW.out _ hvH).mono ?_; rintro e xw ⟨rfl, hw⟩) | (go_simp; go_at_call 127; refine (FW.out _ hvH).mono ?_; rintro e xw ⟨rfl, hw⟩)
          refine hK.out _ _ hw (fun hwH => ?_)
          clear hK K
          try simp only [Act.put, List.setIfInBounds_toArray, List.set_cons_zero, List.set_cons_succ]
          refine takeH28 (v := ?vc28) (by kernel_rfl) (by kernel_rfl) (by kernel_rfl) (fun _ _ _ h => h) (by rfl) ?yc28 (by assumption) ?rc28
          case yc28 => (intro w hSw; (try dsimp only at hSw); go_simp; (try with_reducible rfl))
          try simp only [Act.put, List.setIfInBounds_toArray, List.set_cons_zero, List.set_cons_succ]
          refine takeH29 (v := ?vc29) (by kernel_rfl) (by kernel_rfl) (by kernel_rfl) (fun _ _ _ h => h) (by rfl) ?yc29 (by assumption) ?rc29
          case yc29 => (intro w hSw; (try dsimp only at hSw); go_simp; (try with_reducible rfl))
          try simp only [Act.put, List.setIfInBounds_toArray, List.set_cons_zero, List.set_cons_succ]
          refine wpAnyH_done (by kernel_rfl) ?_ _
          have B3 : Hid (Below w2.heap.size w2 xw) := HB.out.trans (hw.2.2.mono HB.out.size)
          clear hw hv
          clear FO FW HB g0 g3 g4 g5 o0 o1 o2 o3
          have HE : Hid (okI Lt.n (Lt.may cr) cf self L k = true) := by
            unfold okI
            rw [HXX.out, HAH.out]
            show (voterF cf self ahead x.n && (Lt.may cr) x) = true
            rw [HBB.out, Bool.true_and]
            exact HWB.out
          have hk2 : (k : Int) + 1 ≤ 6000000000001 := by have := HKN.out; omega
          obtain ⟨al', bY, jY, e, _, _, g0, g1, g2, g3, g4, g5⟩ := (H2.out.below B3.out).atV HXX.out
          cases e
          go_wp2_with fail
          go_roundw
          case rel => exact ⟨k + 1, HKN.out, by rw [HPV.out], by go_num, B3.out, fun i hi => by
            by_cases e : i = k
            · rw [e]; exact HE.out
            · exact HO.out i (by omega)⟩
          case measure => have := HKN.out; simp [intOf]; omega
    · obtain rfl : n = k := by omega
      have hki : ¬ (n : Int) < (n : Int) := by omega
      have HE : Hid (R = 0) := by rw [← HR.out]; exact chkR_all HG.out fun i hi => HO.out i (by have := HL.out; omega)
      clear hkn hk
      go_wp2_with fail
      go_ret
      exact ⟨by rw [HE.out]; exact rfl, BW2.out.trans (HB.out.mono BW2.out.size)⟩
end Go.Proofs.Ytjjobgolpedgeaa
