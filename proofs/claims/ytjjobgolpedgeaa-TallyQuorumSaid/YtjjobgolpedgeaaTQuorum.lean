/-
  The walk of TallyQuorum.
-/
import Derived.Test.YtjjobgolpedgeaaTQuorumP
import Derived.Test.YtjjobgolpedgeaaTSmall
import Derived.Test.YtjjobgolpedgeaaTReach
import Derived.Test.YtjjobgolpedgeaaTWorks
set_option linter.unusedVariables false
set_option linter.unusedSimpArgs false
namespace Go.Proofs.Ytjjobgolpedgeaa
open Go.RowKit

set_option maxRecDepth 100000 in
set_option maxHeartbeats 3200000 in
theorem tallyQuorum_walk (fa oa : Int) (A : Option Addr) (n c : Nat) (L : List Ak) (v : Ak) (W : World) (wf : (Lit.int .i64 fa).wf = true) (wo : (Lit.int .i64 oa).wf = true) (h : RdC 4 Ak.cells W A n L) (hsm : n * 32 ≤ 140737488351232) :
    Calls Try.prog 10 #[.int .i64 fa, .int .i64 oa, .slice A n c, v.agg] W fun e w' => e = .returned (.bool true) ∧ Below W.heap.size W w' := by
  have H := Lib.hid h
  have HSM := Lib.hid hsm
  have HL := Lib.hid h.len
  have HWF := Lib.hid wf
  have HWO := Lib.hid wo
  have hnb : (n : Int) ≤ 6000000000000 := by omega
  clear h hsm wf wo
  go_enter Try.func10, Try.ntmps10
  go_wp2_with fail
  have OV0 := Lib.hid (Ob.fresh W #[.int .i64 v.n, .int .u64 (v.h : Nat), .int .u64 (v.l : Nat), .int .i64 v.p] 29)
  have B0 : Hid (Below W.heap.size W (W.alloc (.cells #[.int .i64 v.n, .int .u64 (v.h : Nat), .int .u64 (v.l : Nat), .int .i64 v.p] 29))) := (Below.refl _ _).alloc (Nat.le_refl _) _
  generalize W.alloc (.cells #[.int .i64 v.n, .int .u64 (v.h : Nat), .int .u64 (v.l : Nat), .int .i64 v.p] 29) = w0 at OV0 B0 ⊢
  obtain ⟨b, hb⟩ : ∃ b, W.heap.size = b := ⟨_, rfl⟩
  rw [hb] at OV0 ⊢
  have HB := Lib.hid hb
  clear hb
  refine (works_any _).mono ?_
  rintro e w1 ⟨rfl, hb1⟩
  have B1 : Hid (Below W.heap.size W w1) := B0.out.trans (hb1.mono B0.out.size)
  have OV1 := Lib.hid (OV0.out.below hb1)
  clear hb1 B0 OV0
  go_wp2_with fail
  refine (within_fn fa _ 5 _ rfl (by omega) HWF.out).mono ?_
  rintro e w' ⟨rfl, rfl⟩
  have hw5 := withinF_le fa 5
  obtain ⟨f0, hf0⟩ : ∃ q, withinF fa 5 = q := ⟨_, rfl⟩
  rw [hf0] at hw5 ⊢
  have f1 : (0 : Int) ≤ (f0 : Int) := by omega
  have f2 : (f0 : Int) ≤ 5 := by omega
  clear hf0 hw5
  go_wp2_with fail
  refine (within_fn oa _ 256 _ rfl (by omega) HWO.out).mono ?_
  rintro e w' ⟨rfl, rfl⟩
  have hw6 := withinF_le oa 256
  obtain ⟨own, hown⟩ : ∃ q, withinF oa 256 = q := ⟨_, rfl⟩
  rw [hown] at hw6 ⊢
  have o1 : (0 : Int) ≤ (own : Int) := by omega
  have o2 : (own : Int) ≤ 256 := by omega
  clear hown hw6
  obtain ⟨f, hf⟩ : ∃ f, (1 + (f0 : Int)) = f := ⟨_, rfl⟩
  rw [hf]
  have hff : 1 ≤ f := by omega
  have hf6 : f ≤ 6 := by omega
  clear hf f1 f2
  go_wp2_with fail
  refine (put_any A n c L _ (H.out.below B1.out) HSM.out).mono ?_
  rintro e w2 ⟨Al, cl, rfl, hb2, ho2⟩
  have B2 : Hid (Below W.heap.size W w2) := B1.out.trans (hb2.mono B1.out.size)
  have OV2 := Lib.hid (OV1.out.below hb2)
  have Q2 := Lib.hid (rdAk ho2 rfl)
  have BP := Lib.hid (best_putAll L)
  have hpn : ((putAll L).length : Int) ≤ (n : Int) := by have := putAll_len L; have := HL.out; omega
  obtain ⟨P, hP⟩ : ∃ P, putAll L = P := ⟨_, rfl⟩
  rw [hP] at Q2 BP hpn ⊢
  have HPS : Hid ((P.length + 2) * 32 ≤ 140737488355328) := by have := HSM.out; simp only [Hid]; omega
  clear hb2 ho2 hP B1 OV1
  go_wp2_with fail
  refine (reached_any f own Al P.length cl P _ (WalkArith.wf_i64 ⟨by omega, by omega⟩) Q2.out (by have := HPS.out; omega)).mono ?_
  rintro e w3 ⟨rfl, hb3⟩
  have B3 : Hid (Below W.heap.size W w3) := B2.out.trans (hb3.mono B2.out.size)
  have OV3 := Lib.hid (OV2.out.below hb3)
  have Q3 := Lib.hid (Q2.out.below hb3)
  have k0 := reach_ge (L := P) hff o1
  have k1 := reach_le (L := P) hff o1
  have KT := Lib.hid (fun h => reach_there (L := P) hff o1 h)
  have KF := Lib.hid (fun h => reach_further (L := P) hff o1 h)
  have KM := Lib.hid (reach_more (L := P) hff o1)
  have KO := Lib.hid (reach_own (L := P) hff o1)
  have KP := Lib.hid (fun h => reach_put (v := v) hff o1 BP.out.rise h)
  obtain ⟨K, hK⟩ : ∃ K, reachF f own P = K := ⟨_, rfl⟩
  rw [hK] at k0 k1 KT KF KM KO KP ⊢
  clear hb3 hK B2 OV2 Q2
  go_wp2_with fail
  go_loopw [11, 12, 13] (fun tv gv iv wr => ∃ (i : Nat), i ≤ P.length ∧ tv = .int .i64 (cntGe K (P.take i) : Nat) ∧ gv = .int .i64 (cntGe (K + 1) (P.take i) : Nat) ∧ iv = .int .i64 i ∧ w3 = wr) (fun _ _ iv _ => P.length - (intOf iv).toNat)
  case atStart => exact ⟨0, by omega, rfl, rfl, rfl, rfl⟩
  case round =>
    obtain ⟨i, hi, rfl, rfl, rfl, hww⟩ := hrel
    subst hww
    by_cases hin : i < P.length
    · obtain ⟨x, hx⟩ : ∃ x, P[i]? = some x := ⟨_, List.getElem?_eq_getElem hin⟩
      obtain ⟨al, rfl, q0, q1, q2, q3⟩ := Q3.out.atAk hx
      have hii : (i : Int) < (P.length : Int) := by omega
      have hi2 : (i : Int) + 1 ≤ 6000000000000 := by omega
      have hc1 : (cntGe K (P.take i) : Int) ≤ 6000000000000 := by have := cntGe_le K (P.take i); rw [List.length_take] at this; omega
      have hc2 : (cntGe (K + 1) (P.take i) : Int) ≤ 6000000000000 := by have := cntGe_le (K + 1) (P.take i); rw [List.length_take] at this; omega
      have HC1 := Lib.hid (cnt_next (p := K) hx)
      have HC2 := Lib.hid (cnt_next (p := K + 1) hx)
      have HIN := Lib.hid hin
      clear hx hin hi
      by_cases h1 : K ≤ x.p
      · by_cases h2 : K < x.p
        · have D1 : Hid (cntGe K (P.take (i + 1)) = cntGe K (P.take i) + 1) := by have := HC1.out; rwa [if_pos h1] at this
          have D2 : Hid (cntGe (K + 1) (P.take (i + 1)) = cntGe (K + 1) (P.take i) + 1) := by have := HC2.out; rwa [if_pos (by omega)] at this
          clear HC1 HC2
          go_wp2_with fail
          go_roundw
          case rel => exact ⟨i + 1, HIN.out, by simp [D1.out], by simp [D2.out], by simp⟩
          case measure => have := HIN.out; first | (simp [intOf]; done) | (simp [intOf]; omega)
        · have D1 : Hid (cntGe K (P.take (i + 1)) = cntGe K (P.take i) + 1) := by have := HC1.out; rwa [if_pos h1] at this
          have D2 : Hid (cntGe (K + 1) (P.take (i + 1)) = cntGe (K + 1) (P.take i)) := by have := HC2.out; rwa [if_neg (by omega)] at this
          clear HC1 HC2
          go_wp2_with fail
          go_roundw
          case rel => exact ⟨i + 1, HIN.out, by simp [D1.out], by simp [D2.out], by simp⟩
          case measure => have := HIN.out; first | (simp [intOf]; done) | (simp [intOf]; omega)
      · have h2 : ¬ K < x.p := by omega
        have D1 : Hid (cntGe K (P.take (i + 1)) = cntGe K (P.take i)) := by have := HC1.out; rwa [if_neg h1] at this
        have D2 : Hid (cntGe (K + 1) (P.take (i + 1)) = cntGe (K + 1) (P.take i)) := by have := HC2.out; rwa [if_neg (by omega)] at this
        clear HC1 HC2
        go_wp2_with fail
        go_roundw
        case rel => exact ⟨i + 1, HIN.out, by simp [D1.out], by simp [D2.out], by simp⟩
        case measure => have := HIN.out; first | (simp [intOf]; done) | (simp [intOf]; omega)
    · obtain rfl : i = P.length := by omega
      have hii : ¬ (P.length : Int) < (P.length : Int) := by omega
      rw [List.take_length]
      clear hin hi
      have hPf : (cntGe K P : Int) ≤ 6000000000000 := by have := cntGe_le K P; omega
      have HB3 : Hid (Below W.heap.size W w3) := B3
      go_upto_region 18 with fail
      go_cut [93] (fun bv wx => bv = .bool false ∧ Hid (Below w3.heap.size w3 wx))
      case first =>
        have ho1 : (own : Int) + 1 ≤ 257 := by omega
        have hf7 : f + 1 ≤ 7 := by omega
        have A1 := Lib.hid (reached_any (f + 1) own Al P.length cl P w3 (WalkArith.wf_i64 ⟨by omega, by omega⟩) Q3.out (by have := HPS.out; omega))
        have A2 := Lib.hid (fun w' (hb : Below w3.heap.size w3 w') => reached_any f ((own : Int) + 1) Al P.length cl P w' (WalkArith.wf_i64 ⟨by omega, by omega⟩) (Q3.out.below hb) (by have := HPS.out; omega))
        obtain ⟨R1, hR1⟩ : ∃ R, reachF (f + 1) own P = R := ⟨_, rfl⟩
        obtain ⟨R2, hR2⟩ : ∃ R, reachF f ((own : Int) + 1) P = R := ⟨_, rfl⟩
        have m1 : ¬ K < R1 := by rw [← hR1]; have := KM.out; omega
        have m2 : ¬ R2 < K := by rw [← hR2]; have := KO.out; omega
        have HR1 := Lib.hid hR1
        have HR2 := Lib.hid hR2
        clear hR1 hR2
        by_cases hK0 : 0 < K
        case' pos => have t1 : ¬ (cntGe K P : Int) < f := by have := KT.out hK0; omega
        all_goals
          by_cases hKo : K < (own : Int)
          case' pos => have t2 : ¬ f ≤ (cntGe (K + 1) P : Int) := by have := KF.out hKo; omega
          all_goals
            go_wp2_with fail
            refine A1.out.mono ?_
            rw [HR1.out]
            rintro e w4 ⟨rfl, hb4⟩
            have HB4 := Lib.hid hb4
            clear hb4
            go_wp2_with fail
            refine (A2.out w4 HB4.out).mono ?_
            rw [HR2.out]
            rintro e w5 ⟨rfl, hb5⟩
            have HB5 : Hid (Below w3.heap.size w3 w5) := HB4.out.trans (hb5.mono HB4.out.size)
            clear hb5
            go_wp2_with fail
            go_meet
            refine ⟨?_, HB5.out⟩
            first | rfl | (simp; omega) | (simp [*]; done)
      case rest =>
        obtain ⟨rfl, HC⟩ := hcut
        go_wp2_with fail
        have Q4 := Lib.hid (Q3.out.below HC.out)
        have OV4 := Lib.hid (OV3.out.below HC.out)
        have HB4 : Hid (Below W.heap.size W wc) := B3.out.trans (HC.out.mono B3.out.size)
        go_loopw [14] (fun iv wr => ∃ (i : Nat), i ≤ P.length ∧ iv = .int .i64 i ∧ Hid (∃ q, wr = wc.drewN q) ∧ Hid (∀ j x, j < i → P[j]? = some x → x.n = v.n → x.h = v.h ∧ x.l = v.l)) (fun iv _ => P.length - (intOf iv).toNat)
        case atStart => exact ⟨0, by omega, rfl, ⟨0, rfl⟩, fun j x hj => by omega⟩
        case round =>
          obtain ⟨i, hi, rfl, HD, HI⟩ := hrel
          by_cases hin : i < P.length
          · obtain ⟨x, hx⟩ : ∃ x, P[i]? = some x := ⟨_, List.getElem?_eq_getElem hin⟩
            have hB : Below wc.heap.size wc wr := by obtain ⟨q, hq⟩ := HD.out; rw [hq]; exact Below.drewN (Below.refl _ _) q
            obtain ⟨al, rfl, q0, q1, q2, q3⟩ := (Q4.out.below hB).atAk hx
            obtain ⟨p0, p1, p2, p3⟩ := (OV4.out.below hB).all4
            have HBR : Hid (Below W.heap.size W wr) := HB4.out.trans (hB.mono HB4.out.size)
            have hii : (i : Int) < (P.length : Int) := by omega
            have hi2 : (i : Int) + 1 ≤ 6000000000000 := by omega
            have HXX := Lib.hid hx
            have HIN := Lib.hid hin
            clear hx hin hi hB
            go_wp2_with fail
            obtain ⟨vn, vh, vl, vp⟩ := v
            obtain ⟨xn, xh, xl, xp⟩ := x
            simp only at p0 p1 p2 p3 q0 q1 q2 q3
            by_cases e0 : xn = vn
            · subst e0
              by_cases e1 : xh = vh
              · subst e1
                by_cases e2 : xl = vl
                · subst e2
                  go_quiet (fail)
                  go_wp2_with fail
                  go_roundw
                  case rel =>
                    obtain ⟨q, hq⟩ := HD.out
                    exact ⟨i + 1, HIN.out, by go_num, ⟨q + nq, by rw [hq, World.drewN_drewN]⟩, fun j y hj hy hn => by
                      by_cases e : j = i
                      · subst e; rw [HXX.out] at hy; cases hy; exact ⟨rfl, rfl⟩
                      · exact HI.out j y (by omega) hy hn⟩
                  case measure => have := HIN.out; simp [intOf]; omega
                · have hb : ((xl : Int) == (vl : Int)) = false := beq_eq_false_iff_ne.2 (by omega)
                  clear e2
                  go_quiet (fail)
                  go_wp2_with fail
                  go_ret
                  exact ⟨rfl, Below.drewN HBR.out _⟩
              · have hb : ((xh : Int) == (vh : Int)) = false := beq_eq_false_iff_ne.2 (by omega)
                clear e1
                go_quiet (fail)
                go_wp2_with fail
                go_ret
                exact ⟨rfl, Below.drewN HBR.out _⟩
            · have hb : (xn == vn) = false := beq_eq_false_iff_ne.2 e0
              have HE0 := Lib.hid e0
              clear e0
              go_quiet (fail)
              go_wp2_with fail
              go_roundw
              case rel =>
                obtain ⟨q, hq⟩ := HD.out
                exact ⟨i + 1, HIN.out, by go_num, ⟨q + nq, by rw [hq, World.drewN_drewN]⟩, fun j y hj hy hn => by
                  by_cases e : j = i
                  · subst e; rw [HXX.out] at hy; cases hy; exact absurd hn HE0.out
                  · exact HI.out j y (by omega) hy hn⟩
              case measure => have := HIN.out; simp [intOf]; omega
          · obtain rfl : i = P.length := by omega
            have hii : ¬ (P.length : Int) < (P.length : Int) := by omega
            have hB : Below wc.heap.size wc wr := by obtain ⟨q, hq⟩ := HD.out; rw [hq]; exact Below.drewN (Below.refl _ _) q
            have Q5 := Lib.hid (Q4.out.below hB)
            obtain ⟨p0, p1, p2, p3⟩ := (OV4.out.below hB).all4
            have HBR : Hid (Below W.heap.size W wr) := HB4.out.trans (hB.mono HB4.out.size)
            have HKP := Lib.hid (KP.out (fun x hx he => by
              obtain ⟨j, hj⟩ := List.getElem?_of_mem hx
              exact HI.out j x (List.getElem?_eq_some_iff.1 hj).1 hj he))
            clear hB hin hi
            go_wp2_with fail
            refine (putAck_fn Al P.length cl P v _ Q5.out HPS.out).mono ?_
            rintro e w6 ⟨A6, c6, rfl, hb6, ho6⟩
            have B6 : Hid (Below W.heap.size W w6) := HBR.out.trans (hb6.mono HBR.out.size)
            have Q6 := Lib.hid (rdAk ho6 rfl)
            have hlen : ((putF Ak.n Ak.wins P v).length : Int) ≤ (P.length : Int) + 1 := by have := putF_len Ak.n Ak.wins P v; omega
            clear hb6 ho6 p0 p1 p2 p3
            go_wp2_with fail
            refine (reached_any f own A6 _ c6 _ _ (WalkArith.wf_i64 ⟨by omega, by omega⟩) Q6.out (by have := HPS.out; omega)).mono ?_
            rintro e w7 ⟨rfl, hb7⟩
            have B7 : Hid (Below W.heap.size W w7) := B6.out.trans (hb7.mono B6.out.size)
            have hfin := HKP.out
            obtain ⟨R, hR⟩ : ∃ R, reachF f own (putF Ak.n Ak.wins P v) = R := ⟨_, rfl⟩
            rw [hR] at hfin ⊢
            clear hb7 hR
            go_wp2_with fail
            go_ret
            exact ⟨rfl, B7.out⟩
end Go.Proofs.Ytjjobgolpedgeaa
