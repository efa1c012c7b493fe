/-
  The walk of the law WireOne.
-/
import Derived.Test.YtkdikbenheagmaaDoorAlive
import Derived.Test.YtkdikbenheagmaaDoorReader4
set_option linter.unusedVariables false
set_option linter.unusedSimpArgs false
namespace Go.Proofs.YtkdikbenheagmaaDoor
open Go.RowKit

theorem num_zero_of {bs : List UInt8} {v n e : Nat} (h : Wire.num bs = (v, n, e)) : (e = 0 ∧ Wire.form v = bs.take n ∧ n ≤ bs.length ∧ n ≤ 9 ∧ 0 < n ∧ v < 18446744073709551616) ∨ (e ≠ 0 ∧ v = 0 ∧ n = 0 ∧ (e = 10 ∨ e = 12)) := by
  by_cases he : e = 0
  · subst he
    have := Wire.num_ok h
    exact .inl ⟨rfl, this.1.symm, this.2.1, this.2.2.1, this.2.2.2.1, this.2.2.2.2⟩
  · have := Wire.num_err h he
    exact .inr ⟨he, this.1, this.2.1, this.2.2⟩

set_option maxRecDepth 100000 in
set_option maxHeartbeats 800000 in
theorem wireOne_walk (A : Option Addr) (n c : Nat) (bs : List UInt8) (w : World) (hr : Rd w A n bs) (hc : n ≤ c) (hA : A = none → n = 0 ∧ c = 0) (hy : n ≤ 140737488351232) (ht : Tab w) :
    Calls Tryd.prog 9 #[.slice A n c] w fun e w' => e = .returned (.bool true) ∧ Below w.heap.size w w' := by
  have HT := Lib.hid ht
  have HR := Lib.hid hr
  have HA := Lib.hid hA
  have hl := hr.len
  have HL := Lib.hid hl
  clear ht hr hA
  rcases hnum : Wire.num bs with ⟨v, k, e⟩
  have hcase := num_zero_of hnum
  have HN := Lib.hid hnum
  clear hnum
  have hS : rNum bs (0, 0) = if e = 0 then (v, (k, 0)) else (0, (0, (e : Int))) := by
    unfold rNum
    simp only [List.drop_zero, if_true, HN.out, Nat.zero_add]
  rcases hcase with ⟨rfl, hform, hk1, hk2, hk3, hv⟩ | ⟨he, rfl, rfl, he2⟩
  · rw [if_pos rfl] at hS
    rw [hl] at hk1
    have HS := Lib.hid hS
    have HF := Lib.hid hform
    have HV := Lib.hid hv
    clear hS hform hv hl
    go_enter Tryd.func9, Tryd.ntmps9
    go_wp2_with fail
    refine (alive_any w HT.out).mono ?_
    rintro e w1 ⟨rfl, hb1⟩
    have B1 := Lib.hid hb1
    have hz1 : w.heap.size ≤ w1.heap.size := hb1.size
    have R1 := Lib.hid (HR.out.below hb1)
    clear hb1
    go_wp2_with fail
    refine (newReader_any A n c bs w1 R1.out HA.out (by omega)).mono ?_
    rintro e w2 ⟨p, A2, c2, rfl, hr2, _, hb2, hp1, hp2, hp3⟩
    have B2 := Lib.hid (B1.out.trans (hb2.mono hz1))
    have hz2 : w.heap.size ≤ w2.heap.size := by have := hb2.size; omega
    have hpw : w.heap.size ≤ p := by omega
    have H2 := Lib.hid hr2
    clear hb2 hr2 hp3
    go_wp2_with fail
    have F := rnumber_any p A2 c2 bs (0, 0) w2 H2.out
    rw [HS.out] at F
    refine F.mono ?_
    clear F
    rintro e w3 ⟨rfl, h3, g3⟩
    have H3 := Lib.hid h3
    have B3 := Lib.hid (B2.out.grown g3 hz2 (fun q e => by cases e; exact hpw))
    have hz3 : w.heap.size ≤ w3.heap.size := by have := g3.size; omega
    clear h3 g3
    go_wp2_with fail
    refine (rat_any p A2 c2 bs (k, 0) w3 H3.out).mono ?_
    rintro e w' ⟨rfl, rfl⟩
    have hk4 : ((k : Int) == 0) = false := beq_eq_false_iff_ne.2 (by omega)
    go_wp2_with fail
    have F := number_any w3.heap.size v HV.out ([], 0) _ (WAt.fresh w3 44) (by decide)
    rw [show wNum ([], 0) v = (Wire.form v, 0) by unfold wNum; rw [if_pos rfl]; rfl] at F
    refine F.mono ?_
    clear F
    rintro e w4 ⟨rfl, h4, h5⟩
    have B4 : Hid (Below w.heap.size w w4) := (B3.out.alloc hz3 _).trans (h4.mono (by omega))
    have hz4 : w.heap.size ≤ w4.heap.size := by have := h4.size; simp at this; omega
    have F := Lib.hid (bytes_any _ (Wire.form v, 0) w4 h5 (by simp only [Wire.form_length]; have := Wire.nby_le8 HV.out; omega))
    clear h4 h5
    go_wp2_with fail
    have F' := F.out
    simp only [if_true] at F'
    refine F'.mono ?_
    clear F F'
    rintro e w5 ⟨A5, c5, rfl, hb5, ho5⟩
    have B5 : Hid (Below w.heap.size w w5) := B4.out.trans (hb5.mono hz4)
    have hz5 : w.heap.size ≤ w5.heap.size := by have := hb5.size; omega
    have H5 := Lib.hid (own_rd ho5)
    clear hb5 ho5
    have hkc : (k : Int) ≤ (c : Int) := by omega
    have hfl : (Wire.form v).length = k := by rw [HF.out, List.length_take, HL.out]; omega
    have HFL := Lib.hid hfl
    clear hfl
    go_wp2_with fail
    refine (num_any _ _).mono ?_
    rintro e w' ⟨rfl, rfl⟩
    go_wp2_with fail
    refine (sameBytes_any A5 _ c5 (Wire.form v) A k c (bs.take k) w5 H5.out ((HR.out.below B5.out).take k hk1)).mono ?_
    rintro e w' ⟨rfl, rfl⟩
    rw [show (Wire.form v == bs.take k) = true by rw [HF.out]; exact beq_self_eq_true _]
    have HSH := Lib.hid (fun j (hj : j < k) => Wire.num_short HN.out hj)
    go_wp2_with fail
    go_loopw [9, 10] (fun i _ wr => ∃ j : Nat, j ≤ k ∧ i = .int .i64 j ∧ Hid (Below w.heap.size w wr)) (fun i _ _ => k - (intOf i).toNat)
    case atStart => exact ⟨0, Nat.zero_le _, rfl, B5.out⟩
    case round =>
      obtain ⟨j, hj, rfl, HB⟩ := hrel
      by_cases hlt : j < k
      · have hjc : (j : Int) ≤ (c : Int) := by omega
        have hzr : w.heap.size ≤ wr.heap.size := HB.out.size
        have RJ := Lib.hid ((HR.out.below HB.out).take j (by omega))
        have hS : rNum (bs.take j) (0, 0) = (0, (0, 10)) := by
          unfold rNum
          simp only [List.drop_zero, if_true, HSH.out j hlt]
          rfl
        have HSJ := Lib.hid hS
        clear hS
        go_wp2_with fail
        refine (newReader_any A j c (bs.take j) wr RJ.out (fun e => ⟨by have := HA.out e; omega, (HA.out e).2⟩) (by omega)).mono ?_
        rintro e w6 ⟨q, A6, c6, rfl, hr6, _, hb6, hq1, hq2, hq3⟩
        have B6 : Hid (Below w.heap.size w w6) := HB.out.trans (hb6.mono hzr)
        have hz6 : w.heap.size ≤ w6.heap.size := by have := hb6.size; omega
        have hqw : w.heap.size ≤ q := by omega
        have H6 := Lib.hid hr6
        clear hb6 hr6 hq3
        go_wp2_with fail
        have F := rnumber_any q A6 c6 (bs.take j) (0, 0) w6 H6.out
        rw [HSJ.out] at F
        refine F.mono ?_
        clear F
        rintro e w7 ⟨rfl, h7, g7⟩
        have H7 := Lib.hid h7
        have B7 : Hid (Below w.heap.size w w7) := B6.out.grown g7 hz6 (fun q e => by cases e; exact hqw)
        clear h7 g7
        go_wp2_with fail
        refine (rend_any q A6 c6 (bs.take j) (0, 10) w7 H7.out).mono ?_
        rintro e w' ⟨rfl, m, rfl⟩
        rw [show rEnd (bs.take j) (0, 10) = 10 from rfl]
        go_wp2_with fail
        refine (num_any _ _).mono ?_
        rintro e w' ⟨rfl, rfl⟩
        go_wp2
        go_roundw
        case rel => exact ⟨j + 1, by omega, by go_num, Below.drewN B7.out m⟩
        case measure => simp [intOf]; omega
      · go_wp2
        go_ret
        exact ⟨rfl, HB.out⟩
  · rw [if_neg he] at hS
    have HS := Lib.hid hS
    have HE : Hid ((e : Int) = 10 ∨ (e : Int) = 12) := by rcases he2 with h | h <;> subst h <;> simp [Hid]
    have hE : rEnd bs (0, (e : Int)) = (e : Int) := by unfold rEnd; rw [if_neg (by show (e : Int) ≠ 0; omega)]
    have HEND := Lib.hid hE
    clear hS hl hE
    go_enter Tryd.func9, Tryd.ntmps9
    go_wp2_with fail
    refine (alive_any w HT.out).mono ?_
    rintro e w1 ⟨rfl, hb1⟩
    have B1 := Lib.hid hb1
    have hz1 : w.heap.size ≤ w1.heap.size := hb1.size
    have R1 := Lib.hid (HR.out.below hb1)
    clear hb1
    go_wp2_with fail
    refine (newReader_any A n c bs w1 R1.out HA.out (by omega)).mono ?_
    rintro e w2 ⟨p, A2, c2, rfl, hr2, _, hb2, hp1, hp2, hp3⟩
    have B2 := Lib.hid (B1.out.trans (hb2.mono hz1))
    have hz2 : w.heap.size ≤ w2.heap.size := by have := hb2.size; omega
    have hpw : w.heap.size ≤ p := by omega
    have H2 := Lib.hid hr2
    clear hb2 hr2 hp3
    go_wp2_with fail
    have F := rnumber_any p A2 c2 bs (0, 0) w2 H2.out
    rw [HS.out] at F
    refine F.mono ?_
    clear F
    rintro e w3 ⟨rfl, h3, g3⟩
    have H3 := Lib.hid h3
    have B3 := Lib.hid (B2.out.grown g3 hz2 (fun q e => by cases e; exact hpw))
    clear h3 g3
    go_wp2_with fail
    refine (rat_any p A2 c2 bs (0, _) w3 H3.out).mono ?_
    rintro e w' ⟨rfl, rfl⟩
    rcases HE.out with h10 | h10
    · rw [h10] at H3 HEND
      go_wp2_with fail
      refine (rend_any p A2 c2 bs (0, 10) w3 H3.out).mono ?_
      rintro e w' ⟨rfl, m, rfl⟩
      rw [HEND.out]
      go_wp2_with fail
      refine (num_any _ _).mono ?_
      rintro e w' ⟨rfl, rfl⟩
      go_wp2
      go_ret
      exact ⟨rfl, Below.drewN B3.out m⟩
    · rw [h10] at H3 HEND
      go_wp2_with fail
      refine (rend_any p A2 c2 bs (0, 12) w3 H3.out).mono ?_
      rintro e w' ⟨rfl, m, rfl⟩
      rw [HEND.out]
      go_wp2_with fail
      refine (num_any _ _).mono ?_
      rintro e w' ⟨rfl, rfl⟩
      go_wp2_with fail
      refine (rend_any p A2 c2 bs (0, 12) _ (H3.out.drewN m)).mono ?_
      rintro e w' ⟨rfl, m2, rfl⟩
      rw [HEND.out]
      go_wp2_with fail
      refine (num_any _ _).mono ?_
      rintro e w' ⟨rfl, rfl⟩
      go_wp2
      go_ret
      exact ⟨rfl, Below.drewN B3.out _⟩
end Go.Proofs.YtkdikbenheagmaaDoor
