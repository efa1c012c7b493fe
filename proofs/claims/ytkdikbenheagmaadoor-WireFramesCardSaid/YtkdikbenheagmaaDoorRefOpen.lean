/-
  The walk of the document's Open.
-/
import Derived.Test.YtkdikbenheagmaaDoorRefSum
set_option linter.unusedVariables false
set_option linter.unusedSimpArgs false
namespace Go.Proofs.YtkdikbenheagmaaDoor
open Go.RowKit

theorem take4_iff (f : List UInt8) (h : 4 ≤ f.length) : f.take 4 = magicL ↔ (f.getD 0 0 = 97 ∧ f.getD 1 0 = 109 ∧ f.getD 2 0 = 110 ∧ f.getD 3 0 = 49) := by
  match f, h with
  | a :: b :: c :: d :: t, _ => simp [magicL]
theorem bg_ne {f : List UInt8} {j : Nat} {x : UInt8} {z : Int} (hz : z = (x.toNat : Int)) (h : f.getD j 0 ≠ x) : (bg f j != z) = true := by
  rw [bne_iff_ne]
  intro e
  apply h
  unfold bg at e
  exact UInt8.toNat_inj.1 (by omega)
theorem bg_eq {f : List UInt8} {j : Nat} {x : UInt8} {z : Int} (hz : z = (x.toNat : Int)) (h : f.getD j 0 = x) : (bg f j != z) = false := by
  unfold bg
  rw [h, hz]
  simp
theorem be_le (s j : Nat) (h : j < 4) : (Wire.be 4 s).getD (3 - j) 0 = (Wire.le 4 s).getD j 0 := by
  rw [Wire.be_get _ _ _ (by omega), le_get _ _ _ h, show 4 - 1 - (3 - j) = j by omega]

set_option maxRecDepth 100000 in
set_option maxHeartbeats 1600000 in
theorem ropen_any (A : Option Addr) (n c : Nat) (f : List UInt8) (w : World) (hr : Rd w A n f) (hc : n ≤ c) (hA : A = none → n = 0 ∧ c = 0) :
    Calls Tryd.prog 20 #[.slice A n c] w fun e w' => Told 5 w e w' (openL f).1 ((openL f).2 : Nat) := by
  have HR := Lib.hid hr
  have HA := Lib.hid hA
  have hle := hr.le
  have hl := hr.len
  have HL := Lib.hid hl
  clear hr hA hl
  by_cases h1 : 32768 < n
  · go_enter Tryd.func20, Tryd.ntmps20
    go_wp2
    go_ret2
    have e : openL f = ([], 11) := by unfold openL; rw [HL.out, if_pos h1]
    rw [e]
    exact ⟨none, 0, rfl, Below.refl _ _, World.ownsRow_nil _ _ _ _⟩
  · by_cases h2 : n < 12
    · go_enter Tryd.func20, Tryd.ntmps20
      go_wp2
      go_ret2
      have e : openL f = ([], 10) := by unfold openL; rw [HL.out, if_neg h1, if_pos h2]
      rw [e]
      exact ⟨none, 0, rfl, Below.refl _ _, World.ownsRow_nil _ _ _ _⟩
    · obtain ⟨ad, rfl⟩ : ∃ ad, A = some ad := by
        cases A with
        | none => have := (HA.out rfl).1; omega
        | some ad => exact ⟨ad, rfl⟩
      have hnc : n ≤ c := hc
      have HCELL := Lib.hid (fun j (hj : j < n) => by
          obtain ⟨ad', e, hcc⟩ := HR.out.cell (by omega)
          cases e
          exact (hcc j hj : w.cell? (ad.add j) = some (.int .u8 (bg f j))))
      have c0 : w.cell? ad = some (.int .u8 (bg f 0)) := HCELL.out 0 (by omega)
      have c1 : w.cell? ⟨ad.block, ad.off + 1, none⟩ = some (.int .u8 (bg f 1)) := HCELL.out 1 (by omega)
      have c2 : w.cell? ⟨ad.block, ad.off + 2, none⟩ = some (.int .u8 (bg f 2)) := HCELL.out 2 (by omega)
      have c3 : w.cell? ⟨ad.block, ad.off + 3, none⟩ = some (.int .u8 (bg f 3)) := HCELL.out 3 (by omega)
      have HM := Lib.hid (take4_iff f (by rw [HL.out]; omega))
      by_cases q0 : f.getD 0 0 = 97
      rotate_left
      · have b0 : (bg f 0 != 97) = true := bg_ne rfl q0
        go_enter Tryd.func20, Tryd.ntmps20
        go_wp2
        go_ret2
        have e : openL f = ([], 13) := by unfold openL; rw [HL.out, if_neg h1, if_neg h2, if_pos (fun h => q0 ((HM.out.1 h).1))]
        rw [e]
        exact ⟨none, 0, rfl, Below.refl _ _, World.ownsRow_nil _ _ _ _⟩
      have b0 : (bg f 0 != 97) = false := bg_eq rfl q0
      by_cases q1 : f.getD 1 0 = 109
      rotate_left
      · have b1 : (bg f 1 != 109) = true := bg_ne rfl q1
        go_enter Tryd.func20, Tryd.ntmps20
        go_wp2
        go_ret2
        have e : openL f = ([], 13) := by unfold openL; rw [HL.out, if_neg h1, if_neg h2, if_pos (fun h => q1 ((HM.out.1 h).2.1))]
        rw [e]
        exact ⟨none, 0, rfl, Below.refl _ _, World.ownsRow_nil _ _ _ _⟩
      have b1 : (bg f 1 != 109) = false := bg_eq rfl q1
      by_cases q2 : f.getD 2 0 = 110
      rotate_left
      · have b2 : (bg f 2 != 110) = true := bg_ne rfl q2
        go_enter Tryd.func20, Tryd.ntmps20
        go_wp2
        go_ret2
        have e : openL f = ([], 13) := by unfold openL; rw [HL.out, if_neg h1, if_neg h2, if_pos (fun h => q2 ((HM.out.1 h).2.2.1))]
        rw [e]
        exact ⟨none, 0, rfl, Below.refl _ _, World.ownsRow_nil _ _ _ _⟩
      have b2 : (bg f 2 != 110) = false := bg_eq rfl q2
      by_cases q3 : f.getD 3 0 = 49
      rotate_left
      · have b3 : (bg f 3 != 49) = true := bg_ne rfl q3
        go_enter Tryd.func20, Tryd.ntmps20
        go_wp2
        go_ret2
        have e : openL f = ([], 13) := by unfold openL; rw [HL.out, if_neg h1, if_neg h2, if_pos (fun h => q3 ((HM.out.1 h).2.2.2))]
        rw [e]
        exact ⟨none, 0, rfl, Below.refl _ _, World.ownsRow_nil _ _ _ _⟩
      have b3 : (bg f 3 != 49) = false := bg_eq rfl q3
      have h3 : ¬ f.take 4 ≠ magicL := fun h => h (HM.out.2 ⟨q0, q1, q2, q3⟩)
      have hdl : Wire.dec ((f.drop 4).take 4) < 4294967296 := by
        have := Wire.dec_lt ((f.drop 4).take 4)
        rw [show ((f.drop 4).take 4).length = 4 by rw [List.length_take, List.length_drop, HL.out]; omega] at this
        exact this
      have HE : Hid (openL f = if n < Wire.dec ((f.drop 4).take 4) + 12 then ([], 10) else if Wire.dec ((f.drop 4).take 4) + 12 < n then ([], 15)
        else if f.drop (n - 4) ≠ Wire.le 4 (Wire.sumN (f.take (n - 4))) then ([], 14) else ((f.drop 8).take (n - 12), 0)) := by
        show _ = _
        unfold openL; rw [HL.out, if_neg h1, if_neg h2, if_neg h3]
      clear q0 q1 q2 q3 h3
      generalize hdd : Wire.dec ((f.drop 4).take 4) = d at hdl HE
      have HD := Lib.hid hdd
      clear hdd
      go_enter Tryd.func20, Tryd.ntmps20
      go_wp2
      clear b0 b1 b2 b3 c0 c1 c2 c3
      go_loop [4, 5] (fun v i => ∃ (j vn : Nat), j ≤ 4 ∧ i = .int .i64 ((4 + j : Nat) : Int) ∧ v = .int .i64 vn ∧ vn < 256 ^ j ∧ Hid (vn = Wire.dec (((f.drop 4).take 4).take j))) (fun _ i => 8 - (intOf i).toNat)
      case atStart => exact ⟨0, 0, by omega, rfl, rfl, by decide, rfl⟩
      case round =>
        obtain ⟨j, vn, hj, rfl, rfl, hv, HV⟩ := hrel
        have HVL := Lib.hid hv
        by_cases hlt : j < 4
        · have hcx : w.cell? ⟨ad.block, ad.off + (4 + j), none⟩ = some (.int .u8 (bg f (4 + j))) := by
            have := HCELL.out (4 + j) (by omega)
            rwa [show ad.add (4 + j) = ⟨ad.block, ad.off + (4 + j), none⟩ by unfold Addr.add; rw [if_neg (by omega)]] at this
          have hcx2 : w.cell? (ad.add (4 + j)) = some (.int .u8 (bg f (4 + j))) := HCELL.out (4 + j) (by omega)
          have hbr := bg_range f (4 + j)
          have hv3 : vn < 16777216 := Nat.lt_of_lt_of_le hv (by have : 256 ^ j ≤ 256 ^ 3 := Nat.pow_le_pow_right (by omega) (by omega); omega)
          clear hv
          go_wp2
          go_round
          case rel =>
            refine ⟨j + 1, vn * 256 + (f.getD (4 + j) 0).toNat, by omega, by go_num, ?_, ?_, ?_⟩
            · unfold bg; go_num
            · have := (f.getD (4 + j) 0).toNat_lt
              have hv' := HVL.out
              rw [Nat.pow_succ]; omega
            · show _ = _
              rw [dec_step f j hlt (by rw [HL.out]; omega), HV.out]
          case measure => simp [intOf]; omega
        · obtain rfl : j = 4 := by omega
          have hvd : vn = d := by have := HV.out; rwa [List.take_of_length_le (by rw [List.length_take]; omega), HD.out] at this
          subst hvd
          clear HVL HV HD
          by_cases h5 : n < vn + 12
          · go_wp2
            go_ret2
            have e := HE.out
            rw [if_pos h5] at e
            rw [e]
            exact ⟨none, 0, rfl, Below.refl _ _, World.ownsRow_nil _ _ _ _⟩
          · by_cases h6 : vn + 12 < n
            · go_wp2
              go_ret2
              have e := HE.out
              rw [if_neg h5, if_pos h6] at e
              rw [e]
              exact ⟨none, 0, rfl, Below.refl _ _, World.ownsRow_nil _ _ _ _⟩
            · have hE := HE.out
              rw [if_neg h5, if_neg h6, show n - 4 = vn + 8 by omega] at hE
              have HE := Lib.hid hE
              clear hE
              have hN : n = vn + 12 := by omega
              have hNc : (vn : Int) + 8 ≤ (c : Int) := by omega
              have hRT := Lib.hid (HR.out.take (vn + 8) (by omega))
              have HN := Lib.hid hN
              clear hN
              go_wp2_with fail
              refine (rsum_any (some ad) (vn + 8) c (f.take (vn + 8)) w hRT.out).mono ?_
              rintro e w' ⟨rfl, rfl⟩
              clear h5 h6
              have hsl := Wire.sumN_lt (f.take (vn + 8))
              generalize hs : Wire.sumN (f.take (vn + 8)) = s at hsl HE
              clear hs
              go_wp2_with fail
              refine (four_any s hsl w).mono ?_
              rintro e w1 ⟨g, rfl, hb1, hr1, hg1, hg2⟩
              have B1 := Lib.hid hb1
              have HCELL2 := Lib.hid (fun j (hj : j < n) => (hb1.cell (by rw [add_block]; have := World.block_lt_of_cell? w _ (HCELL.out j hj); rwa [add_block] at this)).trans (HCELL.out j hj))
              have HC4 := Lib.hid (fun j (hj : j < 4) => by
                obtain ⟨ad', e, hcc⟩ := hr1.cell (by omega)
                cases e
                have := hcc j hj
                rw [add_at] at this
                exact this)
              have hwz := hb1.size
              clear hb1 hr1
              go_wp2
              go_loopw [7] (fun i wr => ∃ j : Nat, j ≤ 4 ∧ i = .int .i64 j ∧ Hid ((∀ q, q < j → f.getD (vn + 8 + q) 0 = (Wire.le 4 s).getD q 0) ∧ ∃ m, wr = w1.drewN m)) (fun i _ => 4 - (intOf i).toNat)
              case atStart => exact ⟨0, by omega, rfl, fun q hq => absurd hq (by omega), 0, rfl⟩
              case round =>
                obtain ⟨j, hj, rfl, HS⟩ := hrel
                obtain ⟨m, hwr⟩ := HS.out.2
                subst hwr
                by_cases hlt : j < 4
                · have hN := HN.out
                  obtain ⟨t, ht⟩ : ∃ t, t = 3 - j := ⟨_, rfl⟩
                  have w1' : IntKind.i64.wrap ((vn : Int) + 8) = (vn : Int) + 8 := by rw [IntKind.wrap_i64]; omega
                  have w2' : IntKind.i64.wrap ((vn : Int) + 8 + (j : Int)) = (vn : Int) + 8 + (j : Int) := by rw [IntKind.wrap_i64]; omega
                  have w3' : IntKind.i64.wrap (3 - (j : Int)) = (t : Int) := by rw [IntKind.wrap_i64]; omega
                  have i1 : (vn : Int) + 8 + (j : Int) < (n : Int) := by omega
                  have i2 : (0 : Int) ≤ (vn : Int) + 8 + (j : Int) := by omega
                  have i3 : ((vn : Int) + 8 + (j : Int)).toNat = vn + 8 + j := by omega
                  have i4 : (t : Int) < 4 := by omega
                  have hcx := HCELL2.out (vn + 8 + j) (by omega)
                  have hcy : w1.cell? ⟨g, t, none⟩ = some (.int .u8 (bg (Wire.be 4 s) t)) := HC4.out t (by omega)
                  have hbl : (Wire.be 4 s).getD t 0 = (Wire.le 4 s).getD j 0 := by rw [ht]; exact be_le s j hlt
                  by_cases hq : f.getD (vn + 8 + j) 0 = (Wire.le 4 s).getD j 0
                  · have HQ := Lib.hid hq
                    have hbe : (bg f (vn + 8 + j) != bg (Wire.be 4 s) t) = false := by unfold bg; rw [hq, hbl]; simp
                    clear hN hq hbl ht
                    go_wp2
                    go_quiet (fail)
                    go_wp2
                    refine ⟨⟨j + 1, by omega, by go_num, ?_, _, rfl⟩, by simp [intOf]; omega⟩
                    intro q hq
                    rcases Nat.lt_succ_iff_lt_or_eq.1 hq with hq | rfl
                    · exact HS.out.1 q hq
                    · exact HQ.out
                  · have HQ := Lib.hid hq
                    have hbe : (bg f (vn + 8 + j) != bg (Wire.be 4 s) t) = true := by
                      rw [bne_iff_ne]
                      intro e
                      unfold bg at e
                      rw [hbl] at e
                      exact hq (UInt8.toNat_inj.1 (by omega))
                    clear hN hq hbl ht
                    go_wp2
                    go_quiet (fail)
                    go_wp2
                    go_ret2
                    have hne : f.drop (vn + 8) ≠ Wire.le 4 s := fun e => HQ.out (by rw [← e]; simp [List.getD_eq_getElem?_getD])
                    have e := HE.out
                    rw [if_pos hne] at e
                    rw [e]
                    exact ⟨none, 0, rfl, Below.drewN (Below.drewN B1.out _) _, World.ownsRow_nil _ _ _ _⟩
                · obtain rfl : j = 4 := by omega
                  have hN := HN.out
                  have heq : f.drop (vn + 8) = Wire.le 4 s := by
                    refine List.ext_getElem (by rw [List.length_drop, HL.out, Wire.le_length]; omega) fun q g1 g2 => ?_
                    have := HS.out.1 q (by rwa [Wire.le_length] at g2)
                    rw [List.getElem_drop]
                    rw [List.getD_eq_getElem?_getD, List.getD_eq_getElem?_getD, List.getElem?_eq_getElem g2, List.getElem?_eq_getElem (by rw [List.length_drop] at g1; omega)] at this
                    exact this
                  have hE := HE.out
                  rw [if_neg (fun h => h heq)] at hE
                  have HE := Lib.hid hE
                  obtain ⟨i0, hi, hz0, hz1, hz2⟩ := info_parts (show (Tryd.prog.info? 5).map (fun i => (i.zero, i.size, i.bytes)) = some (some (.int .u8 0), 1, 1) by kernel_rfl)
                  obtain ⟨ad2, hcut, hrd⟩ := run_cut3 (P := Tryd.prog) 22 5 Tryd.underlying22 hi hz1 ad n c 8 (vn + 8) (by omega) (by omega)
                  rw [show vn + 8 - 8 = vn by omega] at hcut hrd
                  have hcut : ∀ W : World, (Instr.slice 22 (.slice (some ad) n c) (some (.int .i64 8)) (some (.int .i64 ((vn : Int) + 8))) none).run Tryd.prog W = .ok (.slice (some ad2) vn (c - 8)) W := hcut
                  have hrd2 := hrd (w1.drewN m) f (HR.out.below B1.out).drewN (by omega)
                  have RN := Lib.hid hrd2.news
                  have RL := Lib.hid hrd2.lenBv
                  clear hN heq hE hi hz0 hz1 hz2 hrd hrd2 hNc hsl
                  have h8 : Hid (0 + vn ≤ 32768) := (by have := HN.out; omega : 0 + vn ≤ 32768)
                  go_wp2_with (at_builtin; refine wpList_app rfl (.tmp 82) (.tmp 86) rfl eltByte w.heap.size (.slice none 0 0) 0 [] rfl (World.ownsRow_nil _ _ _ _) (some ad2) vn (c - 8) (Bv ((f.drop 8).take vn)) rfl RL.out (fun e => by cases e) RN.out (Bv_one _) ?e3 ?e4 ?e5 ?_)
                  case e3 => have := h8.out; simp only [maxLen]; omega
                  case e4 => have := h8.out; omega
                  case e5 => exact hwz
                  intro A4 c4 w4 hown4 hgrow4 _
                  have H4 := Lib.hid hown4
                  have G4 := Lib.hid hgrow4
                  clear hown4 hgrow4
                  go_wp2
                  go_ret2
                  have e := HE.out
                  have hlen : ((f.drop 8).take vn).length = 0 + vn := by rw [List.length_take, List.length_drop, HL.out]; have := HN.out; omega
                  rw [show n - 12 = vn by have := HN.out; omega] at e
                  rw [e]
                  refine ⟨A4, c4, by show _ = Ending.returned (.tuple #[.slice A4 ((f.drop 8).take vn).length c4, _]); rw [hlen, Nat.zero_add]; rfl, ?_, by show w4.ownsRow _ _ _ (.slice A4 ((f.drop 8).take vn).length c4) ((f.drop 8).take vn).length (Bv ((f.drop 8).take vn)); rw [hlen, Nat.zero_add]; exact H4.out⟩
                  exact (Below.drewN B1.out m).grown G4.out hwz (fun b e => by cases e)
end Go.Proofs.YtkdikbenheagmaaDoor
