/-
  The walk of wire.Open.
-/
import Derived.Test.YtkdikbenheagmaaDoorSeal
import Derived.Test.YtkdikbenheagmaaDoorReader4
set_option linter.unusedVariables false
set_option linter.unusedSimpArgs false
namespace Go.Proofs.YtkdikbenheagmaaDoor
open Go.RowKit

/-- what Open answers: the body, and the error -/
def openL (f : List UInt8) : List UInt8 × Nat :=
  if 32768 < f.length then ([], 11) else if f.length < 12 then ([], 10) else if f.take 4 ≠ magicL then ([], 13)
  else if f.length < Wire.dec ((f.drop 4).take 4) + 12 then ([], 10) else if Wire.dec ((f.drop 4).take 4) + 12 < f.length then ([], 15)
  else if f.drop (f.length - 4) ≠ Wire.le 4 (Wire.sumN (f.take (f.length - 4))) then ([], 14) else ((f.drop 8).take (f.length - 12), 0)

theorem txt_toList (bs : List UInt8) : (txt bs).toList = bs := by rw [ByteArray.toList_eq, txt_data]
/-- a word of four bytes, one byte more -/
theorem dec_step (f : List UInt8) (j : Nat) (h : j < 4) (hl : 8 ≤ f.length) : Wire.dec (((f.drop 4).take 4).take (j + 1)) = Wire.dec (((f.drop 4).take 4).take j) * 256 + (f.getD (4 + j) 0).toNat := by
  have hlen : j < ((f.drop 4).take 4).length := by simp; omega
  rw [List.take_succ_eq_append_getElem hlen, Wire.dec_snoc]
  congr 2
  simp [List.getD_eq_getElem?_getD, List.getElem?_eq_getElem (show 4 + j < f.length by omega)]

theorem run_cut3 {P : Program} (t e : TypeId) {i : TypeInfo} (ht : P.underlying t = some (.slice e)) (hi : P.info? e = some i) (hsz : i.size = 1) (ad : Addr) (n c l m : Nat) (hl : l ≤ m) (hm : m ≤ c) :
    ∃ ad' : Addr, (∀ W : World, (Instr.slice t (.slice (some ad) n c) (some (.int .i64 (l : Int))) (some (.int .i64 (m : Int))) none).run P W = .ok (.slice (some ad') (m - l) (c - l)) W) ∧
      (∀ (w : World) (bs : List UInt8), Rd w (some ad) n bs → m ≤ n → Rd w (some ad') (m - l) ((bs.drop l).take (m - l))) := by
  refine ⟨if c = l then ad else ad.add l, fun W => ?_, fun w bs h hc => ?_⟩
  · have hel : P.elem t = e := by simp [Program.elem, ht]
    have hu : P.underlying t = some (.slice (P.elem t)) := by rw [hel]; exact ht
    rw [run_slice_lh W t (some ad) n c hu .i64 .i64 (l : Int) (m : Int) (Int.natCast_nonneg _) (by omega) (by omega), hel]
    simp [sizeOf, typeInfo, hi, hsz, sliced, Result.andThen]
    split <;> rfl
  · have hle := h.le
    by_cases h0 : c = l
    · rw [if_pos h0]
      have h1 : m - l = 0 := by omega
      rw [h1]
      exact ⟨by simp, by omega, fun h2 => by omega⟩
    · rw [if_neg h0]
      exact (h.drop l (by omega)).take (m - l) (by omega)

set_option maxRecDepth 100000 in
set_option maxHeartbeats 1600000 in
theorem open_any' (A : Option Addr) (n c : Nat) (f : List UInt8) (w : World) (hr : Rd w A n f) (hc : n ≤ c) (hA : A = none → n = 0 ∧ c = 0) (ht : Tab w) :
    Calls Tryd.prog 19 #[.slice A n c] w fun e w' => Told 5 w e w' (openL f).1 ((openL f).2 : Nat) := by
  have HR := Lib.hid hr
  have HT := Lib.hid ht
  have HA := Lib.hid hA
  have hle := hr.le
  have hl := hr.len
  have HL := Lib.hid hl
  clear hr ht hA hl
  by_cases h1 : 32768 < n
  · have e : openL f = ([], 11) := by unfold openL; rw [HL.out, if_pos h1]
    rw [e]
    clear e
    go_enter Tryd.func19, Tryd.ntmps19
    go_wp2
    go_ret2
    exact ⟨none, 0, rfl, Below.refl _ _, World.ownsRow_nil _ _ _ _⟩
  · by_cases h2 : n < 12
    · have e : openL f = ([], 10) := by unfold openL; rw [HL.out, if_neg h1, if_pos h2]
      rw [e]
      clear e
      go_enter Tryd.func19, Tryd.ntmps19
      go_wp2
      go_ret2
      exact ⟨none, 0, rfl, Below.refl _ _, World.ownsRow_nil _ _ _ _⟩
    · obtain ⟨ad, rfl⟩ : ∃ ad, A = some ad := by
        cases A with
        | none => have := (HA.out rfl).1; omega
        | some ad => exact ⟨ad, rfl⟩
      have hc4 : (4 : Int) ≤ (c : Int) := by omega
      have HTX := Lib.hid (run_text (P := Tryd.prog) 22 9 5 Tryd.underlying22 Tryd.underlying5 Tryd.underlying9 (HR.out.take 4 (by omega)) c)
      by_cases h3 : f.take 4 ≠ magicL
      · have e : openL f = ([], 13) := by unfold openL; rw [HL.out, if_neg h1, if_neg h2, if_pos h3]
        rw [e]
        clear e
        have hm : ((txt (f.take 4)).toList == [97, 109, 110, 49]) = false := by rw [txt_toList]; exact beq_eq_false_iff_ne.2 h3
        have ht := HTX.out
        go_enter Tryd.func19, Tryd.ntmps19
        go_wp2
        go_ret2
        exact ⟨none, 0, rfl, Below.refl _ _, World.ownsRow_nil _ _ _ _⟩
      · have h3' : f.take 4 = magicL := Decidable.not_not.1 h3
        have hm : ((txt (f.take 4)).toList == [97, 109, 110, 49]) = true := by rw [txt_toList]; exact beq_iff_eq.2 h3'
        have ht := HTX.out
        have hdl : Wire.dec ((f.drop 4).take 4) < 4294967296 := by
          have := Wire.dec_lt ((f.drop 4).take 4)
          rw [show ((f.drop 4).take 4).length = 4 by rw [List.length_take, List.length_drop, HL.out]; omega] at this
          exact this
        have HE : Hid (openL f = if n < Wire.dec ((f.drop 4).take 4) + 12 then ([], 10) else if Wire.dec ((f.drop 4).take 4) + 12 < n then ([], 15)
          else if f.drop (n - 4) ≠ Wire.le 4 (Wire.sumN (f.take (n - 4))) then ([], 14) else ((f.drop 8).take (n - 12), 0)) := by
          show _ = _
          unfold openL; rw [HL.out, if_neg h1, if_neg h2, if_neg h3]
        have HCELL := Lib.hid (fun j (hj : j < n) => by
          obtain ⟨ad', e, hcc⟩ := HR.out.cell (by omega)
          cases e
          exact (hcc j hj : w.cell? (ad.add j) = some (.int .u8 (bg f j))))
        clear h3 h3'
        generalize hdd : Wire.dec ((f.drop 4).take 4) = d at hdl HE
        have HD := Lib.hid hdd
        clear hdd
        go_enter Tryd.func19, Tryd.ntmps19
        go_wp2
        clear hm ht
        go_loop [4, 6, 25] (fun v _ i => ∃ (j vn : Nat), j ≤ 4 ∧ i = .int .i64 j ∧ v = .int .u64 vn ∧ vn < 256 ^ j ∧ Hid (vn = Wire.dec (((f.drop 4).take 4).take j))) (fun _ _ i => 4 - (intOf i).toNat)
        case atStart => exact ⟨0, 0, by omega, rfl, rfl, by decide, rfl⟩
        case round =>
          obtain ⟨j, vn, hj, rfl, rfl, hv, HV⟩ := hrel
          have HVL := Lib.hid hv
          by_cases hlt : j < 4
          · have hcx : w.cell? ⟨ad.block, ad.off + 4 + j, none⟩ = some (.int .u8 (bg f (4 + j))) := by
              have := HCELL.out (4 + j) (by omega)
              rwa [show ad.add (4 + j) = ⟨ad.block, ad.off + 4 + j, none⟩ by unfold Addr.add; rw [if_neg (by omega), Nat.add_assoc]] at this
            have hbr := bg_range f (4 + j)
            have hv3 : vn < 16777216 := Nat.lt_of_lt_of_le hv (by have : 256 ^ j ≤ 256 ^ 3 := Nat.pow_le_pow_right (by omega) (by omega); omega)
            have hs := shl8_or vn (f.getD (4 + j) 0).toNat (by omega) (f.getD (4 + j) 0).toNat_lt
            clear hv
            go_wp2
            go_round
            case rel =>
              refine ⟨j + 1, vn * 256 + (f.getD (4 + j) 0).toNat, by omega, by go_num, ?_, ?_, ?_⟩
              · exact congrArg (Value.int IntKind.u64) hs
              · have := (f.getD (4 + j) 0).toNat_lt
                have hv' := HVL.out
                rw [Nat.pow_succ]; omega
              · show _ = _
                rw [dec_step f j hlt (by rw [HL.out]; omega), HV.out]
            case measure => simp [intOf]; omega
          · obtain rfl : j = 4 := by omega
            have hvd : vn = d := by have := HV.out; rwa [List.take_of_length_le (by rw [List.length_take]; omega), HD.out] at this
            subst hvd
            clear HVL HV HD
            by_cases h5 : n < vn + 12
            · go_wp2
              go_ret2
              have e := HE.out
              rw [if_pos h5] at e
              rw [e]
              exact ⟨none, 0, rfl, Below.refl _ _, World.ownsRow_nil _ _ _ _⟩
            · by_cases h6 : vn + 12 < n
              · go_wp2
                go_ret2
                have e := HE.out
                rw [if_neg h5, if_pos h6] at e
                rw [e]
                exact ⟨none, 0, rfl, Below.refl _ _, World.ownsRow_nil _ _ _ _⟩
              · obtain ⟨N, hN⟩ : ∃ N, n = N + 4 := ⟨n - 4, by omega⟩
                have hE := HE.out
                rw [if_neg h5, if_neg h6, show n - 4 = N by omega] at hE
                have HE := Lib.hid hE
                clear hE
                have hNc : (N : Int) ≤ (c : Int) := by omega
                have hRT := Lib.hid (HR.out.take N (by omega))
                have hn4 : (n : Int) - 4 = (N : Int) := by omega
                have HN := Lib.hid hN
                clear hN
                have hvn : vn + 12 = n := by omega
                have HVN := Lib.hid hvn
                clear hvn
                go_wp2_with fail
                refine (sum_any (some ad) N c (f.take N) w hRT.out HT.out).mono ?_
                rintro e w' ⟨rfl, rfl⟩
                clear h5 h6 hn4
                have hsl := Wire.sumN_lt (f.take N)
                generalize hs : Wire.sumN (f.take N) = s at hsl HE
                clear hs
                go_wp2
                go_loopw [8, 55] (fun _ i wr => ∃ j : Nat, j ≤ 4 ∧ i = .int .i64 j ∧ Hid ((∀ q, q < j → f.getD (N + q) 0 = (Wire.le 4 s).getD q 0) ∧ ∃ m, wr = w.drewN m)) (fun _ i _ => 4 - (intOf i).toNat)
                case atStart => exact ⟨0, by omega, rfl, fun q hq => absurd hq (by omega), 0, rfl⟩
                case round =>
                  obtain ⟨j, hj, rfl, HS⟩ := hrel
                  obtain ⟨m, hwr⟩ := HS.out.2
                  subst hwr
                  by_cases hlt : j < 4
                  · have hN := HN.out
                    have w1 : IntKind.i64.wrap ((n : Int) - 4) = (N : Int) := by rw [IntKind.wrap_i64]; omega
                    have w2 : IntKind.i64.wrap ((N : Int) + (j : Int)) = (N : Int) + (j : Int) := by rw [IntKind.wrap_i64]; omega
                    have w3 : IntKind.i64.wrap (8 * (j : Int)) = 8 * (j : Int) := by rw [IntKind.wrap_i64]; omega
                    have i1 : (N : Int) + (j : Int) < (n : Int) := by omega
                    have i2 : (0 : Int) ≤ (N : Int) + (j : Int) := by omega
                    have i3 : ((N : Int) + (j : Int)).toNat = N + j := by omega
                    have hcx := HCELL.out (N + j) (by omega)
                    have hg := le_get 4 s j hlt
                    by_cases hq : f.getD (N + j) 0 = (Wire.le 4 s).getD j 0
                    · have HQ := Lib.hid hq
                      rw [hg] at hq
                      have hbe : (bg f (N + j) != ((UInt8.ofNat (s / 256 ^ j)).toNat : Int)) = false := by unfold bg; rw [hq]; simp
                      rw [← byte_of] at hbe
                      clear hN hg hq
                      go_wp2
                      go_quiet (fail)
                      go_wp2
                      refine ⟨⟨j + 1, by omega, by go_num, ?_, _, rfl⟩, by simp [intOf]; omega⟩
                      intro q hq
                      rcases Nat.lt_succ_iff_lt_or_eq.1 hq with hq | rfl
                      · exact HS.out.1 q hq
                      · exact HQ.out
                    · have HQ := Lib.hid hq
                      rw [hg] at hq
                      have hbe : (bg f (N + j) != ((UInt8.ofNat (s / 256 ^ j)).toNat : Int)) = true := by
                        rw [bne_iff_ne]
                        intro e
                        unfold bg at e
                        exact hq (UInt8.toNat_inj.1 (by omega))
                      rw [← byte_of] at hbe
                      clear hN hg hq
                      go_wp2
                      go_quiet (fail)
                      go_wp2
                      go_ret2
                      have hne : f.drop N ≠ Wire.le 4 s := fun e => HQ.out (by rw [← e]; simp [List.getD_eq_getElem?_getD])
                      have e := HE.out
                      rw [if_pos hne] at e
                      rw [e]
                      exact ⟨none, 0, rfl, Below.drewN (Below.drewN (Below.refl _ _) _) _, World.ownsRow_nil _ _ _ _⟩
                  · obtain rfl : j = 4 := by omega
                    have hN := HN.out
                    have heq : f.drop N = Wire.le 4 s := by
                      refine List.ext_getElem (by rw [List.length_drop, HL.out, Wire.le_length]; omega) fun q g1 g2 => ?_
                      have := HS.out.1 q (by rwa [Wire.le_length] at g2)
                      rw [List.getElem_drop]
                      rw [List.getD_eq_getElem?_getD, List.getD_eq_getElem?_getD, List.getElem?_eq_getElem g2, List.getElem?_eq_getElem (by rw [List.length_drop] at g1; omega)] at this
                      exact this
                    have hE := HE.out
                    rw [if_neg (fun h => h heq)] at hE
                    have HE := Lib.hid hE
                    have hn4 : (n : Int) - 4 = (N : Int) := by omega
                    obtain ⟨i0, hi, hz0, hz1, hz2⟩ := info_parts (show (Tryd.prog.info? 5).map (fun i => (i.zero, i.size, i.bytes)) = some (some (.int .u8 0), 1, 1) by kernel_rfl)
                    obtain ⟨ad2, hcut, hrd⟩ := run_cut3 (P := Tryd.prog) 22 5 Tryd.underlying22 hi hz1 ad n c 8 N (by omega) (by omega)
                    have hcut : ∀ W : World, (Instr.slice 22 (.slice (some ad) n c) (some (.int .i64 8)) (some (.int .i64 (N : Int))) none).run Tryd.prog W = .ok (.slice (some ad2) (N - 8) (c - 8)) W := hcut
                    have hrd2 := hrd (w.drewN m) f HR.out.drewN (by omega)
                    have RN := Lib.hid hrd2.news
                    have RL := Lib.hid hrd2.lenBv
                    clear hN heq hE hi hz0 hz1 hz2 hrd hrd2 hc4 hNc hsl
                    have h8 : Hid (0 + (N - 8) ≤ 32768) := (by omega : 0 + (N - 8) ≤ 32768)
                    go_wp2_with (at_builtin; refine wpList_app rfl (.const (.slice none 0 0)) (.tmp 77) rfl eltByte w.heap.size _ 0 [] rfl (World.ownsRow_nil _ _ _ _) (some ad2) (N - 8) (c - 8) (Bv ((f.drop 8).take (N - 8))) rfl RL.out (fun e => by cases e) RN.out (Bv_one _) ?c3 ?c4 (by exact Nat.le_refl _) ?_)
                    case c3 => have := h8.out; simp only [maxLen]; omega
                    case c4 => have := h8.out; omega
                    intro A4 c4 w4 hown4 hgrow4 _
                    have H4 := Lib.hid hown4
                    have G4 := Lib.hid hgrow4
                    clear hown4 hgrow4
                    go_wp2
                    go_ret2
                    have e := HE.out
                    have hlen : ((f.drop 8).take (N - 8)).length = 0 + (N - 8) := by rw [List.length_take, List.length_drop, HL.out]; have := HN.out; omega
                    rw [show n - 12 = N - 8 by have := HN.out; omega] at e
                    rw [e]
                    refine ⟨A4, c4, by show _ = Ending.returned (.tuple #[.slice A4 ((f.drop 8).take (N - 8)).length c4, _]); rw [hlen, Nat.zero_add]; rfl, ?_, by show w4.ownsRow _ _ _ (.slice A4 ((f.drop 8).take (N - 8)).length c4) ((f.drop 8).take (N - 8)).length (Bv ((f.drop 8).take (N - 8))); rw [hlen, Nat.zero_add]; exact H4.out⟩
                    exact (Below.drewN (Below.refl _ _) m).grown G4.out (Nat.le_refl _) (fun b e => by cases e)
end Go.Proofs.YtkdikbenheagmaaDoor
