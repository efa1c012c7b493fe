/-
  The walk of the law WireOpens.
-/
import Derived.Test.YtkdikbenheagmaaDoorRefSeal
import Derived.Test.YtkdikbenheagmaaDoorRefOpen
import Derived.Test.YtkdikbenheagmaaDoorTells
import Derived.OpenShut
set_option linter.unusedVariables false
set_option linter.unusedSimpArgs false
namespace Go.Proofs.YtkdikbenheagmaaDoor
open Go.RowKit Go.WideShapes Go.ChangeShapes

set_option maxRecDepth 100000 in
set_option maxHeartbeats 8000000 in
theorem wireOpens_walk (A : Option Addr) (n c : Nat) (bs : List UInt8) (at_ : Int) (D : Option Addr) (p d : Nat) (ps : List UInt8) (len : Int) (w : World)
    (hr : Rd w A n bs) (hc : n ≤ c) (hA : A = none → n = 0 ∧ c = 0) (hy : n ≤ 140737488351232) (hf : (Lit.int .i64 at_).wf = true)
    (hr2 : Rd w D p ps) (hcd : p ≤ d) (hD : D = none → p = 0 ∧ d = 0) (hyp : p ≤ 140737488351232) (hm : (Lit.int .i64 len).wf = true) (ht : Tab w) :
    Calls Tryd.prog 6 #[.slice A n c, .int .i64 at_, .slice D p d, .int .i64 len] w fun e w' => e = .returned (.bool true) ∧ Below w.heap.size w w' := by
  have h0 : 0 < w.heap.size := World.block_lt_of_cell? w _ (ht 0 (by decide))
  have HT := Lib.hid ht
  have HR := Lib.hid hr
  have HA := Lib.hid hA
  have HR2 := Lib.hid hr2
  have hl := hr.len
  have HL := Lib.hid hl
  have hab := bounds_i64 hf
  have hlb := bounds_i64 hm
  clear ht hr hA hl hf hm hr2 hD
  go_enter Tryd.func6, Tryd.ntmps6
  by_cases hn : n ≤ 32756
  · have hll : (sealL bs).length = n + 12 := by rw [sealL_len, HL.out]
    have HLL := Lib.hid hll
    clear hll
    have F := rseal_any A n c bs w HR.out HA.out
    rw [if_pos hn, if_pos hn] at F
    have F := Lib.hid F
    go_wp2_with fail
    refine (F.out).mono ?_
    rintro e w2 ht2
    obtain ⟨A2, c2, rfl, hb2, _, hn2, hc2, ho2⟩ := ht2.to HLL.out
    have B2 := Lib.hid hb2
    have O2 := Lib.hid ho2
    have N2 := Lib.hid hn2
    have hshape := own_shape ho2
    clear hb2 hn2 ht2 ho2
    obtain ⟨ad, rfl⟩ : ∃ ad, A2 = some ad := by
      cases A2 with
      | none => have := (N2.out rfl).1; omega
      | some ad => exact ⟨ad, rfl⟩
    obtain ⟨A2', c2', hv, _, _, hat⟩ := hshape
    cases hv
    obtain ⟨ha1, ha2, ha3, ha4⟩ := hat ad rfl
    obtain ⟨g0, g1, g2⟩ := ad
    simp only at ha1 ha2 ha3 ha4
    subst ha1 ha2
    go_wp2_with fail
    go_loopw [13] (fun i wr => ∃ k : Nat, k ≤ p ∧ i = .int .i64 k ∧ Hid (∃ gl, gl.length = n + 12 ∧ wr.ownsRow w.heap.size 5 1 (.slice (some ⟨g0, 0, none⟩) (n + 12) c2) (n + 12) (Bv gl) ∧ Below w.heap.size w wr)) (fun i _ => p - (intOf i).toNat)
    case atStart => exact ⟨0, Nat.zero_le _, rfl, _, HLL.out, O2.out, B2.out⟩
    case round =>
      obtain ⟨k, hk, rfl, HS⟩ := hrel
      by_cases hkp : k < p
      · by_cases hneg : at_ < 0
        · obtain ⟨gl, hgl, hO, hW⟩ := HS.out
          have HW := Lib.hid hW
          have HRG := Lib.hid (own_rd hO)
          clear hO hW HS
          by_cases hln : len < 0
          · have HRD := HRG
            have hMc : n + 12 ≤ c2 := hc2
            have FO := Lib.hid (open_any' (some ⟨g0, 0, none⟩) (n + 12) c2 gl wr HRD.out hMc (fun e => by cases e) (HT.out.below HW.out h0))
            have RO := Lib.hid (fun w' (hb : Below wr.heap.size wr w') => ropen_any (some ⟨g0, 0, none⟩) (n + 12) c2 gl w' (HRD.out.below hb) hMc (fun e => by cases e))
            generalize (openL gl).1 = ol at FO RO
            generalize (openL gl).2 = er at FO RO
            go_wp2_with fail
            refine (FO.out).mono ?_
            rintro e w3 ⟨A3, c3, rfl, hb3, ho3⟩
            have B3 := Lib.hid hb3
            have H3 := Lib.hid (own_rd ho3)
            have HB3 : Hid (Below w.heap.size w w3) := HW.out.trans (hb3.mono HW.out.size)
            clear hb3 ho3
            go_wp2_with fail
            refine (RO.out _ B3.out).mono ?_
            rintro e w4 ⟨A4, c4, rfl, hb4, ho4⟩
            have H34 := Lib.hid (H3.out.below hb4)
            have H4 := Lib.hid (own_rd ho4)
            have HB4 : Hid (Below w.heap.size w w4) := HB3.out.trans (hb4.mono HB3.out.size)
            clear hb4 ho4
            go_wp2_with fail
            refine (num_any _ _).mono ?_
            rintro e w' ⟨rfl, rfl⟩
            have hee : (((er : Nat) : Int) == ((er : Nat) : Int)) = true := beq_self_eq_true _
            go_wp2_with fail
            refine (sameBytes_any A3 _ c3 ol A4 _ c4 ol w4 H34.out H4.out).mono ?_
            rintro e w' ⟨rfl, rfl⟩
            rw [beq_self_eq_true]
            go_wp2_with fail
            refine (alive_any w4 (HT.out.below HB4.out h0)).mono ?_
            rintro e w5 ⟨rfl, hb5⟩
            have HB5 : Hid (Below w.heap.size w w5) := HB4.out.trans (hb5.mono HB4.out.size)
            clear hb5
            go_wp2
            go_ret
            exact ⟨rfl, HB5.out⟩
          · obtain ⟨m, rfl⟩ : ∃ m : Nat, len = m := ⟨len.toNat, by omega⟩
            by_cases hm : m < n + 12
            · have HRD := Lib.hid (HRG.out.take m (by omega))
              have hMc : m ≤ c2 := by omega
              have hmci : (m : Int) ≤ (c2 : Int) := by omega
              generalize gl.take m = gm at HRD
              have FO := Lib.hid (open_any' (some ⟨g0, 0, none⟩) (m) c2 gm wr HRD.out hMc (fun e => by cases e) (HT.out.below HW.out h0))
              have RO := Lib.hid (fun w' (hb : Below wr.heap.size wr w') => ropen_any (some ⟨g0, 0, none⟩) (m) c2 gm w' (HRD.out.below hb) hMc (fun e => by cases e))
              generalize (openL gm).1 = ol at FO RO
              generalize (openL gm).2 = er at FO RO
              go_wp2_with fail
              refine (FO.out).mono ?_
              rintro e w3 ⟨A3, c3, rfl, hb3, ho3⟩
              have B3 := Lib.hid hb3
              have H3 := Lib.hid (own_rd ho3)
              have HB3 : Hid (Below w.heap.size w w3) := HW.out.trans (hb3.mono HW.out.size)
              clear hb3 ho3
              go_wp2_with fail
              refine (RO.out _ B3.out).mono ?_
              rintro e w4 ⟨A4, c4, rfl, hb4, ho4⟩
              have H34 := Lib.hid (H3.out.below hb4)
              have H4 := Lib.hid (own_rd ho4)
              have HB4 : Hid (Below w.heap.size w w4) := HB3.out.trans (hb4.mono HB3.out.size)
              clear hb4 ho4
              go_wp2_with fail
              refine (num_any _ _).mono ?_
              rintro e w' ⟨rfl, rfl⟩
              have hee : (((er : Nat) : Int) == ((er : Nat) : Int)) = true := beq_self_eq_true _
              go_wp2_with fail
              refine (sameBytes_any A3 _ c3 ol A4 _ c4 ol w4 H34.out H4.out).mono ?_
              rintro e w' ⟨rfl, rfl⟩
              rw [beq_self_eq_true]
              go_wp2_with fail
              refine (alive_any w4 (HT.out.below HB4.out h0)).mono ?_
              rintro e w5 ⟨rfl, hb5⟩
              have HB5 : Hid (Below w.heap.size w w5) := HB4.out.trans (hb5.mono HB4.out.size)
              clear hb5
              go_wp2
              go_ret
              exact ⟨rfl, HB5.out⟩
            · have HRD := HRG
              have hMc : n + 12 ≤ c2 := hc2
              have FO := Lib.hid (open_any' (some ⟨g0, 0, none⟩) (n + 12) c2 gl wr HRD.out hMc (fun e => by cases e) (HT.out.below HW.out h0))
              have RO := Lib.hid (fun w' (hb : Below wr.heap.size wr w') => ropen_any (some ⟨g0, 0, none⟩) (n + 12) c2 gl w' (HRD.out.below hb) hMc (fun e => by cases e))
              generalize (openL gl).1 = ol at FO RO
              generalize (openL gl).2 = er at FO RO
              go_wp2_with fail
              refine (FO.out).mono ?_
              rintro e w3 ⟨A3, c3, rfl, hb3, ho3⟩
              have B3 := Lib.hid hb3
              have H3 := Lib.hid (own_rd ho3)
              have HB3 : Hid (Below w.heap.size w w3) := HW.out.trans (hb3.mono HW.out.size)
              clear hb3 ho3
              go_wp2_with fail
              refine (RO.out _ B3.out).mono ?_
              rintro e w4 ⟨A4, c4, rfl, hb4, ho4⟩
              have H34 := Lib.hid (H3.out.below hb4)
              have H4 := Lib.hid (own_rd ho4)
              have HB4 : Hid (Below w.heap.size w w4) := HB3.out.trans (hb4.mono HB3.out.size)
              clear hb4 ho4
              go_wp2_with fail
              refine (num_any _ _).mono ?_
              rintro e w' ⟨rfl, rfl⟩
              have hee : (((er : Nat) : Int) == ((er : Nat) : Int)) = true := beq_self_eq_true _
              go_wp2_with fail
              refine (sameBytes_any A3 _ c3 ol A4 _ c4 ol w4 H34.out H4.out).mono ?_
              rintro e w' ⟨rfl, rfl⟩
              rw [beq_self_eq_true]
              go_wp2_with fail
              refine (alive_any w4 (HT.out.below HB4.out h0)).mono ?_
              rintro e w5 ⟨rfl, hb5⟩
              have HB5 : Hid (Below w.heap.size w w5) := HB4.out.trans (hb5.mono HB4.out.size)
              clear hb5
              go_wp2
              go_ret
              exact ⟨rfl, HB5.out⟩
        · obtain ⟨a, rfl⟩ : ∃ a : Nat, at_ = a := ⟨at_.toNat, by omega⟩
          by_cases hin : a + k < n + 12
          · obtain ⟨gl, hgl, hO, hW⟩ := HS.out
            have hfz : wr.frozen? ⟨g0, a + k, none⟩ = false := hO.frozenAt _
            have hcell : wr.cell? ⟨g0, a + k, none⟩ = some (.int .u8 (bg gl (a + k))) := by
              rw [hO.cellAt _ (by omega)]
              exact Bv_get _ _ (by omega)
            obtain ⟨pd, ep, hpc⟩ := (HR2.out.below hW).cell (by omega)
            cases ep
            have hcx : wr.cell? (pd.add k) = some (.int .u8 (bg ps k)) := hpc k hkp
            have HO := Lib.hid hO
            have HW := Lib.hid hW
            clear hO hW hpc HS
            go_wp2
            go_roundw
            case rel =>
              have hs := HO.out.stored (a + k) (.int .u8 ((ps.getD k 0).toNat : Int))
              rw [Bv_set] at hs
              exact ⟨k + 1, by omega, by go_num, _, by rw [List.length_set]; exact hgl, hs.1, HW.out.setCell (by show w.heap.size ≤ g0; omega) _⟩
            case measure => simp [intOf]; omega
          · obtain ⟨gl, hgl, hO, hW⟩ := HS.out
            have HW := Lib.hid hW
            have HRG := Lib.hid (own_rd hO)
            clear hO hW HS
            by_cases hln : len < 0
            · have HRD := HRG
              have hMc : n + 12 ≤ c2 := hc2
              have FO := Lib.hid (open_any' (some ⟨g0, 0, none⟩) (n + 12) c2 gl wr HRD.out hMc (fun e => by cases e) (HT.out.below HW.out h0))
              have RO := Lib.hid (fun w' (hb : Below wr.heap.size wr w') => ropen_any (some ⟨g0, 0, none⟩) (n + 12) c2 gl w' (HRD.out.below hb) hMc (fun e => by cases e))
              generalize (openL gl).1 = ol at FO RO
              generalize (openL gl).2 = er at FO RO
              go_wp2_with fail
              refine (FO.out).mono ?_
              rintro e w3 ⟨A3, c3, rfl, hb3, ho3⟩
              have B3 := Lib.hid hb3
              have H3 := Lib.hid (own_rd ho3)
              have HB3 : Hid (Below w.heap.size w w3) := HW.out.trans (hb3.mono HW.out.size)
              clear hb3 ho3
              go_wp2_with fail
              refine (RO.out _ B3.out).mono ?_
              rintro e w4 ⟨A4, c4, rfl, hb4, ho4⟩
              have H34 := Lib.hid (H3.out.below hb4)
              have H4 := Lib.hid (own_rd ho4)
              have HB4 : Hid (Below w.heap.size w w4) := HB3.out.trans (hb4.mono HB3.out.size)
              clear hb4 ho4
              go_wp2_with fail
              refine (num_any _ _).mono ?_
              rintro e w' ⟨rfl, rfl⟩
              have hee : (((er : Nat) : Int) == ((er : Nat) : Int)) = true := beq_self_eq_true _
              go_wp2_with fail
              refine (sameBytes_any A3 _ c3 ol A4 _ c4 ol w4 H34.out H4.out).mono ?_
              rintro e w' ⟨rfl, rfl⟩
              rw [beq_self_eq_true]
              go_wp2_with fail
              refine (alive_any w4 (HT.out.below HB4.out h0)).mono ?_
              rintro e w5 ⟨rfl, hb5⟩
              have HB5 : Hid (Below w.heap.size w w5) := HB4.out.trans (hb5.mono HB4.out.size)
              clear hb5
              go_wp2
              go_ret
              exact ⟨rfl, HB5.out⟩
            · obtain ⟨m, rfl⟩ : ∃ m : Nat, len = m := ⟨len.toNat, by omega⟩
              by_cases hm : m < n + 12
              · have HRD := Lib.hid (HRG.out.take m (by omega))
                have hMc : m ≤ c2 := by omega
                have hmci : (m : Int) ≤ (c2 : Int) := by omega
                generalize gl.take m = gm at HRD
                have FO := Lib.hid (open_any' (some ⟨g0, 0, none⟩) (m) c2 gm wr HRD.out hMc (fun e => by cases e) (HT.out.below HW.out h0))
                have RO := Lib.hid (fun w' (hb : Below wr.heap.size wr w') => ropen_any (some ⟨g0, 0, none⟩) (m) c2 gm w' (HRD.out.below hb) hMc (fun e => by cases e))
                generalize (openL gm).1 = ol at FO RO
                generalize (openL gm).2 = er at FO RO
                go_wp2_with fail
                refine (FO.out).mono ?_
                rintro e w3 ⟨A3, c3, rfl, hb3, ho3⟩
                have B3 := Lib.hid hb3
                have H3 := Lib.hid (own_rd ho3)
                have HB3 : Hid (Below w.heap.size w w3) := HW.out.trans (hb3.mono HW.out.size)
                clear hb3 ho3
                go_wp2_with fail
                refine (RO.out _ B3.out).mono ?_
                rintro e w4 ⟨A4, c4, rfl, hb4, ho4⟩
                have H34 := Lib.hid (H3.out.below hb4)
                have H4 := Lib.hid (own_rd ho4)
                have HB4 : Hid (Below w.heap.size w w4) := HB3.out.trans (hb4.mono HB3.out.size)
                clear hb4 ho4
                go_wp2_with fail
                refine (num_any _ _).mono ?_
                rintro e w' ⟨rfl, rfl⟩
                have hee : (((er : Nat) : Int) == ((er : Nat) : Int)) = true := beq_self_eq_true _
                go_wp2_with fail
                refine (sameBytes_any A3 _ c3 ol A4 _ c4 ol w4 H34.out H4.out).mono ?_
                rintro e w' ⟨rfl, rfl⟩
                rw [beq_self_eq_true]
                go_wp2_with fail
                refine (alive_any w4 (HT.out.below HB4.out h0)).mono ?_
                rintro e w5 ⟨rfl, hb5⟩
                have HB5 : Hid (Below w.heap.size w w5) := HB4.out.trans (hb5.mono HB4.out.size)
                clear hb5
                go_wp2
                go_ret
                exact ⟨rfl, HB5.out⟩
              · have HRD := HRG
                have hMc : n + 12 ≤ c2 := hc2
                have FO := Lib.hid (open_any' (some ⟨g0, 0, none⟩) (n + 12) c2 gl wr HRD.out hMc (fun e => by cases e) (HT.out.below HW.out h0))
                have RO := Lib.hid (fun w' (hb : Below wr.heap.size wr w') => ropen_any (some ⟨g0, 0, none⟩) (n + 12) c2 gl w' (HRD.out.below hb) hMc (fun e => by cases e))
                generalize (openL gl).1 = ol at FO RO
                generalize (openL gl).2 = er at FO RO
                go_wp2_with fail
                refine (FO.out).mono ?_
                rintro e w3 ⟨A3, c3, rfl, hb3, ho3⟩
                have B3 := Lib.hid hb3
                have H3 := Lib.hid (own_rd ho3)
                have HB3 : Hid (Below w.heap.size w w3) := HW.out.trans (hb3.mono HW.out.size)
                clear hb3 ho3
                go_wp2_with fail
                refine (RO.out _ B3.out).mono ?_
                rintro e w4 ⟨A4, c4, rfl, hb4, ho4⟩
                have H34 := Lib.hid (H3.out.below hb4)
                have H4 := Lib.hid (own_rd ho4)
                have HB4 : Hid (Below w.heap.size w w4) := HB3.out.trans (hb4.mono HB3.out.size)
                clear hb4 ho4
                go_wp2_with fail
                refine (num_any _ _).mono ?_
                rintro e w' ⟨rfl, rfl⟩
                have hee : (((er : Nat) : Int) == ((er : Nat) : Int)) = true := beq_self_eq_true _
                go_wp2_with fail
                refine (sameBytes_any A3 _ c3 ol A4 _ c4 ol w4 H34.out H4.out).mono ?_
                rintro e w' ⟨rfl, rfl⟩
                rw [beq_self_eq_true]
                go_wp2_with fail
                refine (alive_any w4 (HT.out.below HB4.out h0)).mono ?_
                rintro e w5 ⟨rfl, hb5⟩
                have HB5 : Hid (Below w.heap.size w w5) := HB4.out.trans (hb5.mono HB4.out.size)
                clear hb5
                go_wp2
                go_ret
                exact ⟨rfl, HB5.out⟩
      · obtain ⟨gl, hgl, hO, hW⟩ := HS.out
        have HW := Lib.hid hW
        have HRG := Lib.hid (own_rd hO)
        clear hO hW HS
        by_cases hln : len < 0
        · have HRD := HRG
          have hMc : n + 12 ≤ c2 := hc2
          have FO := Lib.hid (open_any' (some ⟨g0, 0, none⟩) (n + 12) c2 gl wr HRD.out hMc (fun e => by cases e) (HT.out.below HW.out h0))
          have RO := Lib.hid (fun w' (hb : Below wr.heap.size wr w') => ropen_any (some ⟨g0, 0, none⟩) (n + 12) c2 gl w' (HRD.out.below hb) hMc (fun e => by cases e))
          generalize (openL gl).1 = ol at FO RO
          generalize (openL gl).2 = er at FO RO
          go_wp2_with fail
          refine (FO.out).mono ?_
          rintro e w3 ⟨A3, c3, rfl, hb3, ho3⟩
          have B3 := Lib.hid hb3
          have H3 := Lib.hid (own_rd ho3)
          have HB3 : Hid (Below w.heap.size w w3) := HW.out.trans (hb3.mono HW.out.size)
          clear hb3 ho3
          go_wp2_with fail
          refine (RO.out _ B3.out).mono ?_
          rintro e w4 ⟨A4, c4, rfl, hb4, ho4⟩
          have H34 := Lib.hid (H3.out.below hb4)
          have H4 := Lib.hid (own_rd ho4)
          have HB4 : Hid (Below w.heap.size w w4) := HB3.out.trans (hb4.mono HB3.out.size)
          clear hb4 ho4
          go_wp2_with fail
          refine (num_any _ _).mono ?_
          rintro e w' ⟨rfl, rfl⟩
          have hee : (((er : Nat) : Int) == ((er : Nat) : Int)) = true := beq_self_eq_true _
          go_wp2_with fail
          refine (sameBytes_any A3 _ c3 ol A4 _ c4 ol w4 H34.out H4.out).mono ?_
          rintro e w' ⟨rfl, rfl⟩
          rw [beq_self_eq_true]
          go_wp2_with fail
          refine (alive_any w4 (HT.out.below HB4.out h0)).mono ?_
          rintro e w5 ⟨rfl, hb5⟩
          have HB5 : Hid (Below w.heap.size w w5) := HB4.out.trans (hb5.mono HB4.out.size)
          clear hb5
          go_wp2
          go_ret
          exact ⟨rfl, HB5.out⟩
        · obtain ⟨m, rfl⟩ : ∃ m : Nat, len = m := ⟨len.toNat, by omega⟩
          by_cases hm : m < n + 12
          · have HRD := Lib.hid (HRG.out.take m (by omega))
            have hMc : m ≤ c2 := by omega
            have hmci : (m : Int) ≤ (c2 : Int) := by omega
            generalize gl.take m = gm at HRD
            have FO := Lib.hid (open_any' (some ⟨g0, 0, none⟩) (m) c2 gm wr HRD.out hMc (fun e => by cases e) (HT.out.below HW.out h0))
            have RO := Lib.hid (fun w' (hb : Below wr.heap.size wr w') => ropen_any (some ⟨g0, 0, none⟩) (m) c2 gm w' (HRD.out.below hb) hMc (fun e => by cases e))
            generalize (openL gm).1 = ol at FO RO
            generalize (openL gm).2 = er at FO RO
            go_wp2_with fail
            refine (FO.out).mono ?_
            rintro e w3 ⟨A3, c3, rfl, hb3, ho3⟩
            have B3 := Lib.hid hb3
            have H3 := Lib.hid (own_rd ho3)
            have HB3 : Hid (Below w.heap.size w w3) := HW.out.trans (hb3.mono HW.out.size)
            clear hb3 ho3
            go_wp2_with fail
            refine (RO.out _ B3.out).mono ?_
            rintro e w4 ⟨A4, c4, rfl, hb4, ho4⟩
            have H34 := Lib.hid (H3.out.below hb4)
            have H4 := Lib.hid (own_rd ho4)
            have HB4 : Hid (Below w.heap.size w w4) := HB3.out.trans (hb4.mono HB3.out.size)
            clear hb4 ho4
            go_wp2_with fail
            refine (num_any _ _).mono ?_
            rintro e w' ⟨rfl, rfl⟩
            have hee : (((er : Nat) : Int) == ((er : Nat) : Int)) = true := beq_self_eq_true _
            go_wp2_with fail
            refine (sameBytes_any A3 _ c3 ol A4 _ c4 ol w4 H34.out H4.out).mono ?_
            rintro e w' ⟨rfl, rfl⟩
            rw [beq_self_eq_true]
            go_wp2_with fail
            refine (alive_any w4 (HT.out.below HB4.out h0)).mono ?_
            rintro e w5 ⟨rfl, hb5⟩
            have HB5 : Hid (Below w.heap.size w w5) := HB4.out.trans (hb5.mono HB4.out.size)
            clear hb5
            go_wp2
            go_ret
            exact ⟨rfl, HB5.out⟩
          · have HRD := HRG
            have hMc : n + 12 ≤ c2 := hc2
            have FO := Lib.hid (open_any' (some ⟨g0, 0, none⟩) (n + 12) c2 gl wr HRD.out hMc (fun e => by cases e) (HT.out.below HW.out h0))
            have RO := Lib.hid (fun w' (hb : Below wr.heap.size wr w') => ropen_any (some ⟨g0, 0, none⟩) (n + 12) c2 gl w' (HRD.out.below hb) hMc (fun e => by cases e))
            generalize (openL gl).1 = ol at FO RO
            generalize (openL gl).2 = er at FO RO
            go_wp2_with fail
            refine (FO.out).mono ?_
            rintro e w3 ⟨A3, c3, rfl, hb3, ho3⟩
            have B3 := Lib.hid hb3
            have H3 := Lib.hid (own_rd ho3)
            have HB3 : Hid (Below w.heap.size w w3) := HW.out.trans (hb3.mono HW.out.size)
            clear hb3 ho3
            go_wp2_with fail
            refine (RO.out _ B3.out).mono ?_
            rintro e w4 ⟨A4, c4, rfl, hb4, ho4⟩
            have H34 := Lib.hid (H3.out.below hb4)
            have H4 := Lib.hid (own_rd ho4)
            have HB4 : Hid (Below w.heap.size w w4) := HB3.out.trans (hb4.mono HB3.out.size)
            clear hb4 ho4
            go_wp2_with fail
            refine (num_any _ _).mono ?_
            rintro e w' ⟨rfl, rfl⟩
            have hee : (((er : Nat) : Int) == ((er : Nat) : Int)) = true := beq_self_eq_true _
            go_wp2_with fail
            refine (sameBytes_any A3 _ c3 ol A4 _ c4 ol w4 H34.out H4.out).mono ?_
            rintro e w' ⟨rfl, rfl⟩
            rw [beq_self_eq_true]
            go_wp2_with fail
            refine (alive_any w4 (HT.out.below HB4.out h0)).mono ?_
            rintro e w5 ⟨rfl, hb5⟩
            have HB5 : Hid (Below w.heap.size w w5) := HB4.out.trans (hb5.mono HB4.out.size)
            clear hb5
            go_wp2
            go_ret
            exact ⟨rfl, HB5.out⟩
  · have F := rseal_any A n c bs w HR.out HA.out
    rw [if_neg hn, if_neg hn] at F
    have F := Lib.hid F
    go_wp2_with fail
    refine (F.out).mono ?_
    rintro e w2 ht2
    obtain ⟨A2, c2, rfl, hb2, _⟩ := ht2.to rfl
    have B2 := Lib.hid hb2
    clear hb2 ht2
    have F := seal_any A n c bs w2 (HR.out.below B2.out) HA.out (HT.out.below B2.out h0)
    rw [if_neg hn, if_neg hn] at F
    have F := Lib.hid F
    go_wp2_with fail
    refine (F.out).mono ?_
    rintro e w3 ht3
    obtain ⟨A3, c3, rfl, hb3, _⟩ := ht3.to rfl
    have B3 : Hid (Below w.heap.size w w3) := B2.out.trans (hb3.mono B2.out.size)
    clear hb3 ht3
    go_wp2_with fail
    refine (num_any _ _).mono ?_
    rintro e w' ⟨rfl, rfl⟩
    go_wp2
    go_ret
    exact ⟨rfl, B3.out⟩
end Go.Proofs.YtkdikbenheagmaaDoor
