/-
  The walk of the law WireTells.
-/
import Derived.Test.YtkdikbenheagmaaDoorTellsP
import Derived.Test.YtkdikbenheagmaaDoorSealed
set_option linter.unusedVariables false
set_option linter.unusedSimpArgs false
namespace Go.Proofs.YtkdikbenheagmaaDoor
open Go.RowKit

theorem Bv_set (g : List UInt8) (j : Nat) (x : UInt8) : (Bv g).set j (.int .u8 (x.toNat : Int)) = Bv (g.set j x) := by unfold Bv; rw [List.map_set]

set_option maxRecDepth 100000 in
set_option maxHeartbeats 1600000 in
theorem wireTells_walk (A : Option Addr) (n c : Nat) (bs : List UInt8) (first : Int) (mask : Int) (w : World)
    (hr : Rd w A n bs) (hc : n ≤ c) (hA : A = none → n = 0 ∧ c = 0) (hy : n ≤ 140737488351232) (hf : (Lit.int .i64 first).wf = true) (hm : (Lit.int .u32 mask).wf = true) (ht : Tab w) :
    Calls Tryd.prog 8 #[.slice A n c, .int .i64 first, .int .u32 mask] w fun e w' => e = .returned (.bool true) ∧ Below w.heap.size w w' := by
  have h0 : 0 < w.heap.size := World.block_lt_of_cell? w _ (ht 0 (by decide))
  have HT := Lib.hid ht
  have HR := Lib.hid hr
  have HA := Lib.hid hA
  have hl := hr.len
  have HL := Lib.hid hl
  clear ht hr hA hl hf hm
  go_enter Tryd.func8, Tryd.ntmps8
  go_wp2_with fail
  refine (alive_any w HT.out).mono ?_
  rintro e w1 ⟨rfl, hb1⟩
  have B1 := Lib.hid hb1
  clear hb1
  by_cases hn : n ≤ 32756
  · have hll : (sealL bs).length = n + 12 := by rw [sealL_len, HL.out]
    have HLL := Lib.hid hll
    clear hll
    have F := seal_any A n c bs w1 (HR.out.below B1.out) HA.out (HT.out.below B1.out h0)
    rw [if_pos hn, if_pos hn] at F
    have F := Lib.hid F
    go_wp2_with fail
    refine (F.out).mono ?_
    rintro e w2 ht2
    obtain ⟨A2, c2, rfl, hb2, _, hn2, hc2, ho2⟩ := ht2.to HLL.out
    have B2 : Hid (Below w.heap.size w w2) := B1.out.trans (hb2.mono B1.out.size)
    have O2 := Lib.hid ho2
    have N2 := Lib.hid hn2
    have hshape := own_shape ho2
    have hwz := B1.out.size
    clear hb2 hn2 ht2 ho2
    obtain ⟨ad, rfl⟩ : ∃ ad, A2 = some ad := by
      cases A2 with
      | none => have := (N2.out rfl).1; omega
      | some ad => exact ⟨ad, rfl⟩
    obtain ⟨A2', c2', hv, _, _, hat⟩ := hshape
    cases hv
    obtain ⟨ha1, ha2, ha3, ha4⟩ := hat ad rfl
    obtain ⟨g0, g1, g2⟩ := ad
    simp only at ha1 ha2 ha3 ha4
    subst ha1 ha2
    go_wp2_with fail
    refine (num_any _ _).mono ?_
    rintro e w' ⟨rfl, rfl⟩
    have e8 : (8 : Int) * ((n + 12 : Nat) : Int) = 8 * (n : Int) + 96 := by omega
    by_cases hneg : first < 0
    · go_wp2
      go_ret
      exact ⟨rfl, B2.out⟩
    · by_cases hbig : 8 * (n : Int) + 96 ≤ first
      · go_wp2
        go_ret
        exact ⟨rfl, B2.out⟩
      · obtain ⟨F, rfl⟩ : ∃ F : Nat, first = F := ⟨first.toNat, by omega⟩
        go_wp2
        go_loopw [9, 10, 11] (fun ch i _ wr => ∃ (k : Nat) (b : Bool), k ≤ 32 ∧ i = .int .i64 k ∧ ch = .bool b ∧ Hid (∃ gl, Burst (sealL bs) F k gl b ∧ wr.ownsRow w1.heap.size 5 1 (.slice (some ⟨g0, 0, none⟩) (n + 12) c2) (n + 12) (Bv gl) ∧ Below w.heap.size w wr)) (fun _ i _ _ => 32 - (intOf i).toNat)
        case atStart => exact ⟨0, false, by omega, rfl, rfl, _, Burst.start _ _, O2.out, B2.out⟩
        case round =>
          obtain ⟨k, b, hk, rfl, rfl, HS⟩ := hrel
          by_cases hk32 : k < 32
          · by_cases hin : F + k < 8 * (n + 12)
            · obtain ⟨gl, hB, hO, hW⟩ := HS.out
              have HB := Lib.hid hB
              have HO := Lib.hid hO
              have HW := Lib.hid hW
              have hgl : gl.length = n + 12 := hB.len.trans HLL.out
              have hcx : wr.cell? ⟨g0, (F + k) / 8, none⟩ = some (.int .u8 (bg gl ((F + k) / 8))) := by
                rw [hO.cellAt _ (by omega)]
                exact Bv_get _ _ (by omega)
              have hfz : wr.frozen? ⟨g0, (F + k) / 8, none⟩ = false := hO.frozenAt _
              clear hB hO hW
              cases hbit : (bits BinOp.and IntKind.u32 (mask / 2 ^ k) 1 == 1) with
              | false =>
                clear hcx hfz
                go_wp2
                go_roundw
                case rel => exact ⟨k + 1, b, by omega, by go_num, rfl, gl, HB.out.stay, HO.out, HW.out⟩
                case measure => simp [intOf]; omega
              | true =>
                go_wp2
                go_roundw
                case rel =>
                  have hv : bits BinOp.xor IntKind.u8 (bg gl ((F + k) / 8)) (2 ^ ((F + k) % 8) % 256) = ((gl.getD ((F + k) / 8) 0 ^^^ UInt8.ofNat (2 ^ ((F + k) % 8))).toNat : Int) := by
                    rw [UInt8.toNat_xor]
                    have e : (2 : Int) ^ ((F + k) % 8) % 256 = ((UInt8.ofNat (2 ^ ((F + k) % 8))).toNat : Int) := by
                      show _ = ((2 ^ ((F + k) % 8) % 256 : Nat) : Int)
                      push_cast; rfl
                    rw [e]
                    exact x8 _ _ (UInt8.toNat_lt _) (UInt8.toNat_lt _)
                  rw [hv]
                  have hs := HO.out.stored ((F + k) / 8) (.int .u8 ((gl.getD ((F + k) / 8) 0 ^^^ UInt8.ofNat (2 ^ ((F + k) % 8))).toNat : Int))
                  rw [Bv_set] at hs
                  exact ⟨k + 1, true, by omega, by go_num, rfl, _, HB.out.more (by rw [HLL.out]; exact hin), hs.1, HW.out.setCell (by show w.heap.size ≤ g0; omega) _⟩
                case measure => simp [intOf]; omega
            · clear O2 N2 B2
              obtain ⟨gl, hB, hO, hW⟩ := HS.out
              have hgl : gl.length = n + 12 := hB.len.trans HLL.out
              have HB := Lib.hid hB
              have HW := Lib.hid hW
              have HRG := Lib.hid (own_rd hO)
              clear hB hO hW HS
              have FO := open_any' (some ⟨g0, 0, none⟩) (n + 12) c2 gl wr HRG.out hc2 (fun e => by cases e) (HT.out.below HW.out h0)
              cases b with
              | false =>
                rw [HB.out.same, open_seal bs (by rw [HL.out]; exact hn)] at FO
                have FO := Lib.hid FO
                clear hgl
                go_wp2_with fail
                refine (FO.out).mono ?_
                rintro e w3 ht3
                obtain ⟨A3, c3, rfl, hb3, hr3, _, _, _⟩ := ht3.to HL.out
                have B3 : Hid (Below w.heap.size w w3) := HW.out.trans (hb3.mono HW.out.size)
                have H3 := Lib.hid hr3
                clear hb3 hr3 ht3
                go_wp2_with fail
                refine (num_any _ _).mono ?_
                rintro e w' ⟨rfl, rfl⟩
                go_wp2_with fail
                refine (sameBytes_any A3 n c3 bs A n c bs w3 H3.out (HR.out.below B3.out)).mono ?_
                rintro e w' ⟨rfl, rfl⟩
                rw [beq_self_eq_true]
                go_wp2
                go_ret
                exact ⟨rfl, B3.out⟩
              | true =>
                have he := HB.out.told hk
                have hnil := open_err gl he
                rw [hnil] at FO
                generalize (openL gl).2 = er at he FO
                have FO := Lib.hid FO
                have he1 : ((er : Nat) : Int) ≠ 0 := by omega
                have he2 : (((er : Nat) : Int) != 0) = true := bne_iff_ne.2 he1
                clear hgl hnil
                go_wp2_with fail
                refine (FO.out).mono ?_
                rintro e w3 ht3
                obtain ⟨A3, c3, rfl, hb3, _⟩ := ht3.to rfl
                have B3 : Hid (Below w.heap.size w w3) := HW.out.trans (hb3.mono HW.out.size)
                clear hb3 ht3
                go_wp2_with fail
                refine (num_any _ _).mono ?_
                rintro e w' ⟨rfl, rfl⟩
                go_wp2
                go_ret
                exact ⟨rfl, B3.out⟩
          · obtain rfl : k = 32 := by omega
            clear O2 N2 B2
            obtain ⟨gl, hB, hO, hW⟩ := HS.out
            have hgl : gl.length = n + 12 := hB.len.trans HLL.out
            have HB := Lib.hid hB
            have HW := Lib.hid hW
            have HRG := Lib.hid (own_rd hO)
            clear hB hO hW HS
            have FO := open_any' (some ⟨g0, 0, none⟩) (n + 12) c2 gl wr HRG.out hc2 (fun e => by cases e) (HT.out.below HW.out h0)
            cases b with
            | false =>
              rw [HB.out.same, open_seal bs (by rw [HL.out]; exact hn)] at FO
              have FO := Lib.hid FO
              clear hgl
              go_wp2_with fail
              refine (FO.out).mono ?_
              rintro e w3 ht3
              obtain ⟨A3, c3, rfl, hb3, hr3, _, _, _⟩ := ht3.to HL.out
              have B3 : Hid (Below w.heap.size w w3) := HW.out.trans (hb3.mono HW.out.size)
              have H3 := Lib.hid hr3
              clear hb3 hr3 ht3
              go_wp2_with fail
              refine (num_any _ _).mono ?_
              rintro e w' ⟨rfl, rfl⟩
              go_wp2_with fail
              refine (sameBytes_any A3 n c3 bs A n c bs w3 H3.out (HR.out.below B3.out)).mono ?_
              rintro e w' ⟨rfl, rfl⟩
              rw [beq_self_eq_true]
              go_wp2
              go_ret
              exact ⟨rfl, B3.out⟩
            | true =>
              have he := HB.out.told hk
              have hnil := open_err gl he
              rw [hnil] at FO
              generalize (openL gl).2 = er at he FO
              have FO := Lib.hid FO
              have he1 : ((er : Nat) : Int) ≠ 0 := by omega
              have he2 : (((er : Nat) : Int) != 0) = true := bne_iff_ne.2 he1
              clear hgl hnil
              go_wp2_with fail
              refine (FO.out).mono ?_
              rintro e w3 ht3
              obtain ⟨A3, c3, rfl, hb3, _⟩ := ht3.to rfl
              have B3 : Hid (Below w.heap.size w w3) := HW.out.trans (hb3.mono HW.out.size)
              clear hb3 ht3
              go_wp2_with fail
              refine (num_any _ _).mono ?_
              rintro e w' ⟨rfl, rfl⟩
              go_wp2
              go_ret
              exact ⟨rfl, B3.out⟩
  · have hdn : decide (32756 < (n : Int)) = true := decide_eq_true (by omega)
    have F := seal_any A n c bs w1 (HR.out.below B1.out) HA.out (HT.out.below B1.out h0)
    rw [if_neg hn, if_neg hn] at F
    have F := Lib.hid F
    go_wp2_with fail
    refine (F.out).mono ?_
    rintro e w2 ht2
    obtain ⟨A2, c2, rfl, hb2, _, hn2, hc2, _⟩ := ht2.to rfl
    have B2 : Hid (Below w.heap.size w w2) := B1.out.trans (hb2.mono B1.out.size)
    clear hb2 hn2 ht2
    go_wp2_with fail
    refine (num_any _ _).mono ?_
    rintro e w' ⟨rfl, rfl⟩
    go_wp2
    go_ret
    exact ⟨rfl, B2.out⟩
end Go.Proofs.YtkdikbenheagmaaDoor
