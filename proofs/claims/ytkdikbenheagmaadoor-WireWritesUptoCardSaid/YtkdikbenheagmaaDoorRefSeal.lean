/-
  The walk of the document's Seal.
-/
import Derived.Test.YtkdikbenheagmaaDoorRefSum
import Derived.Test.YtkdikbenheagmaaDoorSealP
set_option linter.unusedVariables false
set_option linter.unusedSimpArgs false
namespace Go.Proofs.YtkdikbenheagmaaDoor
open Go.RowKit

theorem RowB.nil (w : World) : RowB w w none 0 0 [] := ⟨World.ownsRow_nil _ _ _ _, Below.refl _ _, Nat.le_refl _⟩
theorem RowB.kept {w0 w w1 : World} {A : Option Addr} {l c : Nat} {L : List UInt8} (h : RowB w0 w A l c L) (hb : Below w.heap.size w w1) : RowB w0 w1 A l c L := by
  obtain ⟨h1, h2, h3⟩ := h
  exact ⟨h1.kept (grown_of_below hb none) (by cases (Value.slice A l c).ownBlock <;> simp), h2.trans (hb.mono h3), Nat.le_trans h3 hb.size⟩
theorem le4 (s : Nat) : Wire.le 4 s = [UInt8.ofNat s, UInt8.ofNat (s / 256), UInt8.ofNat (s / 256 / 256), UInt8.ofNat (s / 256 / 256 / 256)] := rfl
theorem be4 (s : Nat) : Wire.be 4 s = [UInt8.ofNat (s / 256 / 256 / 256), UInt8.ofNat (s / 256 / 256), UInt8.ofNat (s / 256), UInt8.ofNat s] := rfl

set_option maxRecDepth 100000 in
set_option maxHeartbeats 8000000 in
theorem rseal_any (A : Option Addr) (n c : Nat) (bs : List UInt8) (w : World) (hr : Rd w A n bs) (hA : A = none → n = 0 ∧ c = 0) :
    Calls Tryd.prog 18 #[.slice A n c] w fun e w' => Told 5 w e w' (if n ≤ 32756 then sealL bs else []) (if n ≤ 32756 then 0 else 11) := by
  have HR := Lib.hid hr
  have HA := Lib.hid hA
  have hle := hr.le
  have hl := hr.len
  have HL := Lib.hid hl
  clear hr hA hl
  by_cases hn : n ≤ 32756
  · rw [if_pos hn, if_pos hn]
    have R0 := Lib.hid (RowB.nil w)
    have HO := Lib.hid ((World.ownsRow_nil w w.heap.size 5 1).alloc (.cells #[.int .u8 97, .int .u8 109, .int .u8 110, .int .u8 49] 5))
    have HN : Hid (∀ ad, some (⟨w.heap.size, 0, none⟩ : Addr) = some ad → ∀ j u, (Bv magicL)[j]? = some u → (w.alloc (.cells #[.int .u8 97, .int .u8 109, .int .u8 110, .int .u8 49] 5)).cell? (ad.add j) = some u) := by
      have h := rd_block w magicL 5 (0, 0) (by decide)
      exact h.news
    go_enter Tryd.func18, Tryd.ntmps18
    go_wp2_with (at_builtin; refine wpList_app rfl (.tmp 9) (.tmp 10) rfl eltByte w.heap.size (.slice none 0 0) 0 [] rfl HO.out (some ⟨w.heap.size, 0, none⟩) 4 4 (Bv magicL) rfl rfl (fun h => by cases h) HN.out (Bv_one _) (by decide) (by decide) ?c5 ?_)
    case c5 => simp
    intro A1 c1 w1 hown1 hgrow1 _
    have R1 : Hid (RowB w w1 A1 4 c1 magicL) := (RowB.step (l := 0) (m := 4) (ys := magicL) R0.out (World.grownBy_alloc w _ none) hown1 hgrow1)
    clear hown1 hgrow1 R0 HO HN
    have hn32 : (n : Int) < 4294967296 := by omega
    go_wp2_with fail
    refine (four_any n (by omega) w1).mono ?_
    rintro e w2 ⟨g2, rfl, hb2, hr2, _, _⟩
    have R2 := Lib.hid (R1.out.kept hb2)
    have RN := Lib.hid hr2.news
    have RL := Lib.hid hr2.lenBv
    clear hb2 hr2 R1
    go_wp2_with (at_builtin; refine wpList_app rfl (.tmp 12) (.tmp 16) rfl eltByte w.heap.size _ 4 _ rfl R2.out.1 (some ⟨g2, 0, none⟩) 4 4 (Bv (Wire.be 4 n)) rfl RL.out (fun h => by cases h) RN.out (Bv_one _) (by decide) (by decide) R2.out.2.2 ?_)
    intro A3 c3 w3 hown3 hgrow3 _
    have R3 : Hid (RowB w w3 A3 8 c3 (headL n)) := RowB.step (l := 4) (m := 4) (ys := Wire.be 4 n) R2.out (World.grownBy.refl _ _) hown3 hgrow3
    clear hown3 hgrow3 R2 RN RL
    have RB := HR.out.below R3.out.2.1
    have RBN := Lib.hid RB.news
    have RBL := Lib.hid RB.lenBv
    clear RB
    go_wp2_with (at_builtin; refine wpList_app rfl (.tmp 18) (.tmp 19) rfl eltByte w.heap.size _ 8 _ rfl R3.out.1 A n c (Bv bs) rfl RBL.out HA.out RBN.out (Bv_one _) ?d3 ?d4 R3.out.2.2 ?_)
    case d3 => simp only [maxLen]; omega
    case d4 => omega
    intro A4 c4 w4 hown4 hgrow4 _
    have R4 := Lib.hid (RowB.step R3.out (World.grownBy.refl _ _) hown4 hgrow4)
    have RD4 := Lib.hid (own_rd R4.out.1)
    clear hown4 hgrow4 RBN RBL R3
    go_wp2_with fail
    refine (rsum_any A4 (8 + n) c4 (headL n ++ bs) w4 RD4.out).mono ?_
    rintro e w5 ⟨rfl, rfl⟩
    have hsl := Wire.sumN_lt (headL n ++ bs)
    generalize hs : Wire.sumN (headL n ++ bs) = s at hsl
    have HSS := Lib.hid hs
    clear hs
    go_wp2_with fail
    refine (four_any s hsl w4).mono ?_
    rintro e w6 ⟨g6, rfl, hb6, hr6, _, _⟩
    have R6 := Lib.hid (R4.out.kept hb6)
    obtain ⟨ad, e, hcell⟩ := hr6.cell (by omega)
    cases e
    have hg : ∀ j, j < 4 → (⟨g6, 0, none⟩ : Addr).add j = ⟨g6, j, none⟩ := fun j _ => add_at g6 j
    have k0 : w6.cell? ⟨g6, 0, none⟩ = some (.int .u8 (bg (Wire.be 4 s) 0)) := by have := hcell 0 (by omega); rwa [add_at] at this
    have k1 : w6.cell? ⟨g6, 1, none⟩ = some (.int .u8 (bg (Wire.be 4 s) 1)) := by have := hcell 1 (by omega); rwa [add_at] at this
    have k2 : w6.cell? ⟨g6, 2, none⟩ = some (.int .u8 (bg (Wire.be 4 s) 2)) := by have := hcell 2 (by omega); rwa [add_at] at this
    have k3 : w6.cell? ⟨g6, 3, none⟩ = some (.int .u8 (bg (Wire.be 4 s) 3)) := by have := hcell 3 (by omega); rwa [add_at] at this
    clear hb6 hr6 hcell hg R4 RD4
    have HO := Lib.hid (R6.out.1.alloc (.cells #[.int .u8 (bg (Wire.be 4 s) 3), .int .u8 (bg (Wire.be 4 s) 2), .int .u8 (bg (Wire.be 4 s) 1), .int .u8 (bg (Wire.be 4 s) 0)] 5))
    have HN : Hid (∀ ad, some (⟨w6.heap.size, 0, none⟩ : Addr) = some ad → ∀ j u, (Bv (Wire.le 4 s))[j]? = some u → ((w6.alloc (.cells #[.int .u8 (bg (Wire.be 4 s) 3), .int .u8 (bg (Wire.be 4 s) 2), .int .u8 (bg (Wire.be 4 s) 1), .int .u8 (bg (Wire.be 4 s) 0)] 5))).cell? (ad.add j) = some u) := by
      have h := rd_block w6 (Wire.le 4 s) 5 (0, 0) (by rw [Wire.le_length]; decide)
      rw [Wire.le_length] at h
      exact h.news
    have b1 : 8 + n + 4 ≤ maxLen := by simp only [maxLen]; omega
    have b2 : (8 + n + 4) * 1 ≤ 140737488355328 := by omega
    have hb5 := Lib.hid (show ∀ o, w.heap.size ≤ ((w6.alloc o).drew).heap.size from fun o => by have := R6.out.2.2; simp; omega)
    go_wp2
    go_region_law (refine step_app rfl (.tmp 24) (.tmp 37) rfl eltByte w.heap.size (.slice A4 (8 + n) c4) (8 + n) (Bv (headL n ++ bs)) rfl HO.out (some ⟨w6.heap.size, 0, none⟩) 4 4 (Bv (Wire.le 4 s)) rfl rfl (fun h => by cases h) HN.out (Bv_one _) b1 b2 (hb5.out _) ?_; intro A7 c7 w7 hown7 hgrow7 _; have R7 := Lib.hid (RowB.step R6.out (grown_alloc_drew _ _ none) hown7 hgrow7); clear hown7 hgrow7)
    all_goals
      go_wp2
      go_ret2
      have hll := sealL_len bs
      rw [HL.out] at hll
      have hL : sealL bs = headL n ++ bs ++ Wire.le 4 s := by unfold sealL; rw [HL.out, HSS.out]
      refine ⟨A7, c7, by rw [hll, show 8 + n + 4 = n + 12 by omega]; rfl, R7.out.2.1, ?_⟩
      rw [hll, hL, show n + 12 = 8 + n + 4 by omega]
      exact R7.out.1
  · rw [if_neg hn, if_neg hn]
    go_enter Tryd.func18, Tryd.ntmps18
    go_wp2
    go_ret2
    exact ⟨none, 0, rfl, Below.refl _ _, World.ownsRow_nil _ _ _ _⟩
end Go.Proofs.YtkdikbenheagmaaDoor
