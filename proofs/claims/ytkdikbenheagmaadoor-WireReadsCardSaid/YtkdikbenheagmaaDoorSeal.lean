/-
  The walk of wire.Seal.
-/
import Derived.Test.YtkdikbenheagmaaDoorBase2
import Derived.Test.YtkdikbenheagmaaDoorSum
import Derived.Test.YtkdikbenheagmaaDoorWriter2
import Derived.Test.YtkdikbenheagmaaDoorNum
set_option linter.unusedVariables false
set_option linter.unusedSimpArgs false
namespace Go.Proofs.YtkdikbenheagmaaDoor
open Go.RowKit

/-- a row of bytes of the call's own -/
def RowB (w0 w : World) (A : Option Addr) (l c : Nat) (L : List UInt8) : Prop :=
  w.ownsRow w0.heap.size 5 1 (.slice A l c) l (Bv L) ∧ Below w0.heap.size w0 w ∧ w0.heap.size ≤ w.heap.size
theorem RowB.step {w0 w W w1 : World} {A A' : Option Addr} {l m c c' : Nat} {L ys : List UInt8} (h : RowB w0 w A l c L) (hW : w.grownBy W none)
    (ho : w1.ownsRow w0.heap.size 5 1 (.slice A' (l + m) c') (l + m) (Bv L ++ Bv ys)) (hg : W.grownBy w1 (Value.slice A l c).ownBlock) : RowB w0 w1 A' (l + m) c' (L ++ ys) := by
  obtain ⟨h1, h2, h3⟩ := h
  have hz := hW.size
  refine ⟨by rw [Bv_append]; exact ho, (h2.grown hW h3 (fun _ e => by cases e)).grown hg (Nat.le_trans h3 hz) (fun b e => (h1.lt b e).1), ?_⟩
  have := hg.size
  omega
def magicL : List UInt8 := [97, 109, 110, 49]
def headL (n : Nat) : List UInt8 := magicL ++ Wire.be 4 n
/-- the frame of a body -/
def sealL (b : List UInt8) : List UInt8 := (headL b.length ++ b) ++ Wire.le 4 (Wire.sumN (headL b.length ++ b))
theorem sealL_len (b : List UInt8) : (sealL b).length = b.length + 12 := by simp [sealL, headL, magicL, Wire.be_length, Wire.le_length]; omega

theorem byte_of (v m : Nat) : (v : Int) / 2 ^ (8 * m) % 256 = ((UInt8.ofNat (v / 256 ^ m)).toNat : Int) := by
  have h := wrap_byte v m
  rw [show (8 * (m : Int)).toNat = 8 * m by omega, IntKind.wrap_u8] at h
  exact h
theorem le_get : ∀ (n e j : Nat), j < n → (Wire.le n e).getD j 0 = UInt8.ofNat (e / 256 ^ j)
  | 0, _, _, h => by omega
  | n + 1, e, 0, _ => by simp [Wire.le]
  | n + 1, e, j + 1, h => by
    have := le_get n (e / 256) j (by omega)
    simp only [Wire.le, List.getD_cons_succ, this]
    rw [Nat.div_div_eq_div_mul, Nat.pow_succ, Nat.mul_comm]

set_option maxRecDepth 100000 in
set_option maxHeartbeats 800000 in
theorem seal_any (A : Option Addr) (n c : Nat) (bs : List UInt8) (w : World) (hr : Rd w A n bs) (hA : A = none → n = 0 ∧ c = 0) (ht : Tab w) :
    Calls Tryd.prog 17 #[.slice A n c] w fun e w' => Told 5 w e w' (if n ≤ 32756 then sealL bs else []) (if n ≤ 32756 then 0 else 11) := by
  obtain ⟨i0, hi, hz0, hz1, hz2⟩ := info_parts info_u8
  have HI := Lib.hid hi
  have HZ0 := Lib.hid hz0
  have HZ1 := Lib.hid hz1
  have HZ2 := Lib.hid hz2
  have h0 : 0 < w.heap.size := World.block_lt_of_cell? w _ (ht 0 (by decide))
  have HR := Lib.hid hr
  have HT := Lib.hid ht
  have HA := Lib.hid hA
  have hle := hr.le
  have hl := hr.len
  have HL := Lib.hid hl
  clear hr ht hA hi hz0 hz1 hz2 hl
  by_cases hn : n ≤ 32756
  · rw [if_pos hn, if_pos hn]
    have hsz : Hid ((n : Int) + 12 = ((n + 12 : Nat) : Int)) := (by omega : (n : Int) + 12 = ((n + 12 : Nat) : Int))
    go_enter Tryd.func17, Tryd.ntmps17
    go_wp2_with (at_make; refine wpList_make_own _ rfl _ _ 22 rfl w.heap.size 5 i0 (.int .u8 0) 1 Tryd.underlying22 HI.out HZ0.out HZ1.out _ _ _ (n + 12) rfl rfl hsz.out (by rw [HZ2.out]; omega) (by simp only [maxLen]; omega) (Nat.le_refl _) ?_)
    intro w1 hown1 hgrow1
    have R1 : Hid (RowB w w1 (some ⟨w.heap.size, 0, none⟩) 0 (n + 12) []) := ⟨hown1, (Below.refl _ _).grown hgrow1 (Nat.le_refl _) (fun _ e => by cases e), hgrow1.size⟩
    clear hown1 hgrow1
    go_wp2_with (at_builtin; refine Lib.wpList_append_own_string _ rfl (.tmp 15) (.const (.string ⟨#[97, 109, 110, 49]⟩)) 22 9 rfl w.heap.size 5 i0 Tryd.underlying22 Tryd.underlying9 HI.out HZ0.out HZ1.out HZ2.out _ 0 [] rfl R1.out.1 ⟨#[97, 109, 110, 49]⟩ rfl (by decide) (by decide) R1.out.2.2 ?_)
    intro v' w2 hown2 hgrow2 _
    have hex := own_shape hown2
    obtain ⟨A2, c2, hv, _, _, _⟩ := hex
    rw [hv] at hown2 ⊢
    have R2 : Hid (RowB w w2 A2 4 c2 magicL) := RowB.step (m := 4) (ys := magicL) R1.out (World.grownBy.refl _ _) hown2 hgrow2
    clear hown2 hgrow2 hv R1
    go_wp2
    go_loopw [4, 5, 17] (fun f _ i wr => ∃ (j : Nat) (A' : Option Addr) (c' : Nat), j ≤ 4 ∧ i = .int .i64 j ∧ f = .slice A' (4 + j) c' ∧ Hid (RowB w wr A' (4 + j) c' (magicL ++ (Wire.be 4 n).take j))) (fun _ _ i _ => 4 - (intOf i).toNat)
    case atStart => exact ⟨0, A2, c2, by omega, rfl, rfl, show RowB _ _ _ _ _ (magicL ++ []) from by rw [List.append_nil]; exact R2.out⟩
    case round =>
      obtain ⟨j, A', c', hj, rfl, rfl, HS⟩ := hrel
      by_cases hlt : j < 4
      · obtain ⟨m, hm⟩ : ∃ m, 3 = j + m := ⟨3 - j, by omega⟩
        have HSN : Hid (magicL ++ (Wire.be 4 n).take (j + 1) = magicL ++ (Wire.be 4 n).take j ++ [UInt8.ofNat (n / 256 ^ m)]) := by
          have e := List.take_succ_eq_append_getElem (l := Wire.be 4 n) (i := j) (by rw [Wire.be_length]; exact hlt)
          have hg := Wire.be_get 4 n j hlt
          rw [show 4 - 1 - j = m by omega, List.getD_eq_getElem?_getD, List.getElem?_eq_getElem (by rw [Wire.be_length]; exact hlt)] at hg
          show _ = _
          rw [e, List.append_assoc, ← hg]; rfl
        have e1 : (24 : Int) - 8 * (j : Int) = 8 * (m : Int) := by omega
        have e2 : (0 : Int) ≤ 8 * (m : Int) := by omega
        have HN := Lib.hid (news_byte wr _ (UInt8.ofNat (n / 256 ^ m)) 5 (byte_of n m))
        have HO := Lib.hid (HS.out.1.alloc (.cells #[.int .u8 ((n : Int) / 2 ^ (8 * m) % 256)] 5))
        clear hm
        go_wp2_with (at_builtin; refine wpList_app rfl (.tmp 20) (.tmp 28) rfl eltByte w.heap.size _ (4 + j) _ rfl HO.out (some ⟨wr.heap.size, 0, none⟩) 1 1 (Bv [UInt8.ofNat (n / 256 ^ m)]) rfl rfl (fun h => by cases h) ?c1 (Bv_one _) ?c3 ?c4 ?c5 ?_)
        case c1 => rintro ad hh; cases hh; exact HN.out
        case c3 => simp only [maxLen]; omega
        case c4 => omega
        case c5 => exact Nat.le_trans HS.out.2.2 (by simp)
        intro A3 c3 w3 hown3 hgrow3 _
        have R3 := Lib.hid (RowB.step HS.out (World.grownBy_alloc wr _ none) hown3 hgrow3)
        clear hown3 hgrow3
        go_wp2
        go_roundw
        case rel => exact ⟨j + 1, A3, c3, by omega, by go_num, rfl, by rw [HSN.out]; exact R3.out⟩
        case measure => simp [intOf]; omega
      · obtain rfl : j = 4 := by omega
        have R3 : Hid (RowB w wr A' 8 c' (headL n)) := by
          have := HS.out
          rwa [List.take_of_length_le (Nat.le_of_eq (Wire.be_length 4 n))] at this
        clear HS R2
        have RB := HR.out.below R3.out.2.1
        have RBN := Lib.hid RB.news
        have RBL := Lib.hid RB.lenBv
        clear RB
        go_wp2_with (at_builtin; refine wpList_app rfl (.tmp 31) (.tmp 32) rfl eltByte w.heap.size _ 8 _ rfl R3.out.1 A n c (Bv bs) rfl RBL.out HA.out RBN.out (Bv_one _) ?c3 ?c4 R3.out.2.2 ?_)
        case c3 => simp only [maxLen]; omega
        case c4 => omega
        intro A4 c4 w4 hown4 hgrow4 _
        have R4 := Lib.hid (RowB.step R3.out (World.grownBy.refl _ _) hown4 hgrow4)
        have RD4 := Lib.hid (own_rd R4.out.1)
        have HT4 := Lib.hid (HT.out.below R4.out.2.1 h0)
        clear hown4 hgrow4 RBN RBL R3
        go_wp2_with fail
        refine (sum_any A4 (8 + n) c4 (headL n ++ bs) w4 RD4.out HT4.out).mono ?_
        rintro e w5 ⟨rfl, rfl⟩
        have hsl := Wire.sumN_lt (headL n ++ bs)
        generalize hs : Wire.sumN (headL n ++ bs) = s at hsl
        have HSS := Lib.hid hs
        clear hs
        go_wp2
        go_loopw [4, 7, 36] (fun f _ i wr => ∃ (j : Nat) (A' : Option Addr) (c' : Nat), j ≤ 4 ∧ i = .int .i64 j ∧ f = .slice A' (8 + n + j) c' ∧ Hid (RowB w wr A' (8 + n + j) c' (headL n ++ bs ++ (Wire.le 4 s).take j))) (fun _ _ i _ => 4 - (intOf i).toNat)
        case atStart => exact ⟨0, A4, c4, by omega, rfl, rfl, show RowB _ _ _ _ _ (headL n ++ bs ++ []) from by rw [List.append_nil]; exact R4.out⟩
        case round =>
          obtain ⟨j, A', c', hj, rfl, rfl, HS⟩ := hrel
          by_cases hlt : j < 4
          · have HSN : Hid (headL n ++ bs ++ (Wire.le 4 s).take (j + 1) = headL n ++ bs ++ (Wire.le 4 s).take j ++ [UInt8.ofNat (s / 256 ^ j)]) := by
              have e := List.take_succ_eq_append_getElem (l := Wire.le 4 s) (i := j) (by rw [Wire.le_length]; exact hlt)
              have hg := le_get 4 s j hlt
              rw [List.getD_eq_getElem?_getD, List.getElem?_eq_getElem (by rw [Wire.le_length]; exact hlt)] at hg
              show _ = _
              rw [e, List.append_assoc (headL n ++ bs), ← hg]; rfl
            have e2 : (0 : Int) ≤ 8 * (j : Int) := by omega
            have HN := Lib.hid (news_byte wr _ (UInt8.ofNat (s / 256 ^ j)) 5 (byte_of s j))
            have HO := Lib.hid (HS.out.1.alloc (.cells #[.int .u8 ((s : Int) / 2 ^ (8 * j) % 256)] 5))
            go_wp2_with (at_builtin; refine wpList_app rfl (.tmp 39) (.tmp 45) rfl eltByte w.heap.size _ (8 + n + j) _ rfl HO.out (some ⟨wr.heap.size, 0, none⟩) 1 1 (Bv [UInt8.ofNat (s / 256 ^ j)]) rfl rfl (fun h => by cases h) ?d1 (Bv_one _) ?d3 ?d4 ?d5 ?_)
            case d1 => rintro ad hh; cases hh; exact HN.out
            case d3 => simp only [maxLen]; omega
            case d4 => omega
            case d5 => exact Nat.le_trans HS.out.2.2 (by simp)
            intro A3 c3 w3 hown3 hgrow3 _
            have R3 := Lib.hid (RowB.step HS.out (World.grownBy_alloc wr _ none) hown3 hgrow3)
            clear hown3 hgrow3
            go_wp2
            go_roundw
            case rel => exact ⟨j + 1, A3, c3, by omega, by go_num, rfl, by rw [HSN.out]; exact R3.out⟩
            case measure => simp [intOf]; omega
          · obtain rfl : j = 4 := by omega
            have R5 : Hid (RowB w wr A' (8 + n + 4) c' (sealL bs)) := by
              have := HS.out
              rw [List.take_of_length_le (Nat.le_of_eq (Wire.le_length 4 s)), ← HSS.out] at this
              unfold sealL
              rw [HL.out]; exact this
            go_wp2
            go_ret2
            have hll := sealL_len bs
            rw [HL.out] at hll
            refine ⟨A', c', by rw [hll, show 8 + n + 4 = n + 12 by omega]; rfl, R5.out.2.1, by rw [hll]; have := R5.out.1; rwa [show 8 + n + 4 = n + 12 by omega] at this⟩
  · rw [if_neg hn, if_neg hn]
    go_enter Tryd.func17, Tryd.ntmps17
    go_wp2
    go_ret2
    exact ⟨none, 0, rfl, Below.refl _ _, World.ownsRow_nil _ _ _ _⟩
end Go.Proofs.YtkdikbenheagmaaDoor
