/-
  The walks of the document's Sum, four.
-/
import Derived.Test.YtkdikbenheagmaaDoorUnseal
set_option linter.unusedVariables false
set_option linter.unusedSimpArgs false
namespace Go.Proofs.YtkdikbenheagmaaDoor
open Go.RowKit

theorem and1 (v : Nat) (hv : v < 4294967296) : bits BinOp.and IntKind.u32 (v : Int) 1 = ((v % 2 : Nat) : Int) := by
  have h := u32_and_nat v 1 hv (by decide)
  rw [Nat.and_one_is_mod] at h
  exact h
theorem bit1_odd (v : Nat) (hv : v < 4294967296) (h : v % 2 = 1) : bits BinOp.xor IntKind.u32 ((v : Int) / 2) 3988292384 = (Wire.bit1 v : Int) := by
  rw [show (v : Int) / 2 = ((v / 2 : Nat) : Int) by omega]
  have e := x32 (v / 2) 3988292384 (by omega) (by decide)
  refine e.trans ?_
  unfold Wire.bit1
  rw [if_pos h, Nat.shiftRight_eq_div_pow]
  rfl
theorem bit1_even' (v : Nat) (h : ¬ v % 2 = 1) : (v : Int) / 2 = (Wire.bit1 v : Int) := by
  unfold Wire.bit1
  rw [if_neg h, Nat.xor_zero, Nat.shiftRight_eq_div_pow]
  omega

set_option maxRecDepth 100000 in
set_option maxHeartbeats 800000 in
theorem rsum_any (A : Option Addr) (n c : Nat) (bs : List UInt8) (w : World) (hr : Rd w A n bs) :
    Calls Tryd.prog 21 #[.slice A n c] w fun e w' => e = .returned (.int .u32 (Wire.sumN bs : Int)) ∧ w = w' := by
  have hn := hr.le
  have HR := Lib.hid hr
  clear hr
  go_enter Tryd.func21, Tryd.ntmps21
  go_wp2
  go_loop [3, 4, 5, 6] (fun s i _ _ => ∃ (k cv : Nat), k ≤ n ∧ i = .int .i64 k ∧ s = .int .u32 cv ∧ cv < 4294967296 ∧ Hid (cv = Wire.crc Wire.top32 (bs.take k))) (fun _ i _ _ => n - (intOf i).toNat)
  case atStart => exact ⟨0, 4294967295, Nat.zero_le _, rfl, rfl, by omega, rfl⟩
  case round =>
    obtain ⟨k, cv, hk, rfl, rfl, h1, h2⟩ := hrel
    by_cases hlt : k < n
    · obtain ⟨a, rfl, hca⟩ := HR.out.cell (by omega)
      have hcx : w.cell? (a.add k) = some (.int .u8 (bg bs k)) := hca k hlt
      have hbr := bg_range bs k
      have hx := (bs.getD k 0).toNat_lt
      have e1 : bits BinOp.xor IntKind.u32 (cv : Int) (bg bs k) = ((cv ^^^ (bs.getD k 0).toNat : Nat) : Int) := x32 _ _ h1 (by omega)
      have l1 : cv ^^^ (bs.getD k 0).toNat < 4294967296 := Wire.lt_xor h1 (by omega)
      have HSN := Lib.hid (show Wire.crc Wire.top32 (bs.take (k + 1)) = Wire.bits 8 (cv ^^^ (bs.getD k 0).toNat) from by
        rw [Wire.crc_snoc _ _ _ (by have := HR.out.len; omega), ← h2.out, Wire.stepB_eq])
      clear hca
      generalize hgx : cv ^^^ (bs.getD k 0).toNat = x at e1 l1 HSN
      clear hgx
      go_wp2
      go_loop [3, 5, 6] (fun s i _ => ∃ (q sv : Nat), q ≤ 8 ∧ i = .int .i64 q ∧ s = .int .u32 sv ∧ sv < 4294967296 ∧ Hid (sv = Wire.bits q x)) (fun _ i _ => 8 - (intOf i).toNat)
      case atStart => exact ⟨0, x, by omega, rfl, rfl, l1, rfl⟩
      case round =>
        obtain ⟨q, sv, hq, rfl, rfl, hs1, hs2⟩ := hrel
        clear e1
        by_cases hq8 : q < 8
        · have hodd := and1 sv hs1
          have hbl := Wire.bit1_lt hs1
          have HQ := Lib.hid (show Wire.bits (q + 1) x = Wire.bit1 sv from by rw [Wire.bits_succ, ← hs2.out])
          by_cases hp : sv % 2 = 1
          · have e2 : bits BinOp.and IntKind.u32 (sv : Int) 1 = 1 := by rw [hodd, hp]; rfl
            clear hodd
            go_wp2
            go_round
            case rel => exact ⟨q + 1, Wire.bit1 sv, by omega, by go_num, congrArg (Value.int IntKind.u32) (bit1_odd sv hs1 hp), hbl, HQ.out.symm⟩
            case measure => simp [intOf]; omega
          · have e2 : bits BinOp.and IntKind.u32 (sv : Int) 1 = 0 := by rw [hodd, show sv % 2 = 0 by omega]; rfl
            clear hodd
            go_wp2
            go_round
            case rel => exact ⟨q + 1, Wire.bit1 sv, by omega, by go_num, congrArg (Value.int IntKind.u32) (bit1_even' sv hp), hbl, HQ.out.symm⟩
            case measure => simp [intOf]; omega
        · obtain rfl : q = 8 := by omega
          go_wp2
          go_round
          case rel => exact ⟨k + 1, sv, by omega, by go_num, rfl, hs1, by rw [HSN.out]; exact hs2.out⟩
          case measure => simp [intOf]; omega
    · obtain rfl : k = n := by omega
      go_wp2
      go_ret
      refine ⟨ret_int ?_, rfl⟩
      have h3 := h2.out
      rw [List.take_of_length_le (by have := HR.out.len; omega)] at h3
      have e : bits BinOp.xor IntKind.u32 (cv : Int) (4294967295 : Nat) = ((cv ^^^ 4294967295 : Nat) : Int) := x32 _ _ h1 (by decide)
      refine Eq.trans e ?_
      rw [h3]
      rfl
set_option maxRecDepth 100000 in
/-- the four bytes of a number, the highest first, in new memory -/
theorem four_any (v : Nat) (hv : v < 4294967296) (w : World) :
    Calls Tryd.prog 49 #[.int .u32 v] w fun e w' => ∃ g : Nat, e = .returned (.slice (some ⟨g, 0, none⟩) 4 4) ∧ Below w.heap.size w w' ∧ Rd w' (some ⟨g, 0, none⟩) 4 (Wire.be 4 v) ∧ w.heap.size ≤ g ∧ g < w'.heap.size := by
  go_enter Tryd.func49, Tryd.ntmps49
  go_wp2
  go_ret
  have e : Bv (Wire.be 4 v) = [.int .u8 ((v : Int) / 16777216), .int .u8 ((v : Int) / 65536 % 256), .int .u8 ((v : Int) / 256 % 256), .int .u8 ((v : Int) % 256)] := by
    have t : ∀ a : Nat, ((UInt8.ofNat a).toNat : Int) = ((a % 256 : Nat) : Int) := fun a => rfl
    simp only [Bv, Wire.be, List.nil_append, List.append_assoc, List.map_append, List.map_cons, List.map_nil, List.cons_append, t, List.cons.injEq, Value.int.injEq, true_and, and_true]
    refine ⟨?_, ?_, ?_, ?_⟩ <;> omega
  have hr := rd_block w (Wire.be 4 v) 5 (0, 0) (by rw [Wire.be_length]; omega)
  rw [e, Wire.be_length] at hr
  exact ⟨w.heap.size, rfl, (Below.refl _ _).alloc (Nat.le_refl _) _, hr, Nat.le_refl _, by simp⟩
end Go.Proofs.YtkdikbenheagmaaDoor
