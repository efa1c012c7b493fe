/-
  The walk of wire.Sum.
-/
import Derived.Test.YtkdikbenheagmaaDoorBase
import Derived.Test.YtkdikbenheagmaaDoorCrc
set_option linter.unusedVariables false
set_option linter.unusedSimpArgs false
namespace Go.Proofs.YtkdikbenheagmaaDoor
open Go.RowKit

/-- The table lies in memory. -/
def Tab (w : World) : Prop := ∀ j, j < 16 → w.cell? ⟨0, j, none⟩ = some (.int .u32 (Wire.nb j : Int))
theorem Tab.below {w w1 : World} (h : Tab w) {B : Nat} (hb : Below B w w1) (hB : 0 < B) : Tab w1 := fun j hj => (hb.cell (by exact hB)).trans (h j hj)

/-- half a byte goes out: as the walk writes it -/
theorem half_walk (c : Nat) (hc : c < 4294967296) :
    bits BinOp.xor IntKind.u32 (Wire.nb (bits BinOp.and IntKind.u32 (c : Int) 15).toNat : Int) ((c : Int) / 16) = (Wire.half c : Int) := by
  rw [show ((c : Int) / 16) = ((c / 16 : Nat) : Int) from by omega]
  have h1 : bits BinOp.and IntKind.u32 (c : Int) 15 = ((c &&& 15 : Nat) : Int) := u32_and_nat c 15 hc (by decide)
  rw [h1, Int.toNat_natCast, x32 _ _ (Wire.nb_lt _) (by omega)]
  unfold Wire.half
  rw [Nat.shiftRight_eq_div_pow]
theorem and15 (x : Int) : 0 ≤ bits BinOp.and IntKind.u32 x 15 ∧ bits BinOp.and IntKind.u32 x 15 < 16 := by
  have h : bits BinOp.and IntKind.u32 x 15 = ((BitVec.ofInt 32 x &&& 15#32).toNat : Int) % 4294967296 := by unfold bits; rw [IntKind.wrap_u32]; rfl
  have h2 : (BitVec.ofInt 32 x &&& 15#32).toNat < 16 := by
    rw [BitVec.toNat_and]
    have : (15#32).toNat = 2 ^ 4 - 1 := rfl
    rw [this, Nat.and_two_pow_sub_one_eq_mod]; omega
  rw [h]; omega

set_option maxHeartbeats 400000 in
theorem sum_some (a : Addr) (n c : Nat) (bs : List UInt8) (w : World) (hr : Rd w (some a) n bs) (ht : Tab w) :
    Calls Tryd.prog 15 #[.slice (some a) n c] w fun e w' => e = .returned (.int .u32 (Wire.sumN bs : Int)) ∧ w = w' := by
  have hn := hr.le
  have HR := Lib.hid hr
  have HT := Lib.hid ht
  clear hr ht
  go_enter Tryd.func15, Tryd.ntmps15
  go_wp2
  go_loop [3, 5, 8] (fun c x i => ∃ (k cv : Nat), k ≤ n ∧ i = .int .i64 k ∧ c = .int .u32 cv ∧ cv < 4294967296 ∧ Hid (cv = Wire.crc Wire.top32 (bs.take k))) (fun _ _ i => n - (intOf i).toNat)
  case atStart => exact ⟨0, 4294967295, Nat.zero_le _, rfl, rfl, by omega, rfl⟩
  case round =>
    obtain ⟨k, cv, hk, rfl, rfl, h1, h2⟩ := hrel
    by_cases hlt : k < n
    · have hcx : w.cell? (a.add k) = some (.int .u8 (bg bs k)) := by
        obtain ⟨ad, e, hc⟩ := HR.out.cell (by omega)
        cases e
        exact hc k hlt
      have hbr := bg_range bs k
      have ha := fun x => (and15 x).1
      have hb := fun x => (and15 x).2
      have hb' : ∀ x, (bits BinOp.and IntKind.u32 x 15).toNat < 16 := fun x => by have := and15 x; omega
      have ht : ∀ j, j < 16 → w.cell? ⟨0, j, none⟩ = some (.int .u32 (Wire.nb j : Int)) := HT.out
      go_wp2
      go_round
      case rel =>
        clear ha hb hb' ht hcx
        refine ⟨k + 1, Wire.stepB cv (bs.getD k 0).toNat, by omega, by go_num, ?_, Wire.stepB_lt h1 (bs.getD k 0).toNat_lt, ?_⟩
        · have hx := (bs.getD k 0).toNat_lt
          have e1 : bits BinOp.xor IntKind.u32 (cv : Int) (bg bs k) = ((cv ^^^ (bs.getD k 0).toNat : Nat) : Int) := x32 _ _ h1 (by omega)
          have l1 : cv ^^^ (bs.getD k 0).toNat < 4294967296 := Wire.lt_xor h1 (by omega)
          rw [e1]
          rw [half_walk _ l1, half_walk _ (Wire.half_lt l1)]
          rfl
        · show _ = _
          rw [h2.out, Wire.crc_snoc _ _ _ (by have := HR.out.len; omega)]
      case measure => simp [intOf]; omega
    · go_wp2
      go_ret
      refine ⟨ret_int ?_, rfl⟩
      have hk' : k = n := by omega
      subst hk'
      have h3 := h2.out
      rw [List.take_of_length_le (by have := HR.out.len; omega)] at h3
      have e : bits BinOp.xor IntKind.u32 (4294967295 : Nat) (cv : Int) = ((4294967295 ^^^ cv : Nat) : Int) := x32 _ _ (by decide) h1
      refine Eq.trans e ?_
      rw [h3, Nat.xor_comm]
      rfl
theorem sum_nil (w : World) (c : Nat) : Calls Tryd.prog 15 #[.slice none 0 c] w fun e w' => e = .returned (.int .u32 (Wire.sumN [] : Int)) ∧ w = w' := by
  go_enter Tryd.func15, Tryd.ntmps15
  go_wp2
  refine wp_loop_rounds 1 ?_
  rw [rounds_succ]
  go_wp2
  go_ret
  exact ⟨rfl, rfl⟩
/-- wire.Sum of any bytes. -/
theorem sum_any (A : Option Addr) (n c : Nat) (bs : List UInt8) (w : World) (hr : Rd w A n bs) (ht : Tab w) :
    Calls Tryd.prog 15 #[.slice A n c] w fun e w' => e = .returned (.int .u32 (Wire.sumN bs : Int)) ∧ w = w' := by
  rcases A with _ | a
  · have h0 : n = 0 := by
      rcases Nat.eq_zero_or_pos n with h | h
      · exact h
      · obtain ⟨_, e, _⟩ := hr.cell h
        cases e
    have hl := hr.len
    subst h0
    obtain rfl : bs = [] := List.eq_nil_of_length_eq_zero hl
    exact sum_nil w c
  · exact sum_some a n c bs w hr ht
end Go.Proofs.YtkdikbenheagmaaDoor
