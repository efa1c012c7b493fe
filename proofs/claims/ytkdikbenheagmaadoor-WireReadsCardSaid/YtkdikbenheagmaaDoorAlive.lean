/-
  The walks of the statements' own 'alive' and 'num'.
-/
import Derived.Test.YtkdikbenheagmaaDoorSum
import Derived.Test.YtkdikbenheagmaaDoorWriter2
import Derived.Lib.SlBytesConst
set_option linter.unusedVariables false
set_option linter.unusedSimpArgs false
namespace Go.Proofs.YtkdikbenheagmaaDoor
open Go.RowKit

theorem num_any (x : Int) (w : World) : Calls Tryd.prog 22 #[.int .i64 x] w fun e w' => e = .returned (.int .i64 x) ∧ w = w' := by
  go_enter Tryd.func22, Tryd.ntmps22
  go_wp2
  go_ret
  exact ⟨rfl, rfl⟩
theorem WAt.fresh (w : World) (t : TypeId) : WAt (w.alloc (.cells #[.slice none 0 0, .int .i64 0] t)) w.heap.size ([], 0) :=
  ⟨none, 0, by simp, World.ownsRow_nil _ _ _ _, by simp, by simp, by simp⟩

theorem Told.pos {E : TypeId} {w w' : World} {e : Ending} {bs : List UInt8} {err : Int} (h : Told E w e w' bs err) (hn : 0 < bs.length) :
    ∃ g c, e = .returned (.tuple #[.slice (some ⟨g, 0, none⟩) bs.length c, .int .i64 err]) ∧ Below w.heap.size w w' ∧ w.heap.size ≤ g ∧ g < w'.heap.size ∧ ∀ j, j < bs.length → w'.cell? ⟨g, j, none⟩ = some (.int .u8 (bg bs j)) := by
  obtain ⟨A, c, rfl, hb, ho⟩ := h
  obtain ⟨g, cap, hv, h1, h2⟩ := ho.form hn
  cases hv
  refine ⟨g, c, rfl, hb, h1, h2, fun j hj => ?_⟩
  have hr := own_rd ho
  obtain ⟨ad, e, hc⟩ := hr.cell hn
  cases e
  rw [← add_at]
  exact hc j hj
theorem sum_check : Wire.sumN [49, 50, 51, 52, 53, 54, 55, 56, 57] = 3421780262 := by decide +kernel
theorem form256 : Wire.form 256 = [2, 1, 0] := by
  unfold Wire.form
  rw [Wire.nby_pos (by decide), Wire.nby_pos (by decide), show 256 / 256 / 256 = 0 by decide, Wire.nby_zero]
  rfl
set_option maxHeartbeats 400000 in
theorem alive_any (w : World) (ht : Tab w) : Calls Tryd.prog 14 #[] w fun e w' => e = .returned (.bool true) ∧ Below w.heap.size w w' := by
  have HT := Lib.hid ht
  have h0 : 0 < w.heap.size := World.block_lt_of_cell? w _ (ht 0 (by decide))
  clear ht
  go_enter Tryd.func14, Tryd.ntmps14
  go_wp2_with fail
  have F := number_any _ 256 (by decide) ([], 0) _ (WAt.fresh w 44) (by decide)
  rw [show wNum ([], 0) 256 = ([2, 1, 0], 0) by unfold wNum; rw [if_pos rfl, form256]; rfl] at F
  refine F.mono ?_
  clear F
  rintro e w1 ⟨rfl, h1, h2⟩
  have hz1 : w.heap.size < w1.heap.size := by have := h1.size; simp at this; omega
  have B1 : Hid (Below w.heap.size w w1) := ((Below.refl _ _).alloc (Nat.le_refl _) _).trans h1
  have F := bytes_any _ ([2, 1, 0], 0) w1 h2 (by decide)
  simp only [if_true] at F
  have F := Lib.hid F
  clear h1 h2
  go_wp2_with fail
  refine F.out.mono ?_
  clear F
  rintro e w2 h
  obtain ⟨g, c, rfl, hb2, hg1, hg2, hc⟩ := Told.pos h (by decide)
  clear h
  have B2 : Hid (Below w.heap.size w w2) := B1.out.trans (hb2.mono (by omega))
  have hz2 : w.heap.size < w2.heap.size := by have := hb2.size; omega
  have c0 : w2.cell? ⟨g, 0, none⟩ = some (.int .u8 2) := hc 0 (by decide)
  have c1 : w2.cell? ⟨g, 1, none⟩ = some (.int .u8 1) := hc 1 (by decide)
  have c2 : w2.cell? ⟨g, 2, none⟩ = some (.int .u8 0) := hc 2 (by decide)
  have kc := fun (w : World) (C : Array Value) (n c : Nat) => Lib.run_convert_bytes_const (P := Tryd.prog) w 22 5 C n c Tryd.underlying22 Tryd.underlying5
  clear hb2 hg1 hc
  go_wp2_with fail
  have hr : Rd (w2.alloc (.cells #[.int .u8 49, .int .u8 50, .int .u8 51, .int .u8 52, .int .u8 53, .int .u8 54, .int .u8 55, .int .u8 56, .int .u8 57] 5 (9, 10))) (some ⟨w2.heap.size, 0, none⟩) 9 [49, 50, 51, 52, 53, 54, 55, 56, 57] :=
    rd_block w2 [49, 50, 51, 52, 53, 54, 55, 56, 57] 5 (9, 10) (by decide)
  have htab : Tab (w2.alloc (.cells #[.int .u8 49, .int .u8 50, .int .u8 51, .int .u8 52, .int .u8 53, .int .u8 54, .int .u8 55, .int .u8 56, .int .u8 57] 5 (9, 10))) := HT.out.below (B2.out.alloc (by omega) _) h0
  refine (sum_any _ _ _ _ _ hr htab).mono ?_
  clear hr htab
  rintro e w3 ⟨rfl, rfl⟩
  rw [sum_check]
  go_wp2_with (go_at_call 22; refine (num_any _ _).mono ?_; rintro e w' ⟨rfl, rfl⟩)
  go_ret
  exact ⟨rfl, B2.out.alloc (by omega) _⟩
end Go.Proofs.YtkdikbenheagmaaDoor
