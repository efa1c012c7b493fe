/-
  The walk of the statements' own 'works'.
-/
import Derived.Test.YtgbjfmokfkdglaaNCmp
set_option linter.unusedVariables false
set_option linter.unusedSimpArgs false
namespace Go.Proofs.Ytgbjfmokfkdglaa
open Go.RowKit

set_option maxHeartbeats 800000 in
theorem works_any (w : World) : Calls Try.prog 17 #[] w fun e w' => e = .returned (.bool true) ∧ Below w.heap.size w w' := by
  go_enter Try.func17, Try.ntmps17
  go_wp2_with fail
  refine (newClock_any 5 w).mono ?_
  rintro e w1 ⟨rfl, h⟩
  have oc : Ob w1 w.heap.size [.int .u64 (5 : Nat)] := h ▸ Ob.fresh w _ _
  have b1 : Hid (Below w.heap.size w w1) := h ▸ (Below.refl _ _).alloc (Nat.le_refl _) _
  have z1 : Hid (w1.heap.size = w.heap.size + 1) := by rw [h]; exact World.size_alloc _ _
  clear h
  have OC := Lib.hid oc
  clear oc
  go_wp2_with fail
  refine (newPairs_any _ w1).mono ?_
  rintro e w2 ⟨rfl, h⟩
  have op : Hid (Ob w2 w1.heap.size [.pointer (some ⟨w.heap.size, 0, none⟩), .int .u64 (0 : Nat), .int .u64 (0 : Nat)]) := h ▸ Ob.fresh w1 _ _
  have oc2 : Hid (Ob w2 w.heap.size [.int .u64 (5 : Nat)]) := h ▸ OC.out.alloc _
  have b2 : Hid (Below w.heap.size w w2) := h ▸ b1.out.alloc (by have := z1.out; omega) _
  have z2 : Hid (w2.heap.size = w.heap.size + 2) := by have := z1.out; rw [h, World.size_alloc]; simp only [Hid]; omega
  clear h OC b1
  go_wp2_with fail
  refine (pass_any w.heap.size 5 2 w2 oc2.out (by decide) (by decide)).mono ?_
  rintro e w3 ⟨rfl, g3, s3, oc3⟩
  have hp3 : Hid (Ob w3 w1.heap.size [.pointer (some ⟨w.heap.size, 0, none⟩), .int .u64 (0 : Nat), .int .u64 (0 : Nat)]) := op.out.kept g3 (by have := z1.out; simp; omega)
  have hc3 : Hid (Ob w3 w.heap.size [.int .u64 (7 : Nat)]) := oc3
  have b3 : Hid (Below w.heap.size w w3) := b2.out.trans (Below.of_grown g3 (Nat.le_refl _) (by have := z2.out; omega))
  have z3 : Hid (w3.heap.size = w.heap.size + 2) := s3.trans z2.out
  have hr : (((cPass 5 2).1 : Nat) : Int) = 0 := rfl
  rw [hr]
  clear hr g3 s3 oc3 b2 z2 op oc2
  go_wp2_with fail
  refine (now_any w.heap.size (7 : Nat) w3 (hc3.out.cell 0 rfl)).mono ?_
  rintro e w' ⟨rfl, rfl⟩
  go_wp2_with fail
  have hne : w1.heap.size ≠ w.heap.size := by have := z1.out; omega
  have F := draw_new w1.heap.size w.heap.size 7 0 0 w3 hc3.out hp3.out hne (by decide)
  refine F.mono ?_
  clear F hne
  rintro e w4 ⟨rfl, g4, op4⟩
  have hp4 := Lib.hid op4
  have hc4 : Hid (Ob w4 w.heap.size [.int .u64 (7 : Nat)]) := hc3.out.kept g4 (by have := z1.out; simp; omega)
  have b4 : Hid (Below w.heap.size w w4) := b3.out.trans (Below.of_grown g4 (by have := z1.out; omega) (by have := z3.out; omega))
  have z4 : Hid (w.heap.size + 2 ≤ w4.heap.size) := by have := z3.out; have := g4.size; simp only [Hid]; omega
  clear g4 op4 hp3 hc3 b3 z3
  go_wp2_with fail
  have hne : w1.heap.size ≠ w.heap.size := by have := z1.out; omega
  have F := draw_next w1.heap.size w.heap.size 7 7 1 _ (hc4.out.alloc (.cells #[.int .u64 (7 : Nat), .int .u64 (1 : Nat)] 25)) (hp4.out.alloc _) hne rfl (by decide)
  refine F.mono ?_
  clear F hne
  rintro e w5 ⟨rfl, g5, op5⟩
  have hd5 : Hid (Ob w5 w4.heap.size [.int .u64 (7 : Nat), .int .u64 (1 : Nat)]) := (Ob.fresh w4 _ _).kept g5 (by have := z1.out; have := z4.out; simp; omega)
  have b5 : Hid (Below w.heap.size w w5) := (b4.out.alloc (by have := z4.out; omega) _).trans (Below.of_grown g5 (by have := z1.out; omega) (by have := z4.out; simp; omega))
  have y0 := hd5.out.cell 0 rfl
  have y1 := hd5.out.cell 1 rfl
  have z5 : w4.heap.size < w5.heap.size := hd5.out.lt (by simp)
  have z6 : Hid (w.heap.size ≤ w5.heap.size) := by have := z4.out; simp only [Hid]; omega
  clear g5 op5 hp4 hc4 b4 hd5
  go_wp2_with fail
  go_returns
  exact ⟨rfl, b5.out.alloc z6.out _⟩
end Go.Proofs.Ytgbjfmokfkdglaa
