/-
  The walk of NonceNil.
-/
import Derived.Test.YtgbjfmokfkdglaaNNilF
import Derived.Test.YtgbjfmokfkdglaaNAlone
set_option linter.unusedVariables false
set_option linter.unusedSimpArgs false
namespace Go.Proofs.Ytgbjfmokfkdglaa
open Go.RowKit

set_option maxRecDepth 100000 in
set_option maxHeartbeats 1600000 in
theorem zeroes_any (w : World) : Calls Try.prog 48 #[] w fun e w' => e = .returned (.tuple #[]) ∧ Below w.heap.size w w' := by
  go_enter Try.func48, Try.ntmps48
  go_wp2_with fail
  refine (clockSet_any w.heap.size 0 3 _ (Ob.fresh w #[.int .u64 0] 107)).mono ?_
  rintro e w1 ⟨rfl, g, z, o⟩
  have B1 : Hid (Below w.heap.size w w1) := ((Below.refl _ _).alloc (Nat.le_refl _) _).trans (Below.of_grown g (Nat.le_refl _) (by simp))
  have S1 : Hid (w.heap.size < w1.heap.size) := o.lt (by simp)
  have O1 : Hid (Ob w1 w.heap.size [.int .u64 (3 : Nat)]) := o
  clear g z o
  go_wp2_with fail
  refine (pass_any w.heap.size 3 2 w1 O1.out (by decide) (by decide)).mono ?_
  rintro e w2 ⟨rfl, g, z, o⟩
  have B2 : Hid (Below w.heap.size w w2) := B1.out.trans (Below.of_grown g (Nat.le_refl _) (by have := S1.out; omega))
  have S2 : Hid (w.heap.size < w2.heap.size) := o.lt (by simp)
  have O2 : Hid (Ob w2 w.heap.size [.int .u64 (5 : Nat)]) := o
  clear g z o O1 B1 S1
  go_wp2_with fail
  refine (now_any w.heap.size (5 : Nat) w2 (O2.out.cell 0 rfl)).mono ?_
  rintro e w' ⟨rfl, rfl⟩
  clear O2
  go_wp2_with fail
  have op := Ob.fresh w2 #[.pointer none, .int .u64 0, .int .u64 0] 55
  refine (pairsDraw_zero w2.heap.size _ op).mono ?_
  rintro e w3 ⟨rfl, g, o⟩
  have B3 : Hid (Below w.heap.size w w3) := (B2.out.alloc (Nat.le_of_lt S2.out) _).trans (Below.of_grown g (Nat.le_of_lt S2.out) (by have := S2.out; simp; omega))
  have S3 : Hid (w.heap.size < w3.heap.size) := Nat.lt_of_lt_of_le S2.out (Nat.le_of_lt (o.lt (by simp)))
  have O3 := Lib.hid o
  have T2 : Hid (w.heap.size ≤ w2.heap.size) := Nat.le_of_lt S2.out
  clear g o op B2 S2
  go_wp2_with fail
  refine (pairsWipe_zero w2.heap.size _ _ w3 O3.out).mono ?_
  rintro e w4 ⟨rfl, g⟩
  have B4 : Hid (Below w.heap.size w w4) := B3.out.trans (Below.of_grown g T2.out (Nat.le_of_lt S3.out))
  have S4 : Hid (w.heap.size < w4.heap.size) := Nat.lt_of_lt_of_le S3.out g.size
  clear g O3 B3 S3 T2
  go_wp2_with fail
  refine (mixed_any w4.heap.size 0 _ (Ob.fresh w4 #[.int .u64 0] 109)).mono ?_
  rintro e w5 ⟨rfl, g, o⟩
  have B5 : Hid (Below w.heap.size w w5) := (B4.out.alloc (Nat.le_of_lt S4.out) _).trans (Below.of_grown g (Nat.le_of_lt S4.out) (by have := S4.out; simp; omega))
  have S5 : Hid (w.heap.size < w5.heap.size) := Nat.lt_of_lt_of_le S4.out (Nat.le_of_lt (o.lt (by simp)))
  clear g o B4 S4
  obtain ⟨u1, hu1⟩ : ∃ u, mMix (mS 0) = u := ⟨_, rfl⟩
  obtain ⟨u2, hu2⟩ : ∃ u, mMix (mS (mS 0)) = u := ⟨_, rfl⟩
  rw [hu1, hu2]
  clear hu1 hu2
  go_wp2_with fail
  refine (streamDraw_zero w5.heap.size _ (Ob.fresh w5 #[.slice none 0 0] 111)).mono ?_
  rintro e w6 ⟨rfl, hb⟩
  have B6 : Hid (Below w.heap.size w w6) := (B5.out.alloc (Nat.le_of_lt S5.out) _).trans (hb.mono (by have := S5.out; simp; omega))
  have S6 : Hid (w.heap.size < w6.heap.size) := Nat.lt_of_lt_of_le S5.out (by have := hb.size; simp at this; omega)
  have O6 := Lib.hid ((Ob.fresh w5 #[.slice none 0 0] 111).below hb)
  clear hb B5 S5
  go_wp2_with fail
  refine (streamLeft_zero w5.heap.size w6 O6.out).mono ?_
  rintro e w7 ⟨rfl, hb⟩
  have B7 : Hid (Below w.heap.size w w7) := B6.out.trans (hb.mono (Nat.le_of_lt S6.out))
  have S7 : Hid (w.heap.size < w7.heap.size) := Nat.lt_of_lt_of_le S6.out hb.size
  clear hb O6 B6 S6
  go_wp2_with fail
  have og := Ob.fresh w7 #[.pointer none, .slice none 0 0, .slice none 0 0, .slice none 0 0] 119
  refine (groupSet_zero 4 w7.heap.size _ og).mono ?_
  rintro e w8 ⟨rfl, hb⟩
  have B8 : Hid (Below w.heap.size w w8) := (B7.out.alloc (Nat.le_of_lt S7.out) _).trans (hb.mono (by have := S7.out; simp; omega))
  have S8 : Hid (w.heap.size < w8.heap.size) := Nat.lt_of_lt_of_le S7.out (by have := hb.size; simp at this; omega)
  have O8 := Lib.hid (og.below hb)
  clear hb og B7 S7
  go_wp2_with fail
  refine (groupPass_zero 1 w7.heap.size w8 O8.out).mono ?_
  rintro e w9 ⟨rfl, hb⟩
  have B9 : Hid (Below w.heap.size w w9) := B8.out.trans (hb.mono (Nat.le_of_lt S8.out))
  have S9 : Hid (w.heap.size < w9.heap.size) := Nat.lt_of_lt_of_le S8.out hb.size
  have O9 := Lib.hid (O8.out.below hb)
  clear hb O8 B8 S8
  go_wp2_with fail
  refine (groupDraw_zero w7.heap.size w9 O9.out).mono ?_
  rintro e w10 ⟨rfl, hb⟩
  have B10 : Hid (Below w.heap.size w w10) := B9.out.trans (hb.mono (Nat.le_of_lt S9.out))
  have S10 : Hid (w.heap.size < w10.heap.size) := Nat.lt_of_lt_of_le S9.out hb.size
  have O10 := Lib.hid (O9.out.below hb)
  clear hb O9 B9 S9
  go_wp2_with fail
  refine (groupWipe_zero w7.heap.size w10 O10.out).mono ?_
  rintro e w11 ⟨rfl, hb⟩
  have B11 : Hid (Below w.heap.size w w11) := B10.out.trans (hb.mono (Nat.le_of_lt S10.out))
  have S11 : Hid (w.heap.size < w11.heap.size) := Nat.lt_of_lt_of_le S10.out hb.size
  have O11 := Lib.hid (O10.out.below hb)
  clear hb O10 B10 S10
  go_wp2_with fail
  refine (groupDrawn_zero w7.heap.size w11 O11.out).mono ?_
  rintro e w12 ⟨A, c, rfl, hb⟩
  have B12 : Hid (Below w.heap.size w w12) := B11.out.trans (hb.mono (Nat.le_of_lt S11.out))
  clear hb O11 B11 S11
  go_wp2
  go_end0
  exact ⟨rfl, B12.out⟩
set_option maxRecDepth 100000 in
set_option maxHeartbeats 1600000 in
theorem nonceNil_walk (W : World) : Calls Try.prog 12 #[] W fun e w' => e = .returned (.bool true) ∧ Below W.heap.size W w' := by
  go_enter Try.func12, Try.ntmps12
  go_wp2_with fail
  refine (works_any _).mono ?_
  rintro e v1 ⟨rfl, hb⟩
  have B1 : Hid (Below W.heap.size W v1) := hb
  clear hb
  go_wp2_with fail
  refine (now_nil _).mono ?_
  rintro e w' ⟨rfl, rfl⟩
  go_wp2_with fail
  refine (clockSet_nil 4 _).mono ?_
  rintro e v2 ⟨rfl, hb⟩
  have B2 : Hid (Below W.heap.size W v2) := B1.out.trans (hb.mono B1.out.size)
  clear hb B1 
  go_wp2_with fail
  refine (clockPass_nil 4 _).mono ?_
  rintro e v3 ⟨rfl, hb⟩
  have B3 : Hid (Below W.heap.size W v3) := B2.out.trans (hb.mono B2.out.size)
  clear hb B2 
  go_wp2_with fail
  refine (streamLeft_nil _).mono ?_
  rintro e v4 ⟨rfl, hb⟩
  have B4 : Hid (Below W.heap.size W v4) := B3.out.trans (hb.mono B3.out.size)
  clear hb B3 
  go_wp2_with fail
  refine (groupSet_nil 3 _).mono ?_
  rintro e v5 ⟨rfl, hb⟩
  have B5 : Hid (Below W.heap.size W v5) := B4.out.trans (hb.mono B4.out.size)
  clear hb B4 
  go_wp2_with fail
  refine (groupPass_nil 3 _).mono ?_
  rintro e v6 ⟨rfl, hb⟩
  have B6 : Hid (Below W.heap.size W v6) := B5.out.trans (hb.mono B5.out.size)
  clear hb B5 
  go_wp2_with fail
  refine (groupWipe_nil 0 _).mono ?_
  rintro e v7 ⟨rfl, hb⟩
  have B7 : Hid (Below W.heap.size W v7) := B6.out.trans (hb.mono B6.out.size)
  clear hb B6 
  go_wp2_with fail
  refine (groupDrawn_nil _).mono ?_
  rintro e v8 ⟨rfl, hb⟩
  have B8 : Hid (Below W.heap.size W v8) := B7.out.trans (hb.mono B7.out.size)
  clear hb B7 
  go_wp2_with fail
  refine (pairsWipe_nil _).mono ?_
  rintro e v9 ⟨rfl, hb⟩
  have B9 : Hid (Below W.heap.size W v9) := B8.out.trans (hb.mono B8.out.size)
  clear hb B8 
  go_wp2_with fail
  refine (pairsDraw_nil _).mono ?_
  rintro e v10 ⟨rfl, hb⟩
  have B10 : Hid (Below W.heap.size W v10) := B9.out.trans (hb.mono B9.out.size)
  clear hb B9 
  go_wp2_with fail
  have BA10 : Hid (Below W.heap.size W (v10.alloc (.cells #[.int .u64 0, .int .u64 0] 25))) := B10.out.alloc B10.out.size _
  have D0 := Lib.hid (Ob.fresh v10 #[.int .u64 0, .int .u64 0] 25)
  clear  B10
  refine (mixedDraw_nil _).mono ?_
  rintro e v11 ⟨rfl, hb⟩
  have B11 : Hid (Below W.heap.size W v11) := BA10.out.trans (hb.mono BA10.out.size)
  have E0_11 := Lib.hid (D0.out.below hb)
  clear hb BA10 D0
  go_wp2_with fail
  have BA11 : Hid (Below W.heap.size W (v11.alloc (.cells #[.int .u64 0, .int .u64 0] 25))) := B11.out.alloc B11.out.size _
  have E0_11a := Lib.hid (E0_11.out.alloc (.cells #[.int .u64 0, .int .u64 0] 25))
  have D1 := Lib.hid (Ob.fresh v11 #[.int .u64 0, .int .u64 0] 25)
  clear E0_11 B11
  refine (streamDraw_nil _).mono ?_
  rintro e v12 ⟨rfl, hb⟩
  have B12 : Hid (Below W.heap.size W v12) := BA11.out.trans (hb.mono BA11.out.size)
  have E0_12 := Lib.hid (E0_11a.out.below hb)
  have E1_12 := Lib.hid (D1.out.below hb)
  clear hb BA11 E0_11a D1
  go_wp2_with fail
  have BA12 : Hid (Below W.heap.size W (v12.alloc (.cells #[.int .u64 0, .int .u64 0] 25))) := B12.out.alloc B12.out.size _
  have E0_12a := Lib.hid (E0_12.out.alloc (.cells #[.int .u64 0, .int .u64 0] 25))
  have E1_12a := Lib.hid (E1_12.out.alloc (.cells #[.int .u64 0, .int .u64 0] 25))
  have D2 := Lib.hid (Ob.fresh v12 #[.int .u64 0, .int .u64 0] 25)
  clear E0_12 E1_12 B12
  refine (groupDraw_nil 0 _).mono ?_
  rintro e v13 ⟨rfl, hb⟩
  have B13 : Hid (Below W.heap.size W v13) := BA12.out.trans (hb.mono BA12.out.size)
  have E0_13 := Lib.hid (E0_12a.out.below hb)
  have E1_13 := Lib.hid (E1_12a.out.below hb)
  have E2_13 := Lib.hid (D2.out.below hb)
  clear hb BA12 E0_12a E1_12a D2
  have y0 := E0_13.out.cell 0 rfl
  have y1 := E0_13.out.cell 1 rfl
  have y2 := E1_13.out.cell 0 rfl
  have y3 := E1_13.out.cell 1 rfl
  have y4 := E2_13.out.cell 0 rfl
  have y5 := E2_13.out.cell 1 rfl
  have x0 := E0_13.out.lt (by simp)
  have x1 := E1_13.out.lt (by simp)
  have x2 := E2_13.out.lt (by simp)
  go_wp2_with fail
  have B14 : Hid (Below W.heap.size W (v13.alloc (.cells #[.int .u64 0, .int .u64 0] 25))) := B13.out.alloc B13.out.size _
  clear y0 y1 y2 y3 y4 y5 x0 x1 x2 E0_13 E1_13 E2_13 B13
  refine (zeroes_any _).mono ?_
  rintro e v14 ⟨rfl, hb⟩
  have B15 : Hid (Below W.heap.size W v14) := B14.out.trans (hb.mono B14.out.size)
  clear hb B14
  go_wp2_with fail
  refine (newPairs_nil _).mono ?_
  rintro e v15 ⟨rfl, hb⟩
  have B16 : Hid (Below W.heap.size W v15) := B15.out.trans (hb.mono B15.out.size)
  clear hb B15
  go_wp2_with fail
  refine (take_nil _).mono ?_
  rintro e v16 ⟨rfl, hb⟩
  have B17 : Hid (Below W.heap.size W v16) := B16.out.trans (hb.mono B16.out.size)
  clear hb B16
  go_wp2
  go_ret
  exact ⟨rfl, B17.out⟩
end Go.Proofs.Ytgbjfmokfkdglaa
