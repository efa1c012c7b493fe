/-
  The walk of NonceAlone.
-/
import Derived.Test.YtgbjfmokfkdglaaNWorks
import Derived.Test.YtgbjfmokfkdglaaNOpen
set_option linter.unusedVariables false
set_option linter.unusedSimpArgs false
namespace Go.Proofs.Ytgbjfmokfkdglaa
open Go.RowKit

theorem newClock_at (a : Int) (w : World) (b : Nat) (hb : w.heap.size = b) : Calls Try.prog 15 #[.int .u64 a] w fun e w' => e = .returned (.pointer (some ⟨b, 0, none⟩)) ∧ w.grownBy w' none ∧ w'.heap.size = b + 1 ∧ Ob w' b [.int .u64 a] := by
  subst hb
  refine (newClock_any a w).mono ?_
  rintro e w' ⟨rfl, rfl⟩
  exact ⟨rfl, World.grownBy_alloc _ _ _, by simp, Ob.fresh _ _ _⟩
theorem newMixed_at (a : Int) (w : World) (b : Nat) (hb : w.heap.size = b) : Calls Try.prog 24 #[.int .u64 a] w fun e w' => e = .returned (.pointer (some ⟨b, 0, none⟩)) ∧ w.grownBy w' none ∧ w'.heap.size = b + 1 ∧ Ob w' b [.int .u64 a] := by
  subst hb
  refine (newMixed_any a w).mono ?_
  rintro e w' ⟨rfl, rfl⟩
  exact ⟨rfl, World.grownBy_alloc _ _ _, by simp, Ob.fresh _ _ _⟩
theorem newPairs_at (c : Nat) (w : World) (b : Nat) (hb : w.heap.size = b) : Calls Try.prog 16 #[.pointer (some ⟨c, 0, none⟩)] w fun e w' => e = .returned (.tuple #[.pointer (some ⟨b, 0, none⟩), .int .i64 0]) ∧ w.grownBy w' none ∧ w'.heap.size = b + 1 ∧ Ob w' b [.pointer (some ⟨c, 0, none⟩), .int .u64 (0 : Nat), .int .u64 (0 : Nat)] := by
  subst hb
  refine (newPairs_any ⟨c, 0, none⟩ w).mono ?_
  rintro e w' ⟨rfl, rfl⟩
  exact ⟨rfl, World.grownBy_alloc _ _ _, by simp, Ob.fresh _ _ _⟩

/-- the nine objects -/
structure A9 (W w : World) (B : Nat) (c0 c1 c2 c3 c4 c5 c6 c7 c8 : List Value) : Prop where
  o0 : Ob w (B + 0) c0
  o1 : Ob w (B + 1) c1
  o2 : Ob w (B + 2) c2
  o3 : Ob w (B + 3) c3
  o4 : Ob w (B + 4) c4
  o5 : Ob w (B + 5) c5
  o6 : Ob w (B + 6) c6
  o7 : Ob w (B + 7) c7
  o8 : Ob w (B + 8) c8
  bel : Below B W w
  sz : B + 9 ≤ w.heap.size
theorem A9.grow {W w w' : World} {B : Nat} {c0 c1 c2 c3 c4 c5 c6 c7 c8 : List Value} (h : A9 W w B c0 c1 c2 c3 c4 c5 c6 c7 c8) (g : w.grownBy w' none) : A9 W w' B c0 c1 c2 c3 c4 c5 c6 c7 c8 :=
  ⟨h.o0.kept g (by simp), h.o1.kept g (by simp), h.o2.kept g (by simp), h.o3.kept g (by simp), h.o4.kept g (by simp), h.o5.kept g (by simp), h.o6.kept g (by simp), h.o7.kept g (by simp), h.o8.kept g (by simp), h.bel.trans (grown_below_drop g (by have := h.sz; omega)), Nat.le_trans h.sz g.size⟩
theorem A9.up0 {W w w' : World} {B : Nat} {c0 c1 c2 c3 c4 c5 c6 c7 c8 c' : List Value} (h : A9 W w B c0 c1 c2 c3 c4 c5 c6 c7 c8) (g : w.grownBy w' (some (B + 0))) (o : Ob w' (B + 0) c') : A9 W w' B c' c1 c2 c3 c4 c5 c6 c7 c8 :=
  ⟨o, h.o1.kept g (by simp), h.o2.kept g (by simp), h.o3.kept g (by simp), h.o4.kept g (by simp), h.o5.kept g (by simp), h.o6.kept g (by simp), h.o7.kept g (by simp), h.o8.kept g (by simp), h.bel.trans (Below.of_grown g (by omega) (by have := h.sz; omega)), Nat.le_trans h.sz g.size⟩
theorem A9.up1 {W w w' : World} {B : Nat} {c0 c1 c2 c3 c4 c5 c6 c7 c8 c' : List Value} (h : A9 W w B c0 c1 c2 c3 c4 c5 c6 c7 c8) (g : w.grownBy w' (some (B + 1))) (o : Ob w' (B + 1) c') : A9 W w' B c0 c' c2 c3 c4 c5 c6 c7 c8 :=
  ⟨h.o0.kept g (by simp), o, h.o2.kept g (by simp), h.o3.kept g (by simp), h.o4.kept g (by simp), h.o5.kept g (by simp), h.o6.kept g (by simp), h.o7.kept g (by simp), h.o8.kept g (by simp), h.bel.trans (Below.of_grown g (by omega) (by have := h.sz; omega)), Nat.le_trans h.sz g.size⟩
theorem A9.up2 {W w w' : World} {B : Nat} {c0 c1 c2 c3 c4 c5 c6 c7 c8 c' : List Value} (h : A9 W w B c0 c1 c2 c3 c4 c5 c6 c7 c8) (g : w.grownBy w' (some (B + 2))) (o : Ob w' (B + 2) c') : A9 W w' B c0 c1 c' c3 c4 c5 c6 c7 c8 :=
  ⟨h.o0.kept g (by simp), h.o1.kept g (by simp), o, h.o3.kept g (by simp), h.o4.kept g (by simp), h.o5.kept g (by simp), h.o6.kept g (by simp), h.o7.kept g (by simp), h.o8.kept g (by simp), h.bel.trans (Below.of_grown g (by omega) (by have := h.sz; omega)), Nat.le_trans h.sz g.size⟩
theorem A9.up4 {W w w' : World} {B : Nat} {c0 c1 c2 c3 c4 c5 c6 c7 c8 c' : List Value} (h : A9 W w B c0 c1 c2 c3 c4 c5 c6 c7 c8) (g : w.grownBy w' (some (B + 4))) (o : Ob w' (B + 4) c') : A9 W w' B c0 c1 c2 c3 c' c5 c6 c7 c8 :=
  ⟨h.o0.kept g (by simp), h.o1.kept g (by simp), h.o2.kept g (by simp), h.o3.kept g (by simp), o, h.o5.kept g (by simp), h.o6.kept g (by simp), h.o7.kept g (by simp), h.o8.kept g (by simp), h.bel.trans (Below.of_grown g (by omega) (by have := h.sz; omega)), Nat.le_trans h.sz g.size⟩
theorem A9.up5 {W w w' : World} {B : Nat} {c0 c1 c2 c3 c4 c5 c6 c7 c8 c' : List Value} (h : A9 W w B c0 c1 c2 c3 c4 c5 c6 c7 c8) (g : w.grownBy w' (some (B + 5))) (o : Ob w' (B + 5) c') : A9 W w' B c0 c1 c2 c3 c4 c' c6 c7 c8 :=
  ⟨h.o0.kept g (by simp), h.o1.kept g (by simp), h.o2.kept g (by simp), h.o3.kept g (by simp), h.o4.kept g (by simp), o, h.o6.kept g (by simp), h.o7.kept g (by simp), h.o8.kept g (by simp), h.bel.trans (Below.of_grown g (by omega) (by have := h.sz; omega)), Nat.le_trans h.sz g.size⟩
theorem A9.up6 {W w w' : World} {B : Nat} {c0 c1 c2 c3 c4 c5 c6 c7 c8 c' : List Value} (h : A9 W w B c0 c1 c2 c3 c4 c5 c6 c7 c8) (g : w.grownBy w' (some (B + 6))) (o : Ob w' (B + 6) c') : A9 W w' B c0 c1 c2 c3 c4 c5 c' c7 c8 :=
  ⟨h.o0.kept g (by simp), h.o1.kept g (by simp), h.o2.kept g (by simp), h.o3.kept g (by simp), h.o4.kept g (by simp), h.o5.kept g (by simp), o, h.o7.kept g (by simp), h.o8.kept g (by simp), h.bel.trans (Below.of_grown g (by omega) (by have := h.sz; omega)), Nat.le_trans h.sz g.size⟩
theorem A9.up8 {W w w' : World} {B : Nat} {c0 c1 c2 c3 c4 c5 c6 c7 c8 c' : List Value} (h : A9 W w B c0 c1 c2 c3 c4 c5 c6 c7 c8) (g : w.grownBy w' (some (B + 8))) (o : Ob w' (B + 8) c') : A9 W w' B c0 c1 c2 c3 c4 c5 c6 c7 c' :=
  ⟨h.o0.kept g (by simp), h.o1.kept g (by simp), h.o2.kept g (by simp), h.o3.kept g (by simp), h.o4.kept g (by simp), h.o5.kept g (by simp), h.o6.kept g (by simp), h.o7.kept g (by simp), o, h.bel.trans (Below.of_grown g (by omega) (by have := h.sz; omega)), Nat.le_trans h.sz g.size⟩
/-- how the nine stand in the loop -/
def Alo (a : Nat) (W w : World) : Prop := ∃ (sx sy : Int) (m n aq mq nq : Nat), n ≤ 65535 ∧ nq ≤ 65535 ∧ aq < 18446744073709551616 ∧ A9 W w W.heap.size [.int .u64 sx] [.int .u64 sy] [.int .u64 sx] [.int .u64 (a : Nat)] [.pointer (some ⟨W.heap.size + 3, 0, none⟩), .int .u64 (m : Nat), .int .u64 (n : Nat)] [.int .u64 (aq : Nat)] [.pointer (some ⟨W.heap.size + 5, 0, none⟩), .int .u64 (mq : Nat), .int .u64 (nq : Nat)] [.int .u64 (a : Nat)] [.pointer (some ⟨W.heap.size + 7, 0, none⟩), .int .u64 (m : Nat), .int .u64 (n : Nat)]
theorem pDraw_le (a m n : Nat) (hn : n ≤ 65535) : (pDraw a m n).2.2.2 ≤ 65535 := by
  unfold pDraw
  by_cases h1 : m = a
  · by_cases h2 : n = 65535
    · rw [if_pos h1, if_pos h2]; exact Nat.le_refl _
    · rw [if_pos h1, if_neg h2]; simp only; omega
  · rw [if_neg h1, if_neg (by decide)]; simp only; omega
theorem cPass_lt (a b : Nat) (ha : a < 18446744073709551616) : (cPass a b).2 < 18446744073709551616 := by
  unfold cPass
  by_cases h : 18446744073709551615 - a < b
  · rw [if_pos h]; exact ha
  · rw [if_neg h]; simp only; omega

set_option maxRecDepth 100000 in
set_option maxHeartbeats 3200000 in
theorem nonceAlone_walk (a b : Int) (A : Option Addr) (n c : Nat) (l : List Bool) (W : World) (wa : (Lit.int .u64 a).wf = true) (wb : (Lit.int .u64 b).wf = true) (hl : RdC 1 bcells W A n l) (hA : A = none → n = 0 ∧ c = 0) :
    Calls Try.prog 5 #[.int .u64 a, .int .u64 b, .slice A n c] W fun e w' => e = .returned (.bool true) ∧ Below W.heap.size W w' := by
  have ba := bounds_u64 wa
  have bb := bounds_u64 wb
  obtain ⟨a, rfl⟩ : ∃ k : Nat, a = (k : Int) := ⟨a.toNat, by omega⟩
  obtain ⟨b, rfl⟩ : ∃ k : Nat, b = (k : Int) := ⟨b.toNat, by omega⟩
  have HLA := Lib.hid (show a < 18446744073709551616 by omega)
  have HLB := Lib.hid (show b < 18446744073709551616 by omega)
  have HL := Lib.hid hl
  have HA := Lib.hid hA
  have hnn : (n : Int) ≤ 9223372036854775807 := by have := hl.le; omega
  clear wa wb ba bb hl hA
  generalize hB : W.heap.size = B
  have HB := Lib.hid hB
  go_enter Try.func5, Try.ntmps5
  go_wp2_with fail
  refine (newMixed_at (a : Nat) W (B + 0) HB.out).mono ?_
  rintro e w1 ⟨rfl, g, z, o⟩
  have z1 : Hid (w1.heap.size = B + 1) := z
  have O0_0 : Hid (Ob w1 (B + 0) _) := o
  have D1 : Hid (Below B W w1) := grown_below_drop g (by have := HB.out; omega)
  clear g z o
  go_wp2_with fail
  refine (newMixed_at (b : Nat) w1 (B + 1) z1.out).mono ?_
  rintro e w2 ⟨rfl, g, z, o⟩
  have z2 : Hid (w2.heap.size = B + 2) := z
  have O1_1 : Hid (Ob w2 (B + 1) _) := o
  have O0_1 : Hid (Ob w2 (B + 0) _) := O0_0.out.kept g (by simp)
  have D2 : Hid (Below B W w2) := D1.out.trans (grown_below_drop g (by have := z1.out; omega))
  clear g z o D1 z1 O0_0
  go_wp2_with fail
  refine (newMixed_at (a : Nat) w2 (B + 2) z2.out).mono ?_
  rintro e w3 ⟨rfl, g, z, o⟩
  have z3 : Hid (w3.heap.size = B + 3) := z
  have O2_2 : Hid (Ob w3 (B + 2) _) := o
  have O0_2 : Hid (Ob w3 (B + 0) _) := O0_1.out.kept g (by simp)
  have O1_2 : Hid (Ob w3 (B + 1) _) := O1_1.out.kept g (by simp)
  have D3 : Hid (Below B W w3) := D2.out.trans (grown_below_drop g (by have := z2.out; omega))
  clear g z o D2 z2 O0_1 O1_1
  go_wp2_with fail
  refine (newClock_at (a : Nat) w3 (B + 3) z3.out).mono ?_
  rintro e w4 ⟨rfl, g, z, o⟩
  have z4 : Hid (w4.heap.size = B + 4) := z
  have O3_3 : Hid (Ob w4 (B + 3) _) := o
  have O0_3 : Hid (Ob w4 (B + 0) _) := O0_2.out.kept g (by simp)
  have O1_3 : Hid (Ob w4 (B + 1) _) := O1_2.out.kept g (by simp)
  have O2_3 : Hid (Ob w4 (B + 2) _) := O2_2.out.kept g (by simp)
  have D4 : Hid (Below B W w4) := D3.out.trans (grown_below_drop g (by have := z3.out; omega))
  clear g z o D3 z3 O0_2 O1_2 O2_2
  go_wp2_with fail
  refine (newPairs_at (B + 3) w4 (B + 4) z4.out).mono ?_
  rintro e w5 ⟨rfl, g, z, o⟩
  have z5 : Hid (w5.heap.size = B + 5) := z
  have O4_4 : Hid (Ob w5 (B + 4) _) := o
  have O0_4 : Hid (Ob w5 (B + 0) _) := O0_3.out.kept g (by simp)
  have O1_4 : Hid (Ob w5 (B + 1) _) := O1_3.out.kept g (by simp)
  have O2_4 : Hid (Ob w5 (B + 2) _) := O2_3.out.kept g (by simp)
  have O3_4 : Hid (Ob w5 (B + 3) _) := O3_3.out.kept g (by simp)
  have D5 : Hid (Below B W w5) := D4.out.trans (grown_below_drop g (by have := z4.out; omega))
  clear g z o D4 z4 O0_3 O1_3 O2_3 O3_3
  go_wp2_with fail
  refine (newClock_at (b : Nat) w5 (B + 5) z5.out).mono ?_
  rintro e w6 ⟨rfl, g, z, o⟩
  have z6 : Hid (w6.heap.size = B + 6) := z
  have O5_5 : Hid (Ob w6 (B + 5) _) := o
  have O0_5 : Hid (Ob w6 (B + 0) _) := O0_4.out.kept g (by simp)
  have O1_5 : Hid (Ob w6 (B + 1) _) := O1_4.out.kept g (by simp)
  have O2_5 : Hid (Ob w6 (B + 2) _) := O2_4.out.kept g (by simp)
  have O3_5 : Hid (Ob w6 (B + 3) _) := O3_4.out.kept g (by simp)
  have O4_5 : Hid (Ob w6 (B + 4) _) := O4_4.out.kept g (by simp)
  have D6 : Hid (Below B W w6) := D5.out.trans (grown_below_drop g (by have := z5.out; omega))
  clear g z o D5 z5 O0_4 O1_4 O2_4 O3_4 O4_4
  go_wp2_with fail
  refine (newPairs_at (B + 5) w6 (B + 6) z6.out).mono ?_
  rintro e w7 ⟨rfl, g, z, o⟩
  have z7 : Hid (w7.heap.size = B + 7) := z
  have O6_6 : Hid (Ob w7 (B + 6) _) := o
  have O0_6 : Hid (Ob w7 (B + 0) _) := O0_5.out.kept g (by simp)
  have O1_6 : Hid (Ob w7 (B + 1) _) := O1_5.out.kept g (by simp)
  have O2_6 : Hid (Ob w7 (B + 2) _) := O2_5.out.kept g (by simp)
  have O3_6 : Hid (Ob w7 (B + 3) _) := O3_5.out.kept g (by simp)
  have O4_6 : Hid (Ob w7 (B + 4) _) := O4_5.out.kept g (by simp)
  have O5_6 : Hid (Ob w7 (B + 5) _) := O5_5.out.kept g (by simp)
  have D7 : Hid (Below B W w7) := D6.out.trans (grown_below_drop g (by have := z6.out; omega))
  clear g z o D6 z6 O0_5 O1_5 O2_5 O3_5 O4_5 O5_5
  go_wp2_with fail
  refine (newClock_at (a : Nat) w7 (B + 7) z7.out).mono ?_
  rintro e w8 ⟨rfl, g, z, o⟩
  have z8 : Hid (w8.heap.size = B + 8) := z
  have O7_7 : Hid (Ob w8 (B + 7) _) := o
  have O0_7 : Hid (Ob w8 (B + 0) _) := O0_6.out.kept g (by simp)
  have O1_7 : Hid (Ob w8 (B + 1) _) := O1_6.out.kept g (by simp)
  have O2_7 : Hid (Ob w8 (B + 2) _) := O2_6.out.kept g (by simp)
  have O3_7 : Hid (Ob w8 (B + 3) _) := O3_6.out.kept g (by simp)
  have O4_7 : Hid (Ob w8 (B + 4) _) := O4_6.out.kept g (by simp)
  have O5_7 : Hid (Ob w8 (B + 5) _) := O5_6.out.kept g (by simp)
  have O6_7 : Hid (Ob w8 (B + 6) _) := O6_6.out.kept g (by simp)
  have D8 : Hid (Below B W w8) := D7.out.trans (grown_below_drop g (by have := z7.out; omega))
  clear g z o D7 z7 O0_6 O1_6 O2_6 O3_6 O4_6 O5_6 O6_6
  go_wp2_with fail
  refine (newPairs_at (B + 7) w8 (B + 8) z8.out).mono ?_
  rintro e w9 ⟨rfl, g, z, o⟩
  have z9 : Hid (w9.heap.size = B + 9) := z
  have O8_8 : Hid (Ob w9 (B + 8) _) := o
  have O0_8 : Hid (Ob w9 (B + 0) _) := O0_7.out.kept g (by simp)
  have O1_8 : Hid (Ob w9 (B + 1) _) := O1_7.out.kept g (by simp)
  have O2_8 : Hid (Ob w9 (B + 2) _) := O2_7.out.kept g (by simp)
  have O3_8 : Hid (Ob w9 (B + 3) _) := O3_7.out.kept g (by simp)
  have O4_8 : Hid (Ob w9 (B + 4) _) := O4_7.out.kept g (by simp)
  have O5_8 : Hid (Ob w9 (B + 5) _) := O5_7.out.kept g (by simp)
  have O6_8 : Hid (Ob w9 (B + 6) _) := O6_7.out.kept g (by simp)
  have O7_8 : Hid (Ob w9 (B + 7) _) := O7_7.out.kept g (by simp)
  have D9 : Hid (Below B W w9) := D8.out.trans (grown_below_drop g (by have := z8.out; omega))
  clear g z o D8 z8 O0_7 O1_7 O2_7 O3_7 O4_7 O5_7 O6_7 O7_7
  go_wp2_with fail
  have HS : Hid (Alo a W w9) := by
    subst hB
    exact ⟨_, _, 0, 0, b, 0, 0, by omega, by omega, HLB.out, ⟨O0_8.out, O1_8.out, O2_8.out, O3_8.out, O4_8.out, O5_8.out, O6_8.out, O7_8.out, O8_8.out, D9.out, by have := z9.out; omega⟩⟩
  clear z9 D9 O0_8 O1_8 O2_8 O3_8 O4_8 O5_8 O6_8 O7_8 O8_8
  have HB := HB
  go_loopw [17] (fun i wr => ∃ (k : Nat), k ≤ n ∧ i = .int .i64 k ∧ Hid (Alo a W wr)) (fun i _ => n - (intOf i).toNat)
  case atStart => exact ⟨0, by omega, rfl, HS⟩
  case round =>
    obtain ⟨k, hk, rfl, HR⟩ := hrel
    clear HS
    by_cases hkn : k < n
    · by_cases hk2 : k < 2000
      · obtain ⟨sx, sy, m, q, aq, mq, nq, hq, hnq, haq, h9⟩ := HR.out
        rw [hB] at h9
        have H9 := Lib.hid h9
        have HQ := Lib.hid hq
        have HNQ := Lib.hid hnq
        have HAQ := Lib.hid haq
        clear HR hq hnq haq
        obtain ⟨x, hx⟩ : ∃ x, l[k]? = some x := ⟨_, List.getElem?_eq_getElem (by have := HL.out.len; omega)⟩
        obtain ⟨ad, rfl, hc⟩ := HL.out.cell k x hx
        have hc0 : wr.cell? (ad.add k) = some (.bool x) := by
          have h0 := hc 0 _ rfl
          rw [show k * 1 + 0 = k by omega] at h0
          exact (h9.bel.cell (p := ad.add k) (by rw [← hB]; exact World.block_lt_of_cell? W _ h0)).trans h0
        have e1 : IntKind.i64.wrap ((k : Int) + 1) = (k : Int) + 1 := by rw [IntKind.wrap_i64]; omega
        have E1 := Lib.hid e1
        clear hc hx h9 e1
        cases x with
        | true =>
          go_wp2_with fail
          refine (mixed_any (B + 1) sy wr H9.out.o1).mono ?_
          rintro e v1 ⟨rfl, g, o⟩
          have K1 := Lib.hid (H9.out.up1 g o)
          clear g o H9
          go_wp2_with fail
          refine (draw_any (B + 6) (B + 5) aq mq nq v1 K1.out.o5 K1.out.o6 (by omega) HNQ.out).mono ?_
          rintro e v2 ⟨rfl, g, o⟩
          have K2 := Lib.hid (K1.out.up6 g o)
          have hc6 : v2.cell? ⟨B + 6, 0, none⟩ = some (.pointer (some ⟨B + 5, 0, none⟩)) := K2.out.o6.cell 0 rfl
          clear g o K1
          go_wp2_with fail
          refine (pass_any (B + 5) aq 1 v2 K2.out.o5 HAQ.out (by decide)).mono ?_
          rintro e v3 ⟨rfl, g, _, o⟩
          have K3 := Lib.hid (K2.out.up5 g o)
          clear g o K2 hc6 hc0
          have e1 := E1.out
          go_wp2
          go_roundw
          case rel => exact ⟨k + 1, by omega, by go_num, _, _, m, q, _, _, _, HQ.out, pDraw_le _ _ _ HNQ.out, cPass_lt _ _ HAQ.out, by rw [hB]; exact K3.out⟩
          case measure => simp [intOf]; omega
        | false =>
          go_wp2_with fail
          refine (mixed_any (B + 0) sx wr H9.out.o0).mono ?_
          rintro e v1 ⟨rfl, g, o⟩
          have K1 := Lib.hid (H9.out.up0 g o)
          clear g o H9 hc0
          obtain ⟨u1, hu1⟩ : ∃ u1, mMix (mS sx) = u1 := ⟨_, rfl⟩
          obtain ⟨u2, hu2⟩ : ∃ u2, mMix (mS (mS sx)) = u2 := ⟨_, rfl⟩
          rw [hu1, hu2]
          have HU1 := Lib.hid hu1
          have HU2 := Lib.hid hu2
          clear hu1 hu2
          go_wp2_with fail
          have K1a := Lib.hid (K1.out.grow (World.grownBy_alloc v1 (.cells #[.int .u64 u1, .int .u64 u2] 25) none))
          have P1 := Lib.hid (Ob.fresh v1 #[.int .u64 u1, .int .u64 u2] 25)
          have L1 : Hid (B + 9 ≤ v1.heap.size) := K1.out.sz
          refine (mixed_any (B + 2) sx _ K1a.out.o2).mono ?_
          rintro e v2 ⟨rfl, g, o⟩
          rw [HU1.out, HU2.out]
          have K2 := Lib.hid (K1a.out.up2 g o)
          have P2 : Hid (Ob v2 v1.heap.size [.int .u64 u1, .int .u64 u2]) := P1.out.kept g (by have := L1.out; simp; omega)
          have Z2 : Hid (v1.heap.size < v2.heap.size) := P2.out.lt (by simp)
          clear g o K1 K1a P1
          go_wp2_with fail
          have K2a := Lib.hid (K2.out.grow (World.grownBy_alloc v2 (.cells #[.int .u64 u1, .int .u64 u2] 25) none))
          have P2a := Lib.hid (P2.out.alloc (.cells #[.int .u64 u1, .int .u64 u2] 25))
          have R2a := Lib.hid (Ob.fresh v2 #[.int .u64 u1, .int .u64 u2] 25)
          have L2 : Hid (B + 9 ≤ v2.heap.size) := K2.out.sz
          refine (draw_any (B + 4) (B + 3) a m q _ K2a.out.o3 K2a.out.o4 (by omega) HQ.out).mono ?_
          rintro e v3 ⟨rfl, g, o⟩
          have K3 := Lib.hid (K2a.out.up4 g o)
          have P3 : Hid (Ob v3 v1.heap.size [.int .u64 u1, .int .u64 u2]) := P2a.out.kept g (by have := L1.out; simp; omega)
          have R3 : Hid (Ob v3 v2.heap.size [.int .u64 u1, .int .u64 u2]) := R2a.out.kept g (by have := L2.out; simp; omega)
          have L3 : Hid (B + 9 ≤ v3.heap.size) := K3.out.sz
          clear g o K2 K2a P2 P2a R2a
          have PL := Lib.hid (pDraw_le a m q HQ.out)
          obtain ⟨⟨p1, p2, p3, p4⟩, hpd⟩ : ∃ pd, pDraw a m q = pd := ⟨_, rfl⟩
          rw [hpd] at PL K3 ⊢
          have HPD := Lib.hid hpd
          clear hpd
          simp only at PL K3 ⊢
          go_wp2_with fail
          have K3a := Lib.hid (K3.out.grow (World.grownBy_alloc v3 (.cells #[.int .u64 (p1 : Nat), .int .u64 (p2 : Nat)] 25) none))
          have P3a := Lib.hid (P3.out.alloc (.cells #[.int .u64 (p1 : Nat), .int .u64 (p2 : Nat)] 25))
          have R3a := Lib.hid (R3.out.alloc (.cells #[.int .u64 (p1 : Nat), .int .u64 (p2 : Nat)] 25))
          have S3a := Lib.hid (Ob.fresh v3 #[.int .u64 (p1 : Nat), .int .u64 (p2 : Nat)] 25)
          have F := draw_any (B + 8) (B + 7) a m q _ K3a.out.o7 K3a.out.o8 (by omega) HQ.out
          rw [HPD.out] at F
          refine F.mono ?_
          clear F
          rintro e v4 ⟨rfl, g, o⟩
          have K4 := Lib.hid (K3a.out.up8 g o)
          have P4 : Hid (Ob v4 v1.heap.size [.int .u64 u1, .int .u64 u2]) := P3a.out.kept g (by have := L1.out; simp; omega)
          have R4 : Hid (Ob v4 v2.heap.size [.int .u64 u1, .int .u64 u2]) := R3a.out.kept g (by have := L2.out; simp; omega)
          have S4 : Hid (Ob v4 v3.heap.size [.int .u64 (p1 : Nat), .int .u64 (p2 : Nat)]) := S3a.out.kept g (by have := L3.out; simp; omega)
          clear g o K3 K3a P3 P3a R3 R3a S3a
          have y0 := P4.out.cell 0 rfl
          have y1 := P4.out.cell 1 rfl
          have y2 := R4.out.cell 0 rfl
          have y3 := R4.out.cell 1 rfl
          have y4 := S4.out.cell 0 rfl
          have y5 := S4.out.cell 1 rfl
          have x0 := P4.out.lt (by simp)
          have x1 := R4.out.lt (by simp)
          have x2 := S4.out.lt (by simp)
          have e1 := E1.out
          go_wp2
          go_roundw
          case rel => exact ⟨k + 1, by omega, by go_num, _, _, a, p4, aq, mq, nq, PL.out, HNQ.out, HAQ.out, by rw [hB]; exact K4.out.grow (World.grownBy_alloc v4 _ none)⟩
          case measure => simp [intOf]; omega
      · have hx2 : ¬ (k : Int) < 2000 := by omega
        obtain ⟨sx, sy, m, q, aq, mq, nq, hq, hnq, haq, h9⟩ := HR.out
        rw [hB] at h9
        have H9 := Lib.hid h9
        clear HR hq hnq haq h9
        go_wp2_with fail
        refine (now_any (B + 3) (a : Nat) wr (H9.out.o3.cell 0 rfl)).mono ?_
        rintro e w' ⟨rfl, rfl⟩
        go_wp2_with fail
        refine (works_any wr).mono ?_
        rintro e w' ⟨rfl, hw⟩
        have HW := Lib.hid (H9.out.bel.trans (hw.mono (by have := H9.out.sz; omega)))
        clear hw H9
        go_wp2
        go_returns
        exact ⟨rfl, HW.out⟩
    · obtain rfl : k = n := by omega
      obtain ⟨sx, sy, m, q, aq, mq, nq, hq, hnq, haq, h9⟩ := HR.out
      rw [hB] at h9
      have H9 := Lib.hid h9
      clear HR hq hnq haq h9
      go_wp2_with fail
      refine (now_any (B + 3) (a : Nat) wr (H9.out.o3.cell 0 rfl)).mono ?_
      rintro e w' ⟨rfl, rfl⟩
      go_wp2_with fail
      refine (works_any wr).mono ?_
      rintro e w' ⟨rfl, hw⟩
      have HW := Lib.hid (H9.out.bel.trans (hw.mono (by have := H9.out.sz; omega)))
      clear hw H9
      go_wp2
      go_returns
      exact ⟨rfl, HW.out⟩
end Go.Proofs.Ytgbjfmokfkdglaa
