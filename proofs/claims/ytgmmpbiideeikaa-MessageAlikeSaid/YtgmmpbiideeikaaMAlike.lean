/-
  amnesia/message.Alike: are two messages one? (printed by gen_malike.py).
-/
import Derived.Test.YtgmmpbiideeikaaMEqual
import Derived.Test.YtgmmpbiideeikaaMOpen
set_option linter.unusedVariables false
set_option linter.unusedSimpArgs false
namespace Go.Proofs.Ytgmmpbiideeikaa
open Go.RowKit

/-- of two messages as they read: are they one? -/
def AlikeOut (x y : Ms) (w : World) (e : Ending) (w' : World) : Prop := (∃ b, e = .returned (.bool b) ∧ (b = true ↔ x = y)) ∧ Below w.heap.size w w'
theorem below_two (w : World) (a b : Obj) (q : Nat) : Below w.heap.size w (((w.alloc a).alloc b).drewN q) :=
  Below.drewN (((Below.refl _ w).alloc (Nat.le_refl _) a).alloc (by show w.heap.size ≤ (w.alloc a).heap.size; simp) b) q
theorem below_two0 (w : World) (a b : Obj) : Below w.heap.size w ((w.alloc a).alloc b) := ((Below.refl _ w).alloc (Nat.le_refl _) a).alloc (by show w.heap.size ≤ (w.alloc a).heap.size; simp) b
theorem alikeNo {x y : Ms} {w w' : World} (h : ¬ x = y) (hb : Below w.heap.size w w') : AlikeOut x y w (.returned (.bool false)) w' := ⟨⟨false, rfl, by simp [h]⟩, hb⟩
theorem alikeIs {x y : Ms} {w w' : World} {b : Bool} (h : b = true ↔ x = y) (hb : Below w.heap.size w w') : AlikeOut x y w (.returned (.bool b)) w' := ⟨⟨b, rfl, h⟩, hb⟩
set_option maxHeartbeats 8000000 in
set_option maxRecDepth 100000 in
theorem alike_any (x y : Mp) (w : World) (hx : x.Rd w) (hy : y.Rd w) : Calls Try.prog 6 #[x.agg, y.agg] w (AlikeOut x.m y.m w) := by
  obtain ⟨hx1, hx2⟩ := hx
  obtain ⟨hy1, hy2⟩ := hy
  have HX := Lib.hid hx1
  have HXV := Lib.hid hx2
  have HY := Lib.hid hy1
  have HYV := Lib.hid hy2
  clear hx1 hx2 hy1 hy2
  obtain ⟨⟨x0, x1, x2, ⟨x3, x4, x5, x6, x7⟩, x8, x9, x10, x11, x12, x13, x14, x15, xg, xv⟩, A, n, c, B, k, d⟩ := x
  obtain ⟨⟨y0, y1, y2, ⟨y3, y4, y5, y6, y7⟩, y8, y9, y10, y11, y12, y13, y14, y15, yg, yv⟩, A', n', c', B', k', d'⟩ := y
  simp only at HX HXV HY HYV
  by_cases q0 : x0 = y0
  case neg =>
    have hb : (x0 == y0) = false := beq_eq_false_iff_ne.2 q0
    have NO : Hid (¬ x0 = y0) := q0
    clear q0
    go_enter Try.func6, Try.ntmps6
    go_wp2_with fail
    go_ret
    exact alikeNo (fun h => NO.out (congrArg (Ms.kd) h)) (below_two0 _ _ _)
  subst q0
  by_cases q1 : x1 = y1
  case neg =>
    have hb : (x1 == y1) = false := beq_eq_false_iff_ne.2 q1
    have NO : Hid (¬ x1 = y1) := q1
    clear q1
    go_enter Try.func6, Try.ntmps6
    go_wp2_with fail
    go_ret
    exact alikeNo (fun h => NO.out (congrArg (Ms.nd) h)) (below_two0 _ _ _)
  subst q1
  by_cases q2 : x2 = y2
  case neg =>
    have hb : (x2 == y2) = false := beq_eq_false_iff_ne.2 q2
    have NO : Hid (¬ x2 = y2) := q2
    clear q2
    go_enter Try.func6, Try.ntmps6
    go_wp2_with fail
    go_ret
    exact alikeNo (fun h => NO.out (congrArg (Ms.vw) h)) (below_two0 _ _ _)
  subst q2
  by_cases q3 : x3 = y3
  case neg =>
    have hb : (x3 == y3) = false := beq_eq_false_iff_ne.2 q3
    have NO : Hid (¬ x3 = y3) := q3
    clear q3
    go_enter Try.func6, Try.ntmps6
    go_wp2_with fail
    go_ret
    exact alikeNo (fun h => NO.out (congrArg (fun z : Ms => z.en.c) h)) (below_two0 _ _ _)
  subst q3
  by_cases q4 : x4 = y4
  case neg =>
    have hb : (x4 == y4) = false := beq_eq_false_iff_ne.2 q4
    have NO : Hid (¬ x4 = y4) := q4
    clear q4
    go_enter Try.func6, Try.ntmps6
    go_wp2_with fail
    go_ret
    exact alikeNo (fun h => NO.out (congrArg (fun z : Ms => z.en.n) h)) (below_two0 _ _ _)
  subst q4
  by_cases q5 : x5 = y5
  case neg =>
    have hb : (x5 == y5) = false := beq_eq_false_iff_ne.2 q5
    have NO : Hid (¬ x5 = y5) := q5
    clear q5
    go_enter Try.func6, Try.ntmps6
    go_wp2_with fail
    go_ret
    exact alikeNo (fun h => NO.out (congrArg (fun z : Ms => z.en.kd) h)) (below_two0 _ _ _)
  subst q5
  by_cases q6 : x6 = y6
  case neg =>
    have hb : (x6 == y6) = false := beq_eq_false_iff_ne.2 q6
    have NO : Hid (¬ x6 = y6) := q6
    clear q6
    go_enter Try.func6, Try.ntmps6
    go_wp2_with fail
    go_ret
    exact alikeNo (fun h => NO.out (congrArg (fun z : Ms => z.en.sl) h)) (below_two0 _ _ _)
  subst q6
  by_cases q7 : x7 = y7
  case neg =>
    have hb : (x7.toList == y7.toList) = false := ba_ne q7
    have NO : Hid (¬ x7 = y7) := q7
    clear q7
    go_enter Try.func6, Try.ntmps6
    go_wp2_with fail
    go_ret
    exact alikeNo (fun h => NO.out (congrArg (fun z : Ms => z.en.v) h)) (below_two0 _ _ _)
  subst q7
  by_cases q8 : x8 = y8
  case neg =>
    have hb : (x8 == y8) = false := beq_eq_false_iff_ne.2 q8
    have NO : Hid (¬ x8 = y8) := q8
    clear q8
    go_enter Try.func6, Try.ntmps6
    go_wp2_with fail
    go_ret
    exact alikeNo (fun h => NO.out (congrArg (Ms.rc) h)) (below_two0 _ _ _)
  subst q8
  by_cases q9 : x9 = y9
  case neg =>
    have hb : (x9 == y9) = false := beq_eq_false_iff_ne.2 q9
    have NO : Hid (¬ x9 = y9) := q9
    clear q9
    go_enter Try.func6, Try.ntmps6
    go_wp2_with fail
    go_ret
    exact alikeNo (fun h => NO.out (congrArg (Ms.rs) h)) (below_two0 _ _ _)
  subst q9
  by_cases q10 : x10 = y10
  case neg =>
    have hb : (x10.toList == y10.toList) = false := ba_ne q10
    have NO : Hid (¬ x10 = y10) := q10
    clear q10
    go_enter Try.func6, Try.ntmps6
    go_wp2_with fail
    go_ret
    exact alikeNo (fun h => NO.out (congrArg (Ms.rv) h)) (below_two0 _ _ _)
  subst q10
  by_cases q11 : x11 = y11
  case neg =>
    have hb : (x11 == y11) = false := beq_eq_false_iff_ne.2 q11
    have NO : Hid (¬ x11 = y11) := q11
    clear q11
    go_enter Try.func6, Try.ntmps6
    go_wp2_with fail
    go_ret
    exact alikeNo (fun h => NO.out (congrArg (Ms.pl) h)) (below_two0 _ _ _)
  subst q11
  by_cases q12 : x12 = y12
  case neg =>
    have hb : (x12 == y12) = false := beq_eq_false_iff_ne.2 q12
    have NO : Hid (¬ x12 = y12) := q12
    clear q12
    go_enter Try.func6, Try.ntmps6
    go_wp2_with fail
    go_ret
    exact alikeNo (fun h => NO.out (congrArg (Ms.cm) h)) (below_two0 _ _ _)
  subst q12
  by_cases q13 : x13 = y13
  case neg =>
    have hb : (x13 == y13) = false := beq_eq_false_iff_ne.2 q13
    have NO : Hid (¬ x13 = y13) := q13
    clear q13
    go_enter Try.func6, Try.ntmps6
    go_wp2_with fail
    go_ret
    exact alikeNo (fun h => NO.out (congrArg (Ms.la) h)) (below_two0 _ _ _)
  subst q13
  by_cases q14 : x14 = y14
  case neg =>
    have hb : (((x14 : Nat) : Int) == ((y14 : Nat) : Int)) = false := beq_eq_false_iff_ne.2 (fun e => q14 (by exact_mod_cast e))
    have NO : Hid (¬ x14 = y14) := q14
    clear q14
    go_enter Try.func6, Try.ntmps6
    go_wp2_with fail
    go_ret
    exact alikeNo (fun h => NO.out (congrArg (Ms.h) h)) (below_two0 _ _ _)
  subst q14
  by_cases q15 : x15 = y15
  case neg =>
    have hb : (((x15 : Nat) : Int) == ((y15 : Nat) : Int)) = false := beq_eq_false_iff_ne.2 (fun e => q15 (by exact_mod_cast e))
    have NO : Hid (¬ x15 = y15) := q15
    clear q15
    go_enter Try.func6, Try.ntmps6
    go_wp2_with fail
    go_ret
    exact alikeNo (fun h => NO.out (congrArg (Ms.l) h)) (below_two0 _ _ _)
  subst q15
  go_enter Try.func6, Try.ntmps6
  go_wp2_with fail
  refine (equalE_any A A' n n' c c' xg yg _ (HX.out.below (below_two0 w _ _)) (HY.out.below (below_two0 w _ _))).mono ?_
  rintro e w1 ⟨⟨b1, rfl, hb1⟩, q1, hw1⟩
  have W1 := Lib.hid hw1
  have HB1 := Lib.hid hb1
  clear hb1
  subst hw1
  cases b1
  · go_wp2_with fail
    go_ret
    exact alikeNo (fun h => absurd (HB1.out.2 (congrArg Ms.lg h)) (by decide)) (below_two _ _ _ _)
  · go_wp2_with fail
    refine (equalD_any B B' k k' d d' xv yv _ (HXV.out.below (below_two w _ _ q1)) (HYV.out.below (below_two w _ _ q1))).mono ?_
    rintro e w2 ⟨⟨b2, rfl, hb2⟩, q2, rfl⟩
    have HB2 := Lib.hid hb2
    clear hb2
    go_wp2_with fail
    go_ret
    refine alikeIs ?_ (below_two _ _ _ _)
    have h1 := HB1.out.1 (by trivial)
    rw [HB2.out]
    exact ⟨fun h => by rw [h1, h], fun h => congrArg Ms.vc h⟩
end Go.Proofs.Ytgmmpbiideeikaa
