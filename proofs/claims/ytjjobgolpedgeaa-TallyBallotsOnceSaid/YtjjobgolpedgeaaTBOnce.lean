/-
  The walk of TallyBallotsOnce.
-/
import Derived.Test.YtjjobgolpedgeaaTBOnceP
import Derived.Test.YtjjobgolpedgeaaTSmall
import Derived.Test.YtjjobgolpedgeaaTWorks
import Derived.Test.YtjjobgolpedgeaaTOpen3
set_option linter.unusedVariables false
set_option linter.unusedSimpArgs false
namespace Go.Proofs.Ytjjobgolpedgeaa
open Go.RowKit

/-- the best of the two, in a block -/
def BestAt (w0 w : World) (r : Nat) (z : Lt) : Prop := ∃ (E : Option Addr) (k : Nat), Ob w r [.int .i64 z.n, .int .u64 (z.h : Nat), .int .u64 (z.l : Nat), .int .i64 z.v, .int .i64 z.c, .slice E z.log.length k] ∧ OkL w0 E k z.log ∧ Below w0.heap.size w0 w
set_option maxRecDepth 100000 in
set_option maxHeartbeats 6400000 in
theorem tallyBallotsOnce_walk (pa pb : Pt) (A : Option Addr) (n c : Nat) (I : List Pt) (W : World) (ha : pa.Ok W) (sa : pa.Sm) (hb : pb.Ok W) (sb : pb.Sm) (h : RdC 6 Pt.cells W A n I) (ok : ∀ x ∈ I, x.Ok W) (hsm : n * 64 ≤ 140737488351232 ∧ ∀ x ∈ I, x.Sm) :
    Calls Try.prog 6 #[pa.1.agg pa.2.1 pa.2.2, pb.1.agg pb.2.1 pb.2.2, .slice A n c] W fun e w' => e = .returned (.bool true) ∧ Below W.heap.size W w' := by
  have HI := Lib.hid (rdV_of h ok hsm.2)
  have HIL : Hid ((I.map (·.1)).length = n) := by rw [List.length_map]; exact h.len
  have hnb : (n : Int) ≤ 6000000000000 := by have := hsm.1; omega
  have HSM := Lib.hid hsm.1
  have LA := Lib.hid (ha.okL sa)
  have LB := Lib.hid (hb.okL sb)
  generalize I.map (·.1) = J at HI HIL
  obtain ⟨a, C, kc⟩ := pa
  obtain ⟨b, D, kd⟩ := pb
  simp only at LA LB
  clear h ok hsm ha hb sa sb
  go_enter Try.func6, Try.ntmps6
  go_wp2_with fail
  have OA := Lib.hid ((Ob.fresh W #[.int .i64 a.n, .int .u64 (a.h : Nat), .int .u64 (a.l : Nat), .int .i64 a.v, .int .i64 a.c, .slice C a.log.length kc] 53).alloc (.cells #[.int .i64 b.n, .int .u64 (b.h : Nat), .int .u64 (b.l : Nat), .int .i64 b.v, .int .i64 b.c, .slice D b.log.length kd] 53))
  have OB : Hid (Ob ((W.alloc (.cells #[.int .i64 a.n, .int .u64 (a.h : Nat), .int .u64 (a.l : Nat), .int .i64 a.v, .int .i64 a.c, .slice C a.log.length kc] 53)).alloc (.cells #[.int .i64 b.n, .int .u64 (b.h : Nat), .int .u64 (b.l : Nat), .int .i64 b.v, .int .i64 b.c, .slice D b.log.length kd] 53)) (W.heap.size + 1) [.int .i64 b.n, .int .u64 (b.h : Nat), .int .u64 (b.l : Nat), .int .i64 b.v, .int .i64 b.c, .slice D b.log.length kd]) := by
    have h := Ob.fresh (W.alloc (.cells #[.int .i64 a.n, .int .u64 (a.h : Nat), .int .u64 (a.l : Nat), .int .i64 a.v, .int .i64 a.c, .slice C a.log.length kc] 53)) #[.int .i64 b.n, .int .u64 (b.h : Nat), .int .u64 (b.l : Nat), .int .i64 b.v, .int .i64 b.c, .slice D b.log.length kd] 53
    rw [World.size_alloc] at h
    exact h
  have BW : Hid (Below W.heap.size W ((W.alloc (.cells #[.int .i64 a.n, .int .u64 (a.h : Nat), .int .u64 (a.l : Nat), .int .i64 a.v, .int .i64 a.c, .slice C a.log.length kc] 53)).alloc (.cells #[.int .i64 b.n, .int .u64 (b.h : Nat), .int .u64 (b.l : Nat), .int .i64 b.v, .int .i64 b.c, .slice D b.log.length kd] 53))) := (below_alloc _ _).alloc (by simp) _
  have H0 : Hid (Below W.heap.size W ((W.alloc (.cells #[.int .i64 a.n, .int .u64 (a.h : Nat), .int .u64 (a.l : Nat), .int .i64 a.v, .int .i64 a.c, .slice C a.log.length kc] 53)).alloc (.cells #[.int .i64 b.n, .int .u64 (b.h : Nat), .int .u64 (b.l : Nat), .int .i64 b.v, .int .i64 b.c, .slice D b.log.length kd] 53))) := BW
  generalize (W.alloc (.cells #[.int .i64 a.n, .int .u64 (a.h : Nat), .int .u64 (a.l : Nat), .int .i64 a.v, .int .i64 a.c, .slice C a.log.length kc] 53)).alloc (.cells #[.int .i64 b.n, .int .u64 (b.h : Nat), .int .u64 (b.l : Nat), .int .i64 b.v, .int .i64 b.c, .slice D b.log.length kd] 53) = w2 at OA OB BW H0 ⊢
  obtain ⟨ra, hra⟩ : ∃ r, W.heap.size = r := ⟨_, rfl⟩
  rw [hra] at OA OB ⊢
  obtain ⟨rb, hrb⟩ : ∃ r, ra + 1 = r := ⟨_, rfl⟩
  rw [hrb] at OB ⊢
  have HNE : Hid (ra ≠ rb) := by simp only [Hid]; omega
  have HRB : Hid (W.heap.size ≤ rb) := by simp only [Hid]; omega
  clear hra hrb H0
  refine (works_any _).mono ?_
  rintro e w3 ⟨rfl, hb3⟩
  have H3 := Lib.hid hb3
  clear hb3
  replace OA := Lib.hid (OA.out.below H3.out)
  replace OB := Lib.hid (OB.out.below H3.out)
  replace BW := Lib.hid (BW.out.trans (H3.out.mono BW.out.size))
  clear H3
  have z1 := OA.out.lt (by simp)
  have z2 := OB.out.lt (by simp)
  obtain ⟨p0, p1, p2, p3, p4, p5⟩ := OA.out.all6
  obtain ⟨q0, q1, q2, q3, q4, q5⟩ := OB.out.all6
  obtain ⟨s0, s1, s2, s3, s4, s5⟩ := OB.out.fro6
  go_upto_region 4 with fail
  clear p0 p1 p2 p3 p4 p5 q0 q1 q2 q3 q4 q5 s0 s1 s2 s3 s4 s5 z1 z2
  have OB4 : Hid (Ob (w3.setCell ⟨rb, 0, none⟩ (.int .i64 a.n)) rb [.int .i64 (b.at_ a.n).n, .int .u64 ((b.at_ a.n).h : Nat), .int .u64 ((b.at_ a.n).l : Nat), .int .i64 (b.at_ a.n).v, .int .i64 (b.at_ a.n).c, .slice D (b.at_ a.n).log.length kd]) := OB.out.set 0 (by simp) (.int .i64 a.n)
  have OA4 := Lib.hid (OA.out.setOther (a := ⟨rb, 0, none⟩) (.int .i64 a.n) HNE.out)
  have BW4 : Hid (Below W.heap.size W (w3.setCell ⟨rb, 0, none⟩ (.int .i64 a.n))) := BW.out.setCell HRB.out _
  replace OA := OA4
  replace OB := OB4
  replace BW := BW4
  clear OA4 OB4 BW4 HRB HNE
  generalize w3.setCell ⟨rb, 0, none⟩ (.int .i64 a.n) = w4 at OA OB BW ⊢
  replace HI := Lib.hid (HI.out.below BW.out)
  replace LA := Lib.hid (LA.out.below BW.out)
  replace LB : Hid (OkL w4 D kd (b.at_ a.n).log) := LB.out.below BW.out
  have HN : Hid (a.n = (b.at_ a.n).n) := rfl
  obtain ⟨g, hg⟩ : ∃ g, b.at_ a.n = g := ⟨_, rfl⟩
  rw [hg] at OB LB HN
  clear hg
  have hla : (a.log.length : Int) ≤ 6000000000000 := by have := LA.out.small; omega
  have hlb : (g.log.length : Int) ≤ 6000000000000 := by have := LB.out.small; omega
  go_cut [51] (fun bv wx => ∃ (bb : Bool), bv = .bool bb ∧ Hid (bb = true ↔ KeyEq a g) ∧ w4 = wx)
  case first =>
    obtain ⟨p0, p1, p2, p3, p4, p5⟩ := OA.out.all6
    obtain ⟨q0, q1, q2, q3, q4, q5⟩ := OB.out.all6
    by_cases e1 : a.h = g.h
    case neg =>
      have hx : ((a.h : Int) == (g.h : Int)) = false := beq_eq_false_iff_ne.2 (by omega)
      have NO : Hid (¬ KeyEq a g) := fun h => e1 h.1
      clear e1
      as_aux_lemma =>
        go_wp2_with fail
        go_meet
        exact ⟨false, rfl, ⟨(fun h => by cases h), (fun h => absurd h NO.out)⟩, rfl⟩
    by_cases e2 : a.l = g.l
    case neg =>
      have hx : ((a.l : Int) == (g.l : Int)) = false := beq_eq_false_iff_ne.2 (by omega)
      have NO : Hid (¬ KeyEq a g) := fun h => e2 h.2.1
      clear e2
      as_aux_lemma =>
        go_wp2_with fail
        go_meet
        exact ⟨false, rfl, ⟨(fun h => by cases h), (fun h => absurd h NO.out)⟩, rfl⟩
    by_cases e3 : a.v = g.v
    case neg =>
      have hx : (a.v == g.v) = false := beq_eq_false_iff_ne.2 e3
      have NO : Hid (¬ KeyEq a g) := fun h => e3 h.2.2.1
      clear e3
      as_aux_lemma =>
        go_wp2_with fail
        go_meet
        exact ⟨false, rfl, ⟨(fun h => by cases h), (fun h => absurd h NO.out)⟩, rfl⟩
    by_cases e4 : a.log.length = g.log.length
    case neg =>
      have hx : ((a.log.length : Int) == (g.log.length : Int)) = false := beq_eq_false_iff_ne.2 (by omega)
      have NO : Hid (¬ KeyEq a g) := fun h => e4 h.2.2.2.1
      clear e4
      as_aux_lemma =>
        go_wp2_with fail
        go_meet
        exact ⟨false, rfl, ⟨(fun h => by cases h), (fun h => absurd h NO.out)⟩, rfl⟩
    by_cases e5 : a.c = g.c
    case neg =>
      have hx : (a.c == g.c) = false := beq_eq_false_iff_ne.2 e5
      have NO : Hid (¬ KeyEq a g) := fun h => e5 h.2.2.2.2
      clear e5
      as_aux_lemma =>
        go_wp2_with fail
        go_meet
        exact ⟨false, rfl, ⟨(fun h => by cases h), (fun h => absurd h NO.out)⟩, rfl⟩
    have YES : Hid (KeyEq a g) := ⟨e1, e2, e3, e4, e5⟩
    as_aux_lemma =>
      go_wp2_with fail
      go_meet
      exact ⟨true, rfl, ⟨fun _ => YES.out, fun _ => rfl⟩, rfl⟩
  case rest =>
    obtain ⟨bb, rfl, HK, rfl⟩ := hcut
    cases bb with
    | true =>
      have KE := Lib.hid (best_same (HK.out.1 rfl))
      clear HK
      have SXP : Hid (∀ y, Below w4.heap.size w4 y → ((y.cell? ⟨ra, 0, none⟩ = some (.int .i64 a.n) ∧ y.cell? ⟨ra, 1, none⟩ = some (.int .u64 (a.h : Nat)) ∧ y.cell? ⟨ra, 2, none⟩ = some (.int .u64 (a.l : Nat)) ∧ y.cell? ⟨ra, 3, none⟩ = some (.int .i64 a.v) ∧ y.cell? ⟨ra, 4, none⟩ = some (.int .i64 a.c) ∧ y.cell? ⟨ra, 5, none⟩ = some (.slice C a.log.length kc)) ∧ (y.cell? ⟨rb, 0, none⟩ = some (.int .i64 g.n) ∧ y.cell? ⟨rb, 1, none⟩ = some (.int .u64 (g.h : Nat)) ∧ y.cell? ⟨rb, 2, none⟩ = some (.int .u64 (g.l : Nat)) ∧ y.cell? ⟨rb, 3, none⟩ = some (.int .i64 g.v) ∧ y.cell? ⟨rb, 4, none⟩ = some (.int .i64 g.c) ∧ y.cell? ⟨rb, 5, none⟩ = some (.slice D g.log.length kd)) ∧ Below w4.heap.size w4 y)) := fun y hb => ⟨(OA.out.below hb).all6, (OB.out.below hb).all6, hb⟩
      have F1P : Hid (∀ y, ((y.cell? ⟨ra, 0, none⟩ = some (.int .i64 a.n) ∧ y.cell? ⟨ra, 1, none⟩ = some (.int .u64 (a.h : Nat)) ∧ y.cell? ⟨ra, 2, none⟩ = some (.int .u64 (a.l : Nat)) ∧ y.cell? ⟨ra, 3, none⟩ = some (.int .i64 a.v) ∧ y.cell? ⟨ra, 4, none⟩ = some (.int .i64 a.c) ∧ y.cell? ⟨ra, 5, none⟩ = some (.slice C a.log.length kc)) ∧ (y.cell? ⟨rb, 0, none⟩ = some (.int .i64 g.n) ∧ y.cell? ⟨rb, 1, none⟩ = some (.int .u64 (g.h : Nat)) ∧ y.cell? ⟨rb, 2, none⟩ = some (.int .u64 (g.l : Nat)) ∧ y.cell? ⟨rb, 3, none⟩ = some (.int .i64 g.v) ∧ y.cell? ⟨rb, 4, none⟩ = some (.int .i64 g.c) ∧ y.cell? ⟨rb, 5, none⟩ = some (.slice D g.log.length kd)) ∧ Below w4.heap.size w4 y) → Calls Try.prog 28 #[.slice none 0 0, a.agg C kc] y fun e y' => RetW y [a] e y' ∧ ((y'.cell? ⟨ra, 0, none⟩ = some (.int .i64 a.n) ∧ y'.cell? ⟨ra, 1, none⟩ = some (.int .u64 (a.h : Nat)) ∧ y'.cell? ⟨ra, 2, none⟩ = some (.int .u64 (a.l : Nat)) ∧ y'.cell? ⟨ra, 3, none⟩ = some (.int .i64 a.v) ∧ y'.cell? ⟨ra, 4, none⟩ = some (.int .i64 a.c) ∧ y'.cell? ⟨ra, 5, none⟩ = some (.slice C a.log.length kc)) ∧ (y'.cell? ⟨rb, 0, none⟩ = some (.int .i64 g.n) ∧ y'.cell? ⟨rb, 1, none⟩ = some (.int .u64 (g.h : Nat)) ∧ y'.cell? ⟨rb, 2, none⟩ = some (.int .u64 (g.l : Nat)) ∧ y'.cell? ⟨rb, 3, none⟩ = some (.int .i64 g.v) ∧ y'.cell? ⟨rb, 4, none⟩ = some (.int .i64 g.c) ∧ y'.cell? ⟨rb, 5, none⟩ = some (.slice D g.log.length kd)) ∧ Below w4.heap.size w4 y')) := fun y hy =>
        (putBallot_w none 0 0 [] a C kc y (RdV.nil _ _) (LA.out.below hy.2.2) (by omega)).mono fun e y' h => ⟨h, SXP.out _ (hy.2.2.trans (h.choose_spec.choose_spec.2.2.1.mono hy.2.2.size))⟩
      have F2P : Hid (∀ y A c, ((y.cell? ⟨ra, 0, none⟩ = some (.int .i64 a.n) ∧ y.cell? ⟨ra, 1, none⟩ = some (.int .u64 (a.h : Nat)) ∧ y.cell? ⟨ra, 2, none⟩ = some (.int .u64 (a.l : Nat)) ∧ y.cell? ⟨ra, 3, none⟩ = some (.int .i64 a.v) ∧ y.cell? ⟨ra, 4, none⟩ = some (.int .i64 a.c) ∧ y.cell? ⟨ra, 5, none⟩ = some (.slice C a.log.length kc)) ∧ (y.cell? ⟨rb, 0, none⟩ = some (.int .i64 g.n) ∧ y.cell? ⟨rb, 1, none⟩ = some (.int .u64 (g.h : Nat)) ∧ y.cell? ⟨rb, 2, none⟩ = some (.int .u64 (g.l : Nat)) ∧ y.cell? ⟨rb, 3, none⟩ = some (.int .i64 g.v) ∧ y.cell? ⟨rb, 4, none⟩ = some (.int .i64 g.c) ∧ y.cell? ⟨rb, 5, none⟩ = some (.slice D g.log.length kd)) ∧ Below w4.heap.size w4 y) → RdV y A 1 [a] → Calls Try.prog 28 #[.slice A 1 c, g.agg D kd] y fun e y' => RetW y [bestL a g] e y' ∧ ((y'.cell? ⟨ra, 0, none⟩ = some (.int .i64 a.n) ∧ y'.cell? ⟨ra, 1, none⟩ = some (.int .u64 (a.h : Nat)) ∧ y'.cell? ⟨ra, 2, none⟩ = some (.int .u64 (a.l : Nat)) ∧ y'.cell? ⟨ra, 3, none⟩ = some (.int .i64 a.v) ∧ y'.cell? ⟨ra, 4, none⟩ = some (.int .i64 a.c) ∧ y'.cell? ⟨ra, 5, none⟩ = some (.slice C a.log.length kc)) ∧ (y'.cell? ⟨rb, 0, none⟩ = some (.int .i64 g.n) ∧ y'.cell? ⟨rb, 1, none⟩ = some (.int .u64 (g.h : Nat)) ∧ y'.cell? ⟨rb, 2, none⟩ = some (.int .u64 (g.l : Nat)) ∧ y'.cell? ⟨rb, 3, none⟩ = some (.int .i64 g.v) ∧ y'.cell? ⟨rb, 4, none⟩ = some (.int .i64 g.c) ∧ y'.cell? ⟨rb, 5, none⟩ = some (.slice D g.log.length kd)) ∧ Below w4.heap.size w4 y')) := fun y A c hy hr =>
        (putBallot_w A 1 c [a] g D kd y hr (LB.out.below hy.2.2) (by omega)).mono fun e y' h => by
          rw [put_two (a := a) (b := g) HN.out] at h
          exact ⟨h, SXP.out _ (hy.2.2.trans (h.choose_spec.choose_spec.2.2.1.mono hy.2.2.size))⟩
      obtain ⟨⟨p0, p1, p2, p3, p4, p5⟩, ⟨q0, q1, q2, q3, q4, q5⟩, _⟩ := SXP.out _ (Below.refl _ _)
      go_upto_region 5 with fail
      go_region_held3 (fun y => ((y.cell? ⟨ra, 0, none⟩ = some (.int .i64 a.n) ∧ y.cell? ⟨ra, 1, none⟩ = some (.int .u64 (a.h : Nat)) ∧ y.cell? ⟨ra, 2, none⟩ = some (.int .u64 (a.l : Nat)) ∧ y.cell? ⟨ra, 3, none⟩ = some (.int .i64 a.v) ∧ y.cell? ⟨ra, 4, none⟩ = some (.int .i64 a.c) ∧ y.cell? ⟨ra, 5, none⟩ = some (.slice C a.log.length kc)) ∧ (y.cell? ⟨rb, 0, none⟩ = some (.int .i64 g.n) ∧ y.cell? ⟨rb, 1, none⟩ = some (.int .u64 (g.h : Nat)) ∧ y.cell? ⟨rb, 2, none⟩ = some (.int .u64 (g.l : Nat)) ∧ y.cell? ⟨rb, 3, none⟩ = some (.int .i64 g.v) ∧ y.cell? ⟨rb, 4, none⟩ = some (.int .i64 g.c) ∧ y.cell? ⟨rb, 5, none⟩ = some (.slice D g.log.length kd)) ∧ Below w4.heap.size w4 y)) (first | exact ⟨⟨p0, p1, p2, p3, p4, p5⟩, ⟨q0, q1, q2, q3, q4, q5⟩, Below.drew (Below.refl _ _)⟩ | assumption | go_keep)
        (first
         | (go_at_call 28; refine (F2P.out _ A1P c1P hx1P rv1P).mono ?_; rintro e x2P ⟨⟨A2P, c2P, rfl, hc2, hb2, rv2P⟩, hx2P⟩)
         | (go_at_call 28; refine (F1P.out _ (by first | assumption | (simp [*]))).mono ?_; rintro e x1P ⟨⟨A1P, c1P, rfl, hc1, hb1, rv1P⟩, hx1P⟩))
      have HP := Lib.hid hx2P.2.2
      have RP : Hid (RdV x2P A2P 1 [bestL a g]) := rv2P
      clear hx1P hx2P hb1 hb2 rv1P rv2P hc1 hc2 p0 p1 p2 p3 p4 p5 q0 q1 q2 q3 q4 q5 SXP F1P F2P
      replace OA := Lib.hid (OA.out.below HP.out)
      replace LA := Lib.hid (LA.out.below HP.out)
      replace BW := Lib.hid (BW.out.trans (HP.out.mono BW.out.size))
      obtain ⟨p0, p1, p2, p3, p4, p5⟩ := OA.out.all6
      go_wp2_with fail
      refine (sameBallots_any _ _ 1 _ _ [a] _ (by have h := RP.out.below (below_alloc x2P (.cells #[.int .i64 a.n, .int .u64 (a.h : Nat), .int .u64 (a.l : Nat), .int .i64 a.v, .int .i64 a.c, .slice C a.log.length kc] 53)); rw [KE.out] at h; exact h) (rdV_one LA.out _)).mono ?_
      rintro e x4 ⟨rfl, q, rfl⟩
      have BF := Lib.hid (Below.drewN (BW.out.alloc BW.out.size (.cells #[.int .i64 a.n, .int .u64 (a.h : Nat), .int .u64 (a.l : Nat), .int .i64 a.v, .int .i64 a.c, .slice C a.log.length kc] 53)) q)
      go_wp2_with fail
      go_ret
      exact ⟨rfl, BF.out⟩
    | false =>
      have KE := Lib.hid (best_comm (fun h => by have := HK.out.2 h; simp at this))
      have KN : Hid (¬ KeyEq a g) := fun h => by have := HK.out.2 h; simp at this
      clear HK
      have SXP : Hid (∀ y, Below w4.heap.size w4 y → ((y.cell? ⟨ra, 0, none⟩ = some (.int .i64 a.n) ∧ y.cell? ⟨ra, 1, none⟩ = some (.int .u64 (a.h : Nat)) ∧ y.cell? ⟨ra, 2, none⟩ = some (.int .u64 (a.l : Nat)) ∧ y.cell? ⟨ra, 3, none⟩ = some (.int .i64 a.v) ∧ y.cell? ⟨ra, 4, none⟩ = some (.int .i64 a.c) ∧ y.cell? ⟨ra, 5, none⟩ = some (.slice C a.log.length kc)) ∧ (y.cell? ⟨rb, 0, none⟩ = some (.int .i64 g.n) ∧ y.cell? ⟨rb, 1, none⟩ = some (.int .u64 (g.h : Nat)) ∧ y.cell? ⟨rb, 2, none⟩ = some (.int .u64 (g.l : Nat)) ∧ y.cell? ⟨rb, 3, none⟩ = some (.int .i64 g.v) ∧ y.cell? ⟨rb, 4, none⟩ = some (.int .i64 g.c) ∧ y.cell? ⟨rb, 5, none⟩ = some (.slice D g.log.length kd)) ∧ Below w4.heap.size w4 y)) := fun y hb => ⟨(OA.out.below hb).all6, (OB.out.below hb).all6, hb⟩
      have F1P : Hid (∀ y, ((y.cell? ⟨ra, 0, none⟩ = some (.int .i64 a.n) ∧ y.cell? ⟨ra, 1, none⟩ = some (.int .u64 (a.h : Nat)) ∧ y.cell? ⟨ra, 2, none⟩ = some (.int .u64 (a.l : Nat)) ∧ y.cell? ⟨ra, 3, none⟩ = some (.int .i64 a.v) ∧ y.cell? ⟨ra, 4, none⟩ = some (.int .i64 a.c) ∧ y.cell? ⟨ra, 5, none⟩ = some (.slice C a.log.length kc)) ∧ (y.cell? ⟨rb, 0, none⟩ = some (.int .i64 g.n) ∧ y.cell? ⟨rb, 1, none⟩ = some (.int .u64 (g.h : Nat)) ∧ y.cell? ⟨rb, 2, none⟩ = some (.int .u64 (g.l : Nat)) ∧ y.cell? ⟨rb, 3, none⟩ = some (.int .i64 g.v) ∧ y.cell? ⟨rb, 4, none⟩ = some (.int .i64 g.c) ∧ y.cell? ⟨rb, 5, none⟩ = some (.slice D g.log.length kd)) ∧ Below w4.heap.size w4 y) → Calls Try.prog 28 #[.slice none 0 0, a.agg C kc] y fun e y' => RetW y [a] e y' ∧ ((y'.cell? ⟨ra, 0, none⟩ = some (.int .i64 a.n) ∧ y'.cell? ⟨ra, 1, none⟩ = some (.int .u64 (a.h : Nat)) ∧ y'.cell? ⟨ra, 2, none⟩ = some (.int .u64 (a.l : Nat)) ∧ y'.cell? ⟨ra, 3, none⟩ = some (.int .i64 a.v) ∧ y'.cell? ⟨ra, 4, none⟩ = some (.int .i64 a.c) ∧ y'.cell? ⟨ra, 5, none⟩ = some (.slice C a.log.length kc)) ∧ (y'.cell? ⟨rb, 0, none⟩ = some (.int .i64 g.n) ∧ y'.cell? ⟨rb, 1, none⟩ = some (.int .u64 (g.h : Nat)) ∧ y'.cell? ⟨rb, 2, none⟩ = some (.int .u64 (g.l : Nat)) ∧ y'.cell? ⟨rb, 3, none⟩ = some (.int .i64 g.v) ∧ y'.cell? ⟨rb, 4, none⟩ = some (.int .i64 g.c) ∧ y'.cell? ⟨rb, 5, none⟩ = some (.slice D g.log.length kd)) ∧ Below w4.heap.size w4 y')) := fun y hy =>
        (putBallot_w none 0 0 [] a C kc y (RdV.nil _ _) (LA.out.below hy.2.2) (by omega)).mono fun e y' h => ⟨h, SXP.out _ (hy.2.2.trans (h.choose_spec.choose_spec.2.2.1.mono hy.2.2.size))⟩
      have F2P : Hid (∀ y A c, ((y.cell? ⟨ra, 0, none⟩ = some (.int .i64 a.n) ∧ y.cell? ⟨ra, 1, none⟩ = some (.int .u64 (a.h : Nat)) ∧ y.cell? ⟨ra, 2, none⟩ = some (.int .u64 (a.l : Nat)) ∧ y.cell? ⟨ra, 3, none⟩ = some (.int .i64 a.v) ∧ y.cell? ⟨ra, 4, none⟩ = some (.int .i64 a.c) ∧ y.cell? ⟨ra, 5, none⟩ = some (.slice C a.log.length kc)) ∧ (y.cell? ⟨rb, 0, none⟩ = some (.int .i64 g.n) ∧ y.cell? ⟨rb, 1, none⟩ = some (.int .u64 (g.h : Nat)) ∧ y.cell? ⟨rb, 2, none⟩ = some (.int .u64 (g.l : Nat)) ∧ y.cell? ⟨rb, 3, none⟩ = some (.int .i64 g.v) ∧ y.cell? ⟨rb, 4, none⟩ = some (.int .i64 g.c) ∧ y.cell? ⟨rb, 5, none⟩ = some (.slice D g.log.length kd)) ∧ Below w4.heap.size w4 y) → RdV y A 1 [a] → Calls Try.prog 28 #[.slice A 1 c, g.agg D kd] y fun e y' => RetW y [bestL a g] e y' ∧ ((y'.cell? ⟨ra, 0, none⟩ = some (.int .i64 a.n) ∧ y'.cell? ⟨ra, 1, none⟩ = some (.int .u64 (a.h : Nat)) ∧ y'.cell? ⟨ra, 2, none⟩ = some (.int .u64 (a.l : Nat)) ∧ y'.cell? ⟨ra, 3, none⟩ = some (.int .i64 a.v) ∧ y'.cell? ⟨ra, 4, none⟩ = some (.int .i64 a.c) ∧ y'.cell? ⟨ra, 5, none⟩ = some (.slice C a.log.length kc)) ∧ (y'.cell? ⟨rb, 0, none⟩ = some (.int .i64 g.n) ∧ y'.cell? ⟨rb, 1, none⟩ = some (.int .u64 (g.h : Nat)) ∧ y'.cell? ⟨rb, 2, none⟩ = some (.int .u64 (g.l : Nat)) ∧ y'.cell? ⟨rb, 3, none⟩ = some (.int .i64 g.v) ∧ y'.cell? ⟨rb, 4, none⟩ = some (.int .i64 g.c) ∧ y'.cell? ⟨rb, 5, none⟩ = some (.slice D g.log.length kd)) ∧ Below w4.heap.size w4 y')) := fun y A c hy hr =>
        (putBallot_w A 1 c [a] g D kd y hr (LB.out.below hy.2.2) (by omega)).mono fun e y' h => by
          rw [put_two (a := a) (b := g) HN.out] at h
          exact ⟨h, SXP.out _ (hy.2.2.trans (h.choose_spec.choose_spec.2.2.1.mono hy.2.2.size))⟩
      obtain ⟨⟨p0, p1, p2, p3, p4, p5⟩, ⟨q0, q1, q2, q3, q4, q5⟩, _⟩ := SXP.out _ (Below.refl _ _)
      go_upto_region 7 with fail
      go_region_held3 (fun y => ((y.cell? ⟨ra, 0, none⟩ = some (.int .i64 a.n) ∧ y.cell? ⟨ra, 1, none⟩ = some (.int .u64 (a.h : Nat)) ∧ y.cell? ⟨ra, 2, none⟩ = some (.int .u64 (a.l : Nat)) ∧ y.cell? ⟨ra, 3, none⟩ = some (.int .i64 a.v) ∧ y.cell? ⟨ra, 4, none⟩ = some (.int .i64 a.c) ∧ y.cell? ⟨ra, 5, none⟩ = some (.slice C a.log.length kc)) ∧ (y.cell? ⟨rb, 0, none⟩ = some (.int .i64 g.n) ∧ y.cell? ⟨rb, 1, none⟩ = some (.int .u64 (g.h : Nat)) ∧ y.cell? ⟨rb, 2, none⟩ = some (.int .u64 (g.l : Nat)) ∧ y.cell? ⟨rb, 3, none⟩ = some (.int .i64 g.v) ∧ y.cell? ⟨rb, 4, none⟩ = some (.int .i64 g.c) ∧ y.cell? ⟨rb, 5, none⟩ = some (.slice D g.log.length kd)) ∧ Below w4.heap.size w4 y)) (first | exact ⟨⟨p0, p1, p2, p3, p4, p5⟩, ⟨q0, q1, q2, q3, q4, q5⟩, Below.drew (Below.refl _ _)⟩ | assumption | go_keep)
        (first
         | (go_at_call 28; refine (F2P.out _ A1P c1P hx1P rv1P).mono ?_; rintro e x2P ⟨⟨A2P, c2P, rfl, hc2, hb2, rv2P⟩, hx2P⟩)
         | (go_at_call 28; refine (F1P.out _ (by first | assumption | (simp [*]))).mono ?_; rintro e x1P ⟨⟨A1P, c1P, rfl, hc1, hb1, rv1P⟩, hx1P⟩))
      have HP := Lib.hid hx2P.2.2
      have RP : Hid (RdV x2P A2P 1 [bestL a g]) := rv2P
      clear hx1P hx2P hb1 hb2 rv1P rv2P hc1 hc2 p0 p1 p2 p3 p4 p5 q0 q1 q2 q3 q4 q5 SXP F1P F2P
      replace OA := Lib.hid (OA.out.below HP.out)
      replace OB := Lib.hid (OB.out.below HP.out)
      replace LA := Lib.hid (LA.out.below HP.out)
      replace LB := Lib.hid (LB.out.below HP.out)
      replace HI := Lib.hid (HI.out.below HP.out)
      replace BW := Lib.hid (BW.out.trans (HP.out.mono BW.out.size))
      have SXQ : Hid (∀ y, Below x2P.heap.size x2P y → ((y.cell? ⟨rb, 0, none⟩ = some (.int .i64 g.n) ∧ y.cell? ⟨rb, 1, none⟩ = some (.int .u64 (g.h : Nat)) ∧ y.cell? ⟨rb, 2, none⟩ = some (.int .u64 (g.l : Nat)) ∧ y.cell? ⟨rb, 3, none⟩ = some (.int .i64 g.v) ∧ y.cell? ⟨rb, 4, none⟩ = some (.int .i64 g.c) ∧ y.cell? ⟨rb, 5, none⟩ = some (.slice D g.log.length kd)) ∧ (y.cell? ⟨ra, 0, none⟩ = some (.int .i64 a.n) ∧ y.cell? ⟨ra, 1, none⟩ = some (.int .u64 (a.h : Nat)) ∧ y.cell? ⟨ra, 2, none⟩ = some (.int .u64 (a.l : Nat)) ∧ y.cell? ⟨ra, 3, none⟩ = some (.int .i64 a.v) ∧ y.cell? ⟨ra, 4, none⟩ = some (.int .i64 a.c) ∧ y.cell? ⟨ra, 5, none⟩ = some (.slice C a.log.length kc)) ∧ Below x2P.heap.size x2P y)) := fun y hb => ⟨(OB.out.below hb).all6, (OA.out.below hb).all6, hb⟩
      have F1Q : Hid (∀ y, ((y.cell? ⟨rb, 0, none⟩ = some (.int .i64 g.n) ∧ y.cell? ⟨rb, 1, none⟩ = some (.int .u64 (g.h : Nat)) ∧ y.cell? ⟨rb, 2, none⟩ = some (.int .u64 (g.l : Nat)) ∧ y.cell? ⟨rb, 3, none⟩ = some (.int .i64 g.v) ∧ y.cell? ⟨rb, 4, none⟩ = some (.int .i64 g.c) ∧ y.cell? ⟨rb, 5, none⟩ = some (.slice D g.log.length kd)) ∧ (y.cell? ⟨ra, 0, none⟩ = some (.int .i64 a.n) ∧ y.cell? ⟨ra, 1, none⟩ = some (.int .u64 (a.h : Nat)) ∧ y.cell? ⟨ra, 2, none⟩ = some (.int .u64 (a.l : Nat)) ∧ y.cell? ⟨ra, 3, none⟩ = some (.int .i64 a.v) ∧ y.cell? ⟨ra, 4, none⟩ = some (.int .i64 a.c) ∧ y.cell? ⟨ra, 5, none⟩ = some (.slice C a.log.length kc)) ∧ Below x2P.heap.size x2P y) → Calls Try.prog 28 #[.slice none 0 0, g.agg D kd] y fun e y' => RetW y [g] e y' ∧ ((y'.cell? ⟨rb, 0, none⟩ = some (.int .i64 g.n) ∧ y'.cell? ⟨rb, 1, none⟩ = some (.int .u64 (g.h : Nat)) ∧ y'.cell? ⟨rb, 2, none⟩ = some (.int .u64 (g.l : Nat)) ∧ y'.cell? ⟨rb, 3, none⟩ = some (.int .i64 g.v) ∧ y'.cell? ⟨rb, 4, none⟩ = some (.int .i64 g.c) ∧ y'.cell? ⟨rb, 5, none⟩ = some (.slice D g.log.length kd)) ∧ (y'.cell? ⟨ra, 0, none⟩ = some (.int .i64 a.n) ∧ y'.cell? ⟨ra, 1, none⟩ = some (.int .u64 (a.h : Nat)) ∧ y'.cell? ⟨ra, 2, none⟩ = some (.int .u64 (a.l : Nat)) ∧ y'.cell? ⟨ra, 3, none⟩ = some (.int .i64 a.v) ∧ y'.cell? ⟨ra, 4, none⟩ = some (.int .i64 a.c) ∧ y'.cell? ⟨ra, 5, none⟩ = some (.slice C a.log.length kc)) ∧ Below x2P.heap.size x2P y')) := fun y hy =>
        (putBallot_w none 0 0 [] g D kd y (RdV.nil _ _) (LB.out.below hy.2.2) (by omega)).mono fun e y' h => ⟨h, SXQ.out _ (hy.2.2.trans (h.choose_spec.choose_spec.2.2.1.mono hy.2.2.size))⟩
      have F2Q : Hid (∀ y A c, ((y.cell? ⟨rb, 0, none⟩ = some (.int .i64 g.n) ∧ y.cell? ⟨rb, 1, none⟩ = some (.int .u64 (g.h : Nat)) ∧ y.cell? ⟨rb, 2, none⟩ = some (.int .u64 (g.l : Nat)) ∧ y.cell? ⟨rb, 3, none⟩ = some (.int .i64 g.v) ∧ y.cell? ⟨rb, 4, none⟩ = some (.int .i64 g.c) ∧ y.cell? ⟨rb, 5, none⟩ = some (.slice D g.log.length kd)) ∧ (y.cell? ⟨ra, 0, none⟩ = some (.int .i64 a.n) ∧ y.cell? ⟨ra, 1, none⟩ = some (.int .u64 (a.h : Nat)) ∧ y.cell? ⟨ra, 2, none⟩ = some (.int .u64 (a.l : Nat)) ∧ y.cell? ⟨ra, 3, none⟩ = some (.int .i64 a.v) ∧ y.cell? ⟨ra, 4, none⟩ = some (.int .i64 a.c) ∧ y.cell? ⟨ra, 5, none⟩ = some (.slice C a.log.length kc)) ∧ Below x2P.heap.size x2P y) → RdV y A 1 [g] → Calls Try.prog 28 #[.slice A 1 c, a.agg C kc] y fun e y' => RetW y [bestL g a] e y' ∧ ((y'.cell? ⟨rb, 0, none⟩ = some (.int .i64 g.n) ∧ y'.cell? ⟨rb, 1, none⟩ = some (.int .u64 (g.h : Nat)) ∧ y'.cell? ⟨rb, 2, none⟩ = some (.int .u64 (g.l : Nat)) ∧ y'.cell? ⟨rb, 3, none⟩ = some (.int .i64 g.v) ∧ y'.cell? ⟨rb, 4, none⟩ = some (.int .i64 g.c) ∧ y'.cell? ⟨rb, 5, none⟩ = some (.slice D g.log.length kd)) ∧ (y'.cell? ⟨ra, 0, none⟩ = some (.int .i64 a.n) ∧ y'.cell? ⟨ra, 1, none⟩ = some (.int .u64 (a.h : Nat)) ∧ y'.cell? ⟨ra, 2, none⟩ = some (.int .u64 (a.l : Nat)) ∧ y'.cell? ⟨ra, 3, none⟩ = some (.int .i64 a.v) ∧ y'.cell? ⟨ra, 4, none⟩ = some (.int .i64 a.c) ∧ y'.cell? ⟨ra, 5, none⟩ = some (.slice C a.log.length kc)) ∧ Below x2P.heap.size x2P y')) := fun y A c hy hr =>
        (putBallot_w A 1 c [g] a C kc y hr (LA.out.below hy.2.2) (by omega)).mono fun e y' h => by
          rw [put_two (a := g) (b := a) HN.out.symm] at h
          exact ⟨h, SXQ.out _ (hy.2.2.trans (h.choose_spec.choose_spec.2.2.1.mono hy.2.2.size))⟩
      obtain ⟨⟨p0, p1, p2, p3, p4, p5⟩, ⟨q0, q1, q2, q3, q4, q5⟩, _⟩ := SXQ.out _ (Below.refl _ _)
      go_upto_region 8 with fail
      go_region_held3 (fun y => ((y.cell? ⟨rb, 0, none⟩ = some (.int .i64 g.n) ∧ y.cell? ⟨rb, 1, none⟩ = some (.int .u64 (g.h : Nat)) ∧ y.cell? ⟨rb, 2, none⟩ = some (.int .u64 (g.l : Nat)) ∧ y.cell? ⟨rb, 3, none⟩ = some (.int .i64 g.v) ∧ y.cell? ⟨rb, 4, none⟩ = some (.int .i64 g.c) ∧ y.cell? ⟨rb, 5, none⟩ = some (.slice D g.log.length kd)) ∧ (y.cell? ⟨ra, 0, none⟩ = some (.int .i64 a.n) ∧ y.cell? ⟨ra, 1, none⟩ = some (.int .u64 (a.h : Nat)) ∧ y.cell? ⟨ra, 2, none⟩ = some (.int .u64 (a.l : Nat)) ∧ y.cell? ⟨ra, 3, none⟩ = some (.int .i64 a.v) ∧ y.cell? ⟨ra, 4, none⟩ = some (.int .i64 a.c) ∧ y.cell? ⟨ra, 5, none⟩ = some (.slice C a.log.length kc)) ∧ Below x2P.heap.size x2P y)) (first | exact ⟨⟨p0, p1, p2, p3, p4, p5⟩, ⟨q0, q1, q2, q3, q4, q5⟩, Below.drew (Below.refl _ _)⟩ | assumption | go_keep)
        (first
         | (go_at_call 28; refine (F2Q.out _ A1Q c1Q hx1Q rv1Q).mono ?_; rintro e x2Q ⟨⟨A2Q, c2Q, rfl, hc2, hb2, rv2Q⟩, hx2Q⟩)
         | (go_at_call 28; refine (F1Q.out _ (by first | assumption | (simp [*]))).mono ?_; rintro e x1Q ⟨⟨A1Q, c1Q, rfl, hc1, hb1, rv1Q⟩, hx1Q⟩))
      have HQ := Lib.hid hx2Q.2.2
      have RQ : Hid (RdV x2Q A2Q 1 [bestL g a]) := rv2Q
      clear hx1Q hx2Q hb1 hb2 rv1Q rv2Q hc1 hc2 p0 p1 p2 p3 p4 p5 q0 q1 q2 q3 q4 q5 SXQ F1Q F2Q
      replace OA := Lib.hid (OA.out.below HQ.out)
      replace OB := Lib.hid (OB.out.below HQ.out)
      replace LA := Lib.hid (LA.out.below HQ.out)
      replace LB := Lib.hid (LB.out.below HQ.out)
      replace HI := Lib.hid (HI.out.below HQ.out)
      replace RP := Lib.hid (RP.out.below HQ.out)
      replace BW := Lib.hid (BW.out.trans (HQ.out.mono BW.out.size))
      replace RQ : Hid (RdV x2Q A2Q 1 [bestL a g]) := by have h := RQ.out; rw [← KE.out] at h; exact h
      go_wp2_with fail
      refine (sameBallots_any _ _ 1 _ _ [bestL a g] _ RP.out RQ.out).mono ?_
      rintro e x4 ⟨rfl, q, hq⟩
      have H4 : Hid (Below x2Q.heap.size x2Q x4) := by rw [hq]; exact Below.drewN (Below.refl _ _) q
      clear hq
      replace OA := Lib.hid (OA.out.below H4.out)
      replace OB := Lib.hid (OB.out.below H4.out)
      replace LA := Lib.hid (LA.out.below H4.out)
      replace LB := Lib.hid (LB.out.below H4.out)
      replace HI := Lib.hid (HI.out.below H4.out)
      replace RP := Lib.hid (RP.out.below H4.out)
      replace BW := Lib.hid (BW.out.trans (H4.out.mono BW.out.size))
      clear H4 HP HQ RQ
      obtain ⟨p0, p1, p2, p3, p4, p5⟩ := OA.out.all6
      go_upto_block 0 with fail
      have OZ := Lib.hid (Ob.fresh x4 #[.int .i64 a.n, .int .u64 (a.h : Nat), .int .u64 (a.l : Nat), .int .i64 a.v, .int .i64 a.c, .slice C a.log.length kc] 53)
      have H5 : Hid (Below x4.heap.size x4 (x4.alloc (.cells #[.int .i64 a.n, .int .u64 (a.h : Nat), .int .u64 (a.l : Nat), .int .i64 a.v, .int .i64 a.c, .slice C a.log.length kc] 53))) := below_alloc _ _
      have OA5 := Lib.hid (OA.out.below H5.out)
      have OB5 := Lib.hid (OB.out.below H5.out)
      generalize x4.alloc (.cells #[.int .i64 a.n, .int .u64 (a.h : Nat), .int .u64 (a.l : Nat), .int .i64 a.v, .int .i64 a.c, .slice C a.log.length kc] 53) = x5 at OZ H5 OA5 OB5 ⊢
      obtain ⟨rz, hrz⟩ : ∃ r, x4.heap.size = r := ⟨_, rfl⟩
      rw [hrz] at OZ ⊢
      have HRZ := Lib.hid hrz
      clear hrz p0 p1 p2 p3 p4 p5
      have HLE : Hid (x4.heap.size ≤ rz) := by have := HRZ.out; simp only [Hid]; omega
      go_cut [118] (fun _ wx => Hid (BestAt x4 wx rz (bestL a g)))
      case first =>
        go_upto_region 12 with fail
        go_cut [78] (fun bv wx => ∃ (bb : Bool), bv = .bool bb ∧ Hid (bb = true ↔ ¬ (a.h = g.h ∧ a.l = g.l)) ∧ x5 = wx)
        case first =>
          obtain ⟨p0, p1, p2, p3, p4, p5⟩ := OA5.out.all6
          obtain ⟨q0, q1, q2, q3, q4, q5⟩ := OB5.out.all6
          by_cases e1 : a.h = g.h
          case neg =>
            have hx : ((a.h : Int) == (g.h : Int)) = false := beq_eq_false_iff_ne.2 (by omega)
            have NO : Hid (¬ (a.h = g.h ∧ a.l = g.l)) := fun h => e1 h.1
            clear e1
            as_aux_lemma =>
              go_wp2_with fail
              go_meet
              exact ⟨true, rfl, ⟨(fun _ => NO.out), (fun _ => rfl)⟩, rfl⟩
          by_cases e2 : a.l = g.l
          case neg =>
            have hx : ((a.l : Int) == (g.l : Int)) = false := beq_eq_false_iff_ne.2 (by omega)
            have NO : Hid (¬ (a.h = g.h ∧ a.l = g.l)) := fun h => e2 h.2
            clear e2
            as_aux_lemma =>
              go_wp2_with fail
              go_meet
              exact ⟨true, rfl, ⟨(fun _ => NO.out), (fun _ => rfl)⟩, rfl⟩
          have YES : Hid (a.h = g.h ∧ a.l = g.l) := ⟨e1, e2⟩
          as_aux_lemma =>
            go_wp2_with fail
            go_meet
            exact ⟨false, rfl, ⟨(fun h => by cases h), (fun h => absurd YES.out h)⟩, rfl⟩
        case rest =>
          obtain ⟨bb, rfl, HD, rfl⟩ := hcut
          cases bb with
          | true =>
            have DN := Lib.hid (HD.out.1 rfl)
            obtain ⟨p0, p1, p2, p3, p4, p5⟩ := OA5.out.all6
            obtain ⟨q0, q1, q2, q3, q4, q5⟩ := OB5.out.all6
            go_wp2_with fail
            refine (below_any a.h a.l g.h g.l _).mono ?_
            rintro e x6 ⟨rfl, hb6⟩
            have H6 : Hid (Below x4.heap.size x4 x6) := H5.out.trans (hb6.mono H5.out.size)
            have OB6 := Lib.hid (OB5.out.below hb6)
            have OZ6 := Lib.hid (OZ.out.below hb6)
            clear hb6 p0 p1 p2 p3 p4 p5 q0 q1 q2 q3 q4 q5
            obtain ⟨q0, q1, q2, q3, q4, q5⟩ := OB6.out.all6
            obtain ⟨y0, y1, y2, y3, y4, y5⟩ := OZ6.out.all6
            obtain ⟨s0, s1, s2, s3, s4, s5⟩ := OZ6.out.fro6
            have zz := OZ6.out.lt (by simp)
            have zb := OB6.out.lt (by simp)
            obtain ⟨dd, hdd⟩ : ∃ dd, blw a.h a.l g.h g.l = dd := ⟨_, rfl⟩
            rw [hdd]
            cases dd with
            | true =>
              have BD : Hid (a.h < g.h ∨ a.h = g.h ∧ a.l < g.l) := by simp only [blw, Bool.or_eq_true, Bool.and_eq_true, decide_eq_true_iff] at hdd; simp only [Hid]; omega
              clear hdd
              as_aux_lemma =>
                go_wp2_with fail
                go_meet
                exact ⟨D, kd, by rw [best_b (.inl BD.out)]; exact ((((((OZ6.out.set 0 (by simp) (.int .i64 g.n)).set 1 (by simp) (.int .u64 (g.h : Nat))).set 2 (by simp) (.int .u64 (g.l : Nat))).set 3 (by simp) (.int .i64 g.v)).set 4 (by simp) (.int .i64 g.c)).set 5 (by simp) (.slice D g.log.length kd)), by rw [best_b (.inl BD.out)]; exact LB.out, ((((((H6.out.setCell HLE.out _).setCell HLE.out _).setCell HLE.out _).setCell HLE.out _).setCell HLE.out _).setCell HLE.out _)⟩
            | false =>
              have BD : Hid (¬ (a.h < g.h ∨ a.h = g.h ∧ a.l < g.l)) := by
                have h : ¬ blw a.h a.l g.h g.l = true := by rw [hdd]; simp
                simp only [blw, Bool.or_eq_true, Bool.and_eq_true, decide_eq_true_iff] at h
                simp only [Hid]; omega
              clear hdd
              as_aux_lemma =>
                go_wp2_with fail
                go_meet
                exact ⟨C, kc, by rw [best_a (by have h1 := BD.out; have h2 := DN.out; omega)]; exact OZ6.out, by rw [best_a (by have h1 := BD.out; have h2 := DN.out; omega)]; exact LA.out, H6.out⟩
          | false =>
            have DE : Hid (a.h = g.h ∧ a.l = g.l) := by
              refine Classical.byContradiction fun h => ?_
              have := HD.out.2 h
              simp at this
            obtain ⟨p0, p1, p2, p3, p4, p5⟩ := OA5.out.all6
            obtain ⟨q0, q1, q2, q3, q4, q5⟩ := OB5.out.all6
            obtain ⟨y0, y1, y2, y3, y4, y5⟩ := OZ.out.all6
            obtain ⟨s0, s1, s2, s3, s4, s5⟩ := OZ.out.fro6
            have zz := OZ.out.lt (by simp)
            have zb := OB5.out.lt (by simp)
            clear HD
            by_cases e3 : a.v = g.v
            case neg =>
              have hx : (a.v == g.v) = false := beq_eq_false_iff_ne.2 e3
              have N3 := Lib.hid e3
              clear e3
              by_cases e6 : a.v < g.v
              case pos =>
                have E6 := Lib.hid e6
                as_aux_lemma =>
                  go_wp2_with fail
                  go_meet
                  exact ⟨D, kd, by rw [best_b (by have h1 := DE.out; have h2 := E6.out; omega)]; exact ((((((OZ.out.set 0 (by simp) (.int .i64 g.n)).set 1 (by simp) (.int .u64 (g.h : Nat))).set 2 (by simp) (.int .u64 (g.l : Nat))).set 3 (by simp) (.int .i64 g.v)).set 4 (by simp) (.int .i64 g.c)).set 5 (by simp) (.slice D g.log.length kd)), by rw [best_b (by have h1 := DE.out; have h2 := E6.out; omega)]; exact LB.out, ((((((H5.out.setCell HLE.out _).setCell HLE.out _).setCell HLE.out _).setCell HLE.out _).setCell HLE.out _).setCell HLE.out _)⟩
              case neg =>
                have E6 := Lib.hid e6
                as_aux_lemma =>
                  go_wp2_with fail
                  go_meet
                  exact ⟨C, kc, by rw [best_a (by have h1 := DE.out; have h2 := E6.out; have h3 := N3.out; omega)]; exact OZ.out, by rw [best_a (by have h1 := DE.out; have h2 := E6.out; have h3 := N3.out; omega)]; exact LA.out, H5.out⟩
            case pos =>
              have E3 := Lib.hid e3
              by_cases e4 : a.log.length = g.log.length
              case neg =>
                have hx : ((a.log.length : Int) == (g.log.length : Int)) = false := beq_eq_false_iff_ne.2 (by omega)
                have N4 := Lib.hid e4
                clear e4
                by_cases e6 : (a.log.length : Int) < (g.log.length : Int)
                case pos =>
                  have E6 := Lib.hid e6
                  as_aux_lemma =>
                    go_wp2_with fail
                    go_meet
                    exact ⟨D, kd, by rw [best_b (by have h1 := DE.out; have h2 := E6.out; have h3 := E3.out; omega)]; exact ((((((OZ.out.set 0 (by simp) (.int .i64 g.n)).set 1 (by simp) (.int .u64 (g.h : Nat))).set 2 (by simp) (.int .u64 (g.l : Nat))).set 3 (by simp) (.int .i64 g.v)).set 4 (by simp) (.int .i64 g.c)).set 5 (by simp) (.slice D g.log.length kd)), by rw [best_b (by have h1 := DE.out; have h2 := E6.out; have h3 := E3.out; omega)]; exact LB.out, ((((((H5.out.setCell HLE.out _).setCell HLE.out _).setCell HLE.out _).setCell HLE.out _).setCell HLE.out _).setCell HLE.out _)⟩
                case neg =>
                  have E6 := Lib.hid e6
                  as_aux_lemma =>
                    go_wp2_with fail
                    go_meet
                    exact ⟨C, kc, by rw [best_a (by have h1 := DE.out; have h2 := E6.out; have h3 := N4.out; have h4 := E3.out; omega)]; exact OZ.out, by rw [best_a (by have h1 := DE.out; have h2 := E6.out; have h3 := N4.out; have h4 := E3.out; omega)]; exact LA.out, H5.out⟩
              case pos =>
                have E4 := Lib.hid e4
                by_cases e6 : a.c < g.c
                case pos =>
                  have E6 := Lib.hid e6
                  as_aux_lemma =>
                    go_wp2_with fail
                    go_meet
                    exact ⟨D, kd, by rw [best_b (by have h1 := DE.out; have h2 := E6.out; have h3 := E3.out; have h4 := E4.out; omega)]; exact ((((((OZ.out.set 0 (by simp) (.int .i64 g.n)).set 1 (by simp) (.int .u64 (g.h : Nat))).set 2 (by simp) (.int .u64 (g.l : Nat))).set 3 (by simp) (.int .i64 g.v)).set 4 (by simp) (.int .i64 g.c)).set 5 (by simp) (.slice D g.log.length kd)), by rw [best_b (by have h1 := DE.out; have h2 := E6.out; have h3 := E3.out; have h4 := E4.out; omega)]; exact LB.out, ((((((H5.out.setCell HLE.out _).setCell HLE.out _).setCell HLE.out _).setCell HLE.out _).setCell HLE.out _).setCell HLE.out _)⟩
                case neg =>
                  have E6 := Lib.hid e6
                  as_aux_lemma =>
                    go_wp2_with fail
                    go_meet
                    exact ⟨C, kc, by rw [best_a (by have h1 := DE.out; have h2 := E6.out; have h3 := E3.out; have h4 := E4.out; omega)]; exact OZ.out, by rw [best_a (by have h1 := DE.out; have h2 := E6.out; have h3 := E3.out; have h4 := E4.out; omega)]; exact LA.out, H5.out⟩
      case rest =>
        obtain ⟨E, ke, oz, le, hb⟩ := hcut.out
        have H6 := Lib.hid hb
        replace OZ := Lib.hid oz
        have LE := Lib.hid (le.below H6.out)
        clear hcut oz le hb OA5 OB5 H5
        replace OA := Lib.hid (OA.out.below H6.out)
        replace OB := Lib.hid (OB.out.below H6.out)
        replace LA := Lib.hid (LA.out.below H6.out)
        replace LB := Lib.hid (LB.out.below H6.out)
        replace HI := Lib.hid (HI.out.below H6.out)
        replace RP := Lib.hid (RP.out.below H6.out)
        replace BW := Lib.hid (BW.out.trans (H6.out.mono BW.out.size))
        obtain ⟨z, hz⟩ : ∃ z, bestL a g = z := ⟨_, rfl⟩
        have HZN : Hid (a.n = z.n) := by rw [← hz]; unfold bestL; split; { exact HN.out }; { rfl }
        rw [hz] at OZ LE RP
        have HZ := Lib.hid hz
        clear hz
        obtain ⟨p0, p1, p2, p3, p4, p5⟩ := OA.out.all6
        obtain ⟨q0, q1, q2, q3, q4, q5⟩ := OB.out.all6
        obtain ⟨y0, y1, y2, y3, y4, y5⟩ := OZ.out.all6
        have zz := OZ.out.lt (by simp)
        have za := OA.out.lt (by simp)
        have zb := OB.out.lt (by simp)
        go_upto_region 26 with fail
        clear p0 p1 p2 p3 p4 p5 q0 q1 q2 q3 q4 q5 y0 y1 y2 y3 y4 y5 zz za zb
        have H7 : Hid (Below wc.heap.size wc (((wc.alloc (.cells #[.int .i64 a.n, .int .u64 (a.h : Nat), .int .u64 (a.l : Nat), .int .i64 a.v, .int .i64 a.c, .slice C a.log.length kc] 38)).alloc (.cells #[.int .i64 a.n, .int .u64 (g.h : Nat), .int .u64 (g.l : Nat), .int .i64 g.v, .int .i64 g.c, .slice D g.log.length kd] 38)).alloc (.cells #[.int .i64 a.n, .int .u64 (z.h : Nat), .int .u64 (z.l : Nat), .int .i64 z.v, .int .i64 z.c, .slice E z.log.length ke] 38))) := ((below_alloc _ _).alloc (by simp) _).alloc (by simp; omega) _
        have O1 : Hid (Ob (((wc.alloc (.cells #[.int .i64 a.n, .int .u64 (a.h : Nat), .int .u64 (a.l : Nat), .int .i64 a.v, .int .i64 a.c, .slice C a.log.length kc] 38)).alloc (.cells #[.int .i64 a.n, .int .u64 (g.h : Nat), .int .u64 (g.l : Nat), .int .i64 g.v, .int .i64 g.c, .slice D g.log.length kd] 38)).alloc (.cells #[.int .i64 a.n, .int .u64 (z.h : Nat), .int .u64 (z.l : Nat), .int .i64 z.v, .int .i64 z.c, .slice E z.log.length ke] 38)) wc.heap.size [.int .i64 a.n, .int .u64 (a.h : Nat), .int .u64 (a.l : Nat), .int .i64 a.v, .int .i64 a.c, .slice C a.log.length kc]) := ((Ob.fresh wc _ _).alloc _).alloc _
        have O2 : Hid (Ob (((wc.alloc (.cells #[.int .i64 a.n, .int .u64 (a.h : Nat), .int .u64 (a.l : Nat), .int .i64 a.v, .int .i64 a.c, .slice C a.log.length kc] 38)).alloc (.cells #[.int .i64 a.n, .int .u64 (g.h : Nat), .int .u64 (g.l : Nat), .int .i64 g.v, .int .i64 g.c, .slice D g.log.length kd] 38)).alloc (.cells #[.int .i64 a.n, .int .u64 (z.h : Nat), .int .u64 (z.l : Nat), .int .i64 z.v, .int .i64 z.c, .slice E z.log.length ke] 38)) (wc.heap.size + 1) [.int .i64 g.n, .int .u64 (g.h : Nat), .int .u64 (g.l : Nat), .int .i64 g.v, .int .i64 g.c, .slice D g.log.length kd]) := by
          have h := (Ob.fresh (wc.alloc (.cells #[.int .i64 a.n, .int .u64 (a.h : Nat), .int .u64 (a.l : Nat), .int .i64 a.v, .int .i64 a.c, .slice C a.log.length kc] 38)) #[.int .i64 a.n, .int .u64 (g.h : Nat), .int .u64 (g.l : Nat), .int .i64 g.v, .int .i64 g.c, .slice D g.log.length kd] 38).alloc (.cells #[.int .i64 a.n, .int .u64 (z.h : Nat), .int .u64 (z.l : Nat), .int .i64 z.v, .int .i64 z.c, .slice E z.log.length ke] 38)
          rw [World.size_alloc] at h
          rw [← HN.out]
          exact h
        have O3 : Hid (Ob (((wc.alloc (.cells #[.int .i64 a.n, .int .u64 (a.h : Nat), .int .u64 (a.l : Nat), .int .i64 a.v, .int .i64 a.c, .slice C a.log.length kc] 38)).alloc (.cells #[.int .i64 a.n, .int .u64 (g.h : Nat), .int .u64 (g.l : Nat), .int .i64 g.v, .int .i64 g.c, .slice D g.log.length kd] 38)).alloc (.cells #[.int .i64 a.n, .int .u64 (z.h : Nat), .int .u64 (z.l : Nat), .int .i64 z.v, .int .i64 z.c, .slice E z.log.length ke] 38)) (wc.heap.size + 1 + 1) [.int .i64 z.n, .int .u64 (z.h : Nat), .int .u64 (z.l : Nat), .int .i64 z.v, .int .i64 z.c, .slice E z.log.length ke]) := by
          have h := Ob.fresh ((wc.alloc (.cells #[.int .i64 a.n, .int .u64 (a.h : Nat), .int .u64 (a.l : Nat), .int .i64 a.v, .int .i64 a.c, .slice C a.log.length kc] 38)).alloc (.cells #[.int .i64 a.n, .int .u64 (g.h : Nat), .int .u64 (g.l : Nat), .int .i64 g.v, .int .i64 g.c, .slice D g.log.length kd] 38)) #[.int .i64 a.n, .int .u64 (z.h : Nat), .int .u64 (z.l : Nat), .int .i64 z.v, .int .i64 z.c, .slice E z.log.length ke] 38
          rw [World.size_alloc, World.size_alloc] at h
          rw [← HZN.out]
          exact h
        generalize ((wc.alloc (.cells #[.int .i64 a.n, .int .u64 (a.h : Nat), .int .u64 (a.l : Nat), .int .i64 a.v, .int .i64 a.c, .slice C a.log.length kc] 38)).alloc (.cells #[.int .i64 a.n, .int .u64 (g.h : Nat), .int .u64 (g.l : Nat), .int .i64 g.v, .int .i64 g.c, .slice D g.log.length kd] 38)).alloc (.cells #[.int .i64 a.n, .int .u64 (z.h : Nat), .int .u64 (z.l : Nat), .int .i64 z.v, .int .i64 z.c, .slice E z.log.length ke] 38) = w7 at H7 O1 O2 O3 ⊢
        obtain ⟨r1, hr1⟩ : ∃ r, wc.heap.size = r := ⟨_, rfl⟩
        rw [hr1] at O1 O2 O3 ⊢
        clear hr1
        obtain ⟨r2, hr2⟩ : ∃ r, r1 + 1 = r := ⟨_, rfl⟩
        rw [hr2] at O2 O3 ⊢
        clear hr2
        obtain ⟨r3, hr3⟩ : ∃ r, r2 + 1 = r := ⟨_, rfl⟩
        rw [hr3] at O3 ⊢
        clear hr3
        replace OA := Lib.hid (OA.out.below H7.out)
        replace LA := Lib.hid (LA.out.below H7.out)
        replace LB := Lib.hid (LB.out.below H7.out)
        replace LE := Lib.hid (LE.out.below H7.out)
        replace OZ := Lib.hid (OZ.out.below H7.out)
        replace HI := Lib.hid (HI.out.below H7.out)
        replace RP := Lib.hid (RP.out.below H7.out)
        replace BW := Lib.hid (BW.out.trans (H7.out.mono BW.out.size))
        clear H6 H7 HRZ HLE
        have SXS : Hid (∀ y, Below w7.heap.size w7 y → ((y.cell? ⟨r1, 0, none⟩ = some (.int .i64 a.n) ∧ y.cell? ⟨r1, 1, none⟩ = some (.int .u64 (a.h : Nat)) ∧ y.cell? ⟨r1, 2, none⟩ = some (.int .u64 (a.l : Nat)) ∧ y.cell? ⟨r1, 3, none⟩ = some (.int .i64 a.v) ∧ y.cell? ⟨r1, 4, none⟩ = some (.int .i64 a.c) ∧ y.cell? ⟨r1, 5, none⟩ = some (.slice C a.log.length kc)) ∧ (y.cell? ⟨r2, 0, none⟩ = some (.int .i64 g.n) ∧ y.cell? ⟨r2, 1, none⟩ = some (.int .u64 (g.h : Nat)) ∧ y.cell? ⟨r2, 2, none⟩ = some (.int .u64 (g.l : Nat)) ∧ y.cell? ⟨r2, 3, none⟩ = some (.int .i64 g.v) ∧ y.cell? ⟨r2, 4, none⟩ = some (.int .i64 g.c) ∧ y.cell? ⟨r2, 5, none⟩ = some (.slice D g.log.length kd)) ∧ Below w7.heap.size w7 y)) := fun y hb => ⟨(O1.out.below hb).all6, (O2.out.below hb).all6, hb⟩
        have F1S : Hid (∀ y, ((y.cell? ⟨r1, 0, none⟩ = some (.int .i64 a.n) ∧ y.cell? ⟨r1, 1, none⟩ = some (.int .u64 (a.h : Nat)) ∧ y.cell? ⟨r1, 2, none⟩ = some (.int .u64 (a.l : Nat)) ∧ y.cell? ⟨r1, 3, none⟩ = some (.int .i64 a.v) ∧ y.cell? ⟨r1, 4, none⟩ = some (.int .i64 a.c) ∧ y.cell? ⟨r1, 5, none⟩ = some (.slice C a.log.length kc)) ∧ (y.cell? ⟨r2, 0, none⟩ = some (.int .i64 g.n) ∧ y.cell? ⟨r2, 1, none⟩ = some (.int .u64 (g.h : Nat)) ∧ y.cell? ⟨r2, 2, none⟩ = some (.int .u64 (g.l : Nat)) ∧ y.cell? ⟨r2, 3, none⟩ = some (.int .i64 g.v) ∧ y.cell? ⟨r2, 4, none⟩ = some (.int .i64 g.c) ∧ y.cell? ⟨r2, 5, none⟩ = some (.slice D g.log.length kd)) ∧ Below w7.heap.size w7 y) → Calls Try.prog 23 #[.slice none 0 0, a.agg C kc] y fun e y' => RetW y [a] e y' ∧ ((y'.cell? ⟨r1, 0, none⟩ = some (.int .i64 a.n) ∧ y'.cell? ⟨r1, 1, none⟩ = some (.int .u64 (a.h : Nat)) ∧ y'.cell? ⟨r1, 2, none⟩ = some (.int .u64 (a.l : Nat)) ∧ y'.cell? ⟨r1, 3, none⟩ = some (.int .i64 a.v) ∧ y'.cell? ⟨r1, 4, none⟩ = some (.int .i64 a.c) ∧ y'.cell? ⟨r1, 5, none⟩ = some (.slice C a.log.length kc)) ∧ (y'.cell? ⟨r2, 0, none⟩ = some (.int .i64 g.n) ∧ y'.cell? ⟨r2, 1, none⟩ = some (.int .u64 (g.h : Nat)) ∧ y'.cell? ⟨r2, 2, none⟩ = some (.int .u64 (g.l : Nat)) ∧ y'.cell? ⟨r2, 3, none⟩ = some (.int .i64 g.v) ∧ y'.cell? ⟨r2, 4, none⟩ = some (.int .i64 g.c) ∧ y'.cell? ⟨r2, 5, none⟩ = some (.slice D g.log.length kd)) ∧ Below w7.heap.size w7 y')) := fun y hy =>
          (putAnswer_w none 0 0 [] a C kc y (RdV.nil _ _) (LA.out.below hy.2.2) (by omega)).mono fun e y' h => ⟨h, SXS.out _ (hy.2.2.trans (h.choose_spec.choose_spec.2.2.1.mono hy.2.2.size))⟩
        have F2S : Hid (∀ y A c, ((y.cell? ⟨r1, 0, none⟩ = some (.int .i64 a.n) ∧ y.cell? ⟨r1, 1, none⟩ = some (.int .u64 (a.h : Nat)) ∧ y.cell? ⟨r1, 2, none⟩ = some (.int .u64 (a.l : Nat)) ∧ y.cell? ⟨r1, 3, none⟩ = some (.int .i64 a.v) ∧ y.cell? ⟨r1, 4, none⟩ = some (.int .i64 a.c) ∧ y.cell? ⟨r1, 5, none⟩ = some (.slice C a.log.length kc)) ∧ (y.cell? ⟨r2, 0, none⟩ = some (.int .i64 g.n) ∧ y.cell? ⟨r2, 1, none⟩ = some (.int .u64 (g.h : Nat)) ∧ y.cell? ⟨r2, 2, none⟩ = some (.int .u64 (g.l : Nat)) ∧ y.cell? ⟨r2, 3, none⟩ = some (.int .i64 g.v) ∧ y.cell? ⟨r2, 4, none⟩ = some (.int .i64 g.c) ∧ y.cell? ⟨r2, 5, none⟩ = some (.slice D g.log.length kd)) ∧ Below w7.heap.size w7 y) → RdV y A 1 [a] → Calls Try.prog 23 #[.slice A 1 c, g.agg D kd] y fun e y' => RetW y [bestL a g] e y' ∧ ((y'.cell? ⟨r1, 0, none⟩ = some (.int .i64 a.n) ∧ y'.cell? ⟨r1, 1, none⟩ = some (.int .u64 (a.h : Nat)) ∧ y'.cell? ⟨r1, 2, none⟩ = some (.int .u64 (a.l : Nat)) ∧ y'.cell? ⟨r1, 3, none⟩ = some (.int .i64 a.v) ∧ y'.cell? ⟨r1, 4, none⟩ = some (.int .i64 a.c) ∧ y'.cell? ⟨r1, 5, none⟩ = some (.slice C a.log.length kc)) ∧ (y'.cell? ⟨r2, 0, none⟩ = some (.int .i64 g.n) ∧ y'.cell? ⟨r2, 1, none⟩ = some (.int .u64 (g.h : Nat)) ∧ y'.cell? ⟨r2, 2, none⟩ = some (.int .u64 (g.l : Nat)) ∧ y'.cell? ⟨r2, 3, none⟩ = some (.int .i64 g.v) ∧ y'.cell? ⟨r2, 4, none⟩ = some (.int .i64 g.c) ∧ y'.cell? ⟨r2, 5, none⟩ = some (.slice D g.log.length kd)) ∧ Below w7.heap.size w7 y')) := fun y A c hy hr =>
          (putAnswer_w A 1 c [a] g D kd y hr (LB.out.below hy.2.2) (by omega)).mono fun e y' h => by
            rw [put_two (a := a) (b := g) HN.out] at h
            exact ⟨h, SXS.out _ (hy.2.2.trans (h.choose_spec.choose_spec.2.2.1.mono hy.2.2.size))⟩
        obtain ⟨⟨p0, p1, p2, p3, p4, p5⟩, ⟨q0, q1, q2, q3, q4, q5⟩, _⟩ := SXS.out _ (Below.refl _ _)
        go_upto_region 26 with fail
        go_region_held3 (fun y => ((y.cell? ⟨r1, 0, none⟩ = some (.int .i64 a.n) ∧ y.cell? ⟨r1, 1, none⟩ = some (.int .u64 (a.h : Nat)) ∧ y.cell? ⟨r1, 2, none⟩ = some (.int .u64 (a.l : Nat)) ∧ y.cell? ⟨r1, 3, none⟩ = some (.int .i64 a.v) ∧ y.cell? ⟨r1, 4, none⟩ = some (.int .i64 a.c) ∧ y.cell? ⟨r1, 5, none⟩ = some (.slice C a.log.length kc)) ∧ (y.cell? ⟨r2, 0, none⟩ = some (.int .i64 g.n) ∧ y.cell? ⟨r2, 1, none⟩ = some (.int .u64 (g.h : Nat)) ∧ y.cell? ⟨r2, 2, none⟩ = some (.int .u64 (g.l : Nat)) ∧ y.cell? ⟨r2, 3, none⟩ = some (.int .i64 g.v) ∧ y.cell? ⟨r2, 4, none⟩ = some (.int .i64 g.c) ∧ y.cell? ⟨r2, 5, none⟩ = some (.slice D g.log.length kd)) ∧ Below w7.heap.size w7 y)) (first | exact ⟨⟨p0, p1, p2, p3, p4, p5⟩, ⟨q0, q1, q2, q3, q4, q5⟩, Below.drew (Below.refl _ _)⟩ | assumption | go_keep)
          (first
           | (go_at_call 23; refine (F2S.out _ A1S c1S hx1S rv1S).mono ?_; rintro e x2S ⟨⟨A2S, c2S, rfl, hc2, hb2, rv2S⟩, hx2S⟩)
           | (go_at_call 23; refine (F1S.out _ (by first | assumption | (simp [*]))).mono ?_; rintro e x1S ⟨⟨A1S, c1S, rfl, hc1, hb1, rv1S⟩, hx1S⟩))
        have HS := Lib.hid hx2S.2.2
        have RS : Hid (RdV x2S A2S 1 [bestL a g]) := rv2S
        clear hx1S hx2S hb1 hb2 rv1S rv2S hc1 hc2 p0 p1 p2 p3 p4 p5 q0 q1 q2 q3 q4 q5 SXS F1S F2S
        replace OA := Lib.hid (OA.out.below HS.out)
        replace LA := Lib.hid (LA.out.below HS.out)
        replace LB := Lib.hid (LB.out.below HS.out)
        replace LE := Lib.hid (LE.out.below HS.out)
        replace OZ := Lib.hid (OZ.out.below HS.out)
        replace O1 := Lib.hid (O1.out.below HS.out)
        replace O2 := Lib.hid (O2.out.below HS.out)
        replace O3 := Lib.hid (O3.out.below HS.out)
        replace HI := Lib.hid (HI.out.below HS.out)
        replace RP := Lib.hid (RP.out.below HS.out)
        replace BW := Lib.hid (BW.out.trans (HS.out.mono BW.out.size))
        have SXT : Hid (∀ y, Below x2S.heap.size x2S y → ((y.cell? ⟨r2, 0, none⟩ = some (.int .i64 g.n) ∧ y.cell? ⟨r2, 1, none⟩ = some (.int .u64 (g.h : Nat)) ∧ y.cell? ⟨r2, 2, none⟩ = some (.int .u64 (g.l : Nat)) ∧ y.cell? ⟨r2, 3, none⟩ = some (.int .i64 g.v) ∧ y.cell? ⟨r2, 4, none⟩ = some (.int .i64 g.c) ∧ y.cell? ⟨r2, 5, none⟩ = some (.slice D g.log.length kd)) ∧ (y.cell? ⟨r1, 0, none⟩ = some (.int .i64 a.n) ∧ y.cell? ⟨r1, 1, none⟩ = some (.int .u64 (a.h : Nat)) ∧ y.cell? ⟨r1, 2, none⟩ = some (.int .u64 (a.l : Nat)) ∧ y.cell? ⟨r1, 3, none⟩ = some (.int .i64 a.v) ∧ y.cell? ⟨r1, 4, none⟩ = some (.int .i64 a.c) ∧ y.cell? ⟨r1, 5, none⟩ = some (.slice C a.log.length kc)) ∧ Below x2S.heap.size x2S y)) := fun y hb => ⟨(O2.out.below hb).all6, (O1.out.below hb).all6, hb⟩
        have F1T : Hid (∀ y, ((y.cell? ⟨r2, 0, none⟩ = some (.int .i64 g.n) ∧ y.cell? ⟨r2, 1, none⟩ = some (.int .u64 (g.h : Nat)) ∧ y.cell? ⟨r2, 2, none⟩ = some (.int .u64 (g.l : Nat)) ∧ y.cell? ⟨r2, 3, none⟩ = some (.int .i64 g.v) ∧ y.cell? ⟨r2, 4, none⟩ = some (.int .i64 g.c) ∧ y.cell? ⟨r2, 5, none⟩ = some (.slice D g.log.length kd)) ∧ (y.cell? ⟨r1, 0, none⟩ = some (.int .i64 a.n) ∧ y.cell? ⟨r1, 1, none⟩ = some (.int .u64 (a.h : Nat)) ∧ y.cell? ⟨r1, 2, none⟩ = some (.int .u64 (a.l : Nat)) ∧ y.cell? ⟨r1, 3, none⟩ = some (.int .i64 a.v) ∧ y.cell? ⟨r1, 4, none⟩ = some (.int .i64 a.c) ∧ y.cell? ⟨r1, 5, none⟩ = some (.slice C a.log.length kc)) ∧ Below x2S.heap.size x2S y) → Calls Try.prog 23 #[.slice none 0 0, g.agg D kd] y fun e y' => RetW y [g] e y' ∧ ((y'.cell? ⟨r2, 0, none⟩ = some (.int .i64 g.n) ∧ y'.cell? ⟨r2, 1, none⟩ = some (.int .u64 (g.h : Nat)) ∧ y'.cell? ⟨r2, 2, none⟩ = some (.int .u64 (g.l : Nat)) ∧ y'.cell? ⟨r2, 3, none⟩ = some (.int .i64 g.v) ∧ y'.cell? ⟨r2, 4, none⟩ = some (.int .i64 g.c) ∧ y'.cell? ⟨r2, 5, none⟩ = some (.slice D g.log.length kd)) ∧ (y'.cell? ⟨r1, 0, none⟩ = some (.int .i64 a.n) ∧ y'.cell? ⟨r1, 1, none⟩ = some (.int .u64 (a.h : Nat)) ∧ y'.cell? ⟨r1, 2, none⟩ = some (.int .u64 (a.l : Nat)) ∧ y'.cell? ⟨r1, 3, none⟩ = some (.int .i64 a.v) ∧ y'.cell? ⟨r1, 4, none⟩ = some (.int .i64 a.c) ∧ y'.cell? ⟨r1, 5, none⟩ = some (.slice C a.log.length kc)) ∧ Below x2S.heap.size x2S y')) := fun y hy =>
          (putAnswer_w none 0 0 [] g D kd y (RdV.nil _ _) (LB.out.below hy.2.2) (by omega)).mono fun e y' h => ⟨h, SXT.out _ (hy.2.2.trans (h.choose_spec.choose_spec.2.2.1.mono hy.2.2.size))⟩
        have F2T : Hid (∀ y A c, ((y.cell? ⟨r2, 0, none⟩ = some (.int .i64 g.n) ∧ y.cell? ⟨r2, 1, none⟩ = some (.int .u64 (g.h : Nat)) ∧ y.cell? ⟨r2, 2, none⟩ = some (.int .u64 (g.l : Nat)) ∧ y.cell? ⟨r2, 3, none⟩ = some (.int .i64 g.v) ∧ y.cell? ⟨r2, 4, none⟩ = some (.int .i64 g.c) ∧ y.cell? ⟨r2, 5, none⟩ = some (.slice D g.log.length kd)) ∧ (y.cell? ⟨r1, 0, none⟩ = some (.int .i64 a.n) ∧ y.cell? ⟨r1, 1, none⟩ = some (.int .u64 (a.h : Nat)) ∧ y.cell? ⟨r1, 2, none⟩ = some (.int .u64 (a.l : Nat)) ∧ y.cell? ⟨r1, 3, none⟩ = some (.int .i64 a.v) ∧ y.cell? ⟨r1, 4, none⟩ = some (.int .i64 a.c) ∧ y.cell? ⟨r1, 5, none⟩ = some (.slice C a.log.length kc)) ∧ Below x2S.heap.size x2S y) → RdV y A 1 [g] → Calls Try.prog 23 #[.slice A 1 c, a.agg C kc] y fun e y' => RetW y [bestL g a] e y' ∧ ((y'.cell? ⟨r2, 0, none⟩ = some (.int .i64 g.n) ∧ y'.cell? ⟨r2, 1, none⟩ = some (.int .u64 (g.h : Nat)) ∧ y'.cell? ⟨r2, 2, none⟩ = some (.int .u64 (g.l : Nat)) ∧ y'.cell? ⟨r2, 3, none⟩ = some (.int .i64 g.v) ∧ y'.cell? ⟨r2, 4, none⟩ = some (.int .i64 g.c) ∧ y'.cell? ⟨r2, 5, none⟩ = some (.slice D g.log.length kd)) ∧ (y'.cell? ⟨r1, 0, none⟩ = some (.int .i64 a.n) ∧ y'.cell? ⟨r1, 1, none⟩ = some (.int .u64 (a.h : Nat)) ∧ y'.cell? ⟨r1, 2, none⟩ = some (.int .u64 (a.l : Nat)) ∧ y'.cell? ⟨r1, 3, none⟩ = some (.int .i64 a.v) ∧ y'.cell? ⟨r1, 4, none⟩ = some (.int .i64 a.c) ∧ y'.cell? ⟨r1, 5, none⟩ = some (.slice C a.log.length kc)) ∧ Below x2S.heap.size x2S y')) := fun y A c hy hr =>
          (putAnswer_w A 1 c [g] a C kc y hr (LA.out.below hy.2.2) (by omega)).mono fun e y' h => by
            rw [put_two (a := g) (b := a) HN.out.symm] at h
            exact ⟨h, SXT.out _ (hy.2.2.trans (h.choose_spec.choose_spec.2.2.1.mono hy.2.2.size))⟩
        obtain ⟨⟨p0, p1, p2, p3, p4, p5⟩, ⟨q0, q1, q2, q3, q4, q5⟩, _⟩ := SXT.out _ (Below.refl _ _)
        go_upto_region 27 with fail
        go_region_held3 (fun y => ((y.cell? ⟨r2, 0, none⟩ = some (.int .i64 g.n) ∧ y.cell? ⟨r2, 1, none⟩ = some (.int .u64 (g.h : Nat)) ∧ y.cell? ⟨r2, 2, none⟩ = some (.int .u64 (g.l : Nat)) ∧ y.cell? ⟨r2, 3, none⟩ = some (.int .i64 g.v) ∧ y.cell? ⟨r2, 4, none⟩ = some (.int .i64 g.c) ∧ y.cell? ⟨r2, 5, none⟩ = some (.slice D g.log.length kd)) ∧ (y.cell? ⟨r1, 0, none⟩ = some (.int .i64 a.n) ∧ y.cell? ⟨r1, 1, none⟩ = some (.int .u64 (a.h : Nat)) ∧ y.cell? ⟨r1, 2, none⟩ = some (.int .u64 (a.l : Nat)) ∧ y.cell? ⟨r1, 3, none⟩ = some (.int .i64 a.v) ∧ y.cell? ⟨r1, 4, none⟩ = some (.int .i64 a.c) ∧ y.cell? ⟨r1, 5, none⟩ = some (.slice C a.log.length kc)) ∧ Below x2S.heap.size x2S y)) (first | exact ⟨⟨p0, p1, p2, p3, p4, p5⟩, ⟨q0, q1, q2, q3, q4, q5⟩, Below.drew (Below.refl _ _)⟩ | assumption | go_keep)
          (first
           | (go_at_call 23; refine (F2T.out _ A1T c1T hx1T rv1T).mono ?_; rintro e x2T ⟨⟨A2T, c2T, rfl, hc2, hb2, rv2T⟩, hx2T⟩)
           | (go_at_call 23; refine (F1T.out _ (by first | assumption | (simp [*]))).mono ?_; rintro e x1T ⟨⟨A1T, c1T, rfl, hc1, hb1, rv1T⟩, hx1T⟩))
        have HT := Lib.hid hx2T.2.2
        have RT : Hid (RdV x2T A2T 1 [bestL g a]) := rv2T
        clear hx1T hx2T hb1 hb2 rv1T rv2T hc1 hc2 p0 p1 p2 p3 p4 p5 q0 q1 q2 q3 q4 q5 SXT F1T F2T
        replace OA := Lib.hid (OA.out.below HT.out)
        replace LA := Lib.hid (LA.out.below HT.out)
        replace LE := Lib.hid (LE.out.below HT.out)
        replace OZ := Lib.hid (OZ.out.below HT.out)
        replace O3 := Lib.hid (O3.out.below HT.out)
        replace HI := Lib.hid (HI.out.below HT.out)
        replace RP := Lib.hid (RP.out.below HT.out)
        replace RS := Lib.hid (RS.out.below HT.out)
        replace BW := Lib.hid (BW.out.trans (HT.out.mono BW.out.size))
        replace RT : Hid (RdV x2T A2T 1 [z]) := by have h := RT.out; rw [← KE.out, HZ.out] at h; exact h
        replace RS : Hid (RdV x2T A2S 1 [z]) := by have h := RS.out; rw [HZ.out] at h; exact h
        clear HS HT
        obtain ⟨y0, y1, y2, y3, y4, y5⟩ := OZ.out.all6
        go_wp2_with fail
        refine (sameBallots_any _ _ 1 _ _ [z] _ (RP.out.below (below_alloc x2T (.cells #[.int .i64 z.n, .int .u64 (z.h : Nat), .int .u64 (z.l : Nat), .int .i64 z.v, .int .i64 z.c, .slice E z.log.length ke] 53))) (rdV_one LE.out _)).mono ?_
        rintro e x8 ⟨rfl, q, hq⟩
        have H8 : Hid (Below x2T.heap.size x2T x8) := by rw [hq]; exact Below.drewN (below_alloc _ _) q
        clear hq y0 y1 y2 y3 y4 y5
        replace OA := Lib.hid (OA.out.below H8.out)
        replace LA := Lib.hid (LA.out.below H8.out)
        replace LE := Lib.hid (LE.out.below H8.out)
        replace O3 := Lib.hid (O3.out.below H8.out)
        replace HI := Lib.hid (HI.out.below H8.out)
        replace RS := Lib.hid (RS.out.below H8.out)
        replace RT := Lib.hid (RT.out.below H8.out)
        replace BW := Lib.hid (BW.out.trans (H8.out.mono BW.out.size))
        clear H8 RP OZ
        obtain ⟨y0, y1, y2, y3, y4, y5⟩ := O3.out.all6
        go_wp2_with fail
        refine (sameAnswers_any _ _ 1 _ _ [z] _ (RS.out.below (below_alloc x8 (.cells #[.int .i64 z.n, .int .u64 (z.h : Nat), .int .u64 (z.l : Nat), .int .i64 z.v, .int .i64 z.c, .slice E z.log.length ke] 38))) (rdV_one LE.out _)).mono ?_
        rintro e x9 ⟨rfl, q, hq⟩
        have H9 : Hid (Below x8.heap.size x8 x9) := by rw [hq]; exact Below.drewN (below_alloc _ _) q
        clear hq y0 y1 y2 y3 y4 y5
        replace OA := Lib.hid (OA.out.below H9.out)
        replace LA := Lib.hid (LA.out.below H9.out)
        replace HI := Lib.hid (HI.out.below H9.out)
        replace RS := Lib.hid (RS.out.below H9.out)
        replace RT := Lib.hid (RT.out.below H9.out)
        replace BW := Lib.hid (BW.out.trans (H9.out.mono BW.out.size))
        clear H9 O3 LE
        go_wp2_with fail
        refine (sameAnswers_any _ _ 1 _ _ [z] _ RT.out RS.out).mono ?_
        rintro e xA ⟨rfl, q, hq⟩
        have HA : Hid (Below x9.heap.size x9 xA) := by rw [hq]; exact Below.drewN (Below.refl _ _) q
        clear hq
        replace OA := Lib.hid (OA.out.below HA.out)
        replace LA := Lib.hid (LA.out.below HA.out)
        replace HI := Lib.hid (HI.out.below HA.out)
        replace BW := Lib.hid (BW.out.trans (HA.out.mono BW.out.size))
        clear HA RS RT
        obtain ⟨p0, p1, p2, p3, p4, p5⟩ := OA.out.all6
        go_wp2_with fail
        refine (putBallot_w A n c J a C kc _ HI.out LA.out (by have := HSM.out; omega)).mono ?_
        rintro e xB ⟨A9, c9, rfl, hc9, hb9, _⟩
        have HB := Lib.hid hb9
        clear hc9 hb9 p0 p1 p2 p3 p4 p5
        replace OA := Lib.hid (OA.out.below HB.out)
        replace HI := Lib.hid (HI.out.below HB.out)
        replace BW := Lib.hid (BW.out.trans (HB.out.mono BW.out.size))
        clear HB LA
        have PL := Lib.hid (putF_length Lt.n Lt.wins J a)
        obtain ⟨m, hm⟩ : ∃ m, (putF Lt.n Lt.wins J a).length = m := ⟨_, rfl⟩
        rw [hm] at PL ⊢
        clear hm
        go_wp2_with fail
        go_loopw [17, 18] (fun hv iv wr => ∃ (k : Nat) (bb : Bool), k ≤ n ∧ hv = .bool bb ∧ iv = .int .i64 k ∧ Hid (∃ q, wr = xB.drewN q) ∧ Hid (bb = true ↔ ∃ j x, j < k ∧ J[j]? = some x ∧ x.n = a.n)) (fun _ iv _ => n - (intOf iv).toNat)
        case atStart => exact ⟨0, false, by omega, rfl, rfl, ⟨0, rfl⟩, ⟨(fun h => by cases h), (fun ⟨j, x, hj, _⟩ => by omega)⟩⟩
        case round =>
          obtain ⟨k, bb, hk, rfl, rfl, HD, HB⟩ := hrel
          have BR : Hid (Below xB.heap.size xB wr) := by obtain ⟨q, hq⟩ := HD.out; rw [hq]; exact Below.drewN (Below.refl _ _) q
          by_cases hkn : k < n
          · obtain ⟨x, hx⟩ : ∃ x, J[k]? = some x := ⟨_, List.getElem?_eq_getElem (by have := HIL.out; omega)⟩
            obtain ⟨ad, B1, j1, rfl, o1, g0, g1, g2, g3, g4, g5⟩ := (HI.out.below BR.out).atV hx
            obtain ⟨p0, p1, p2, p3, p4, p5⟩ := (OA.out.below BR.out).all6
            have hki : (k : Int) < (n : Int) := by omega
            have hk2 : (k : Int) + 1 ≤ 6000000000000 := by omega
            have HKN := Lib.hid hkn
            have HXX := Lib.hid hx
            clear hx hkn hk o1 BR
            go_upto_region 35 with fail
            cases bb with
            | true =>
              go_quiet (fail)
              clear g0 g1 g2 g3 g4 g5 p0 p1 p2 p3 p4 p5
              go_wp2_with fail
              go_roundw
              case rel =>
                obtain ⟨q, hq⟩ := HD.out
                exact ⟨k + 1, true, HKN.out, rfl, by go_num, ⟨q + nq, by rw [hq, World.drewN_drewN]⟩, ⟨(fun _ => by obtain ⟨j, x, hj, h⟩ := HB.out.1 rfl; exact ⟨j, x, by omega, h⟩), (fun _ => rfl)⟩⟩
              case measure => have := HKN.out; simp [intOf]; omega
            | false =>
              go_quiet (fail)
              obtain ⟨cc, hcc⟩ : ∃ cc, (x.n == a.n) = cc := ⟨_, rfl⟩
              rw [hcc]
              have HCC := Lib.hid hcc
              clear hcc g0 g1 g2 g3 g4 g5 p0 p1 p2 p3 p4 p5
              go_wp2_with fail
              go_roundw
              case rel =>
                obtain ⟨q, hq⟩ := HD.out
                refine ⟨k + 1, cc, HKN.out, rfl, by go_num, ⟨q + nq, by rw [hq, World.drewN_drewN]⟩, ⟨fun h => ⟨k, x, by omega, HXX.out, ?_⟩, fun ⟨j, y, hj, hy, he⟩ => ?_⟩⟩
                · have := HCC.out; rw [h] at this; exact beq_iff_eq.1 this
                · by_cases e : j = k
                  · subst e; rw [HXX.out] at hy; cases hy; rw [← HCC.out]; exact beq_iff_eq.2 he
                  · have := HB.out.2 ⟨j, y, by omega, hy, he⟩; cases this
              case measure => have := HKN.out; simp [intOf]; omega
          · obtain rfl : k = n := by omega
            have hki : ¬ (k : Int) < (k : Int) := by omega
            have BF := Lib.hid (BW.out.trans (BR.out.mono BW.out.size))
            have HEX : Hid ((∃ x ∈ J, x.n = a.n) ↔ bb = true) := ⟨(fun ⟨x, hx, e⟩ => by obtain ⟨j, hj⟩ := List.getElem?_of_mem hx; exact HB.out.2 ⟨j, x, by have := (List.getElem?_eq_some_iff.1 hj).1; have := HIL.out; omega, hj, e⟩), (fun h => by obtain ⟨j, x, _, hx, e⟩ := HB.out.1 h; exact ⟨x, List.mem_of_getElem? hx, e⟩)⟩
            clear hkn hk BR
            cases bb with
            | true =>
              obtain rfl : m = k := by rw [PL.out.1 (HEX.out.2 rfl), HIL.out]
              go_wp2_with fail
              go_ret
              exact ⟨rfl, BF.out⟩
            | false =>
              obtain rfl : m = k + 1 := by rw [PL.out.2 (fun h => by have := HEX.out.1 h; cases this), HIL.out]
              go_wp2_with fail
              go_ret
              exact ⟨rfl, BF.out⟩
end Go.Proofs.Ytjjobgolpedgeaa
