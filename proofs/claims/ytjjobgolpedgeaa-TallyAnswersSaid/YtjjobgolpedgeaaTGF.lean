/-
  Parts of the walks of TallyBallots and TallyAnswers. Merged by merge.py: TMayA, TCheckAnswer, TAnswersA.
-/
import Derived.Test.YtjjobgolpedgeaaTGA
import Derived.Test.YtjjobgolpedgeaaTGE
import Derived.Test.YtjjobgolpedgeaaTSmall
set_option linter.unusedVariables false
set_option linter.unusedSimpArgs false
namespace Go.Proofs.Ytjjobgolpedgeaa
open Go.RowKit

set_option maxHeartbeats 16000000 in
set_option maxRecDepth 100000 in
theorem mayAnswer_any (x : Lt) (A : Option Addr) (k : Nat) (cf cr cpp : Int) (cu : Bool) (rc : Nat) (w : World) (h : Ob w rc [.int .i64 cf, .int .i64 cr, .int .i64 cpp, .bool cu]) (hl : OkL w A k x.log) (hw : ∀ y ∈ x.log, (Lit.int .i64 y.n).wf = true) (f1 : 1 ≤ cf) (f2 : cf ≤ 3) :
    Calls Try.prog 125 #[x.agg A k, .pointer (some ⟨rc, 0, none⟩)] w fun e w' => e = .returned (.bool (Lt.mayA cf cr x)) ∧ Below w.heap.size w w' := by
  obtain ⟨n, hh, l, v, c, log⟩ := x
  obtain ⟨lb, hlb⟩ : ∃ lb, lgdF cr log c = lb := ⟨_, rfl⟩
  have F := Lib.hid (fun y (hy : Below w.heap.size w y) => (logged_any cf cr cpp cu A k log c y (hl.below hy) hw).mono (fun e w' (q : e = .returned (.bool (lgdF cr log c)) ∧ Below y.heap.size y w') => show e = .returned (.bool lb) ∧ Below y.heap.size y w' from hlb ▸ q))
  have hn : (log.length : Int) ≤ 6000000000000 := by have := hl.small; simp only at this; omega
  obtain ⟨R, hR⟩ : ∃ R, Lt.mayA cf cr ⟨n, hh, l, v, c, log⟩ = R := ⟨_, rfl⟩
  have HR : Hid (R = ((decide (0 ≤ v) && (decide (v ≤ 4294967296) && lb)) && (decide (log.length = 0) || decide (n = v.tmod (2 * cf + 1))))) := by rw [← hR]; unfold Lt.mayA Lt.may; rw [hlb]; exact rfl
  rw [hR]
  simp only [Lt.agg]
  obtain ⟨m, hm⟩ : ∃ m, log.length = m := ⟨_, rfl⟩
  rw [hm] at F hn HR ⊢
  obtain ⟨p0, p1, p2, p3⟩ := h.all4
  have z' : Hid (rc < w.heap.size) := h.lt (by simp)
  have zz := z'.out
  have HO := Lib.hid h
  have HF1 := Lib.hid f1
  have HF2 := Lib.hid f2
  clear h hl hw hlb hR hm f1 f2
  go_enter Try.func125, Try.ntmps125
  go_upto_region 1 with fail
  have OX := Lib.hid (Ob.fresh w #[.int .i64 n, .int .u64 (hh : Nat), .int .u64 (l : Nat), .int .i64 v, .int .i64 c, .slice A m k] 125)
  have OC := Lib.hid (HO.out.below (below_al w (.cells #[.int .i64 n, .int .u64 (hh : Nat), .int .u64 (l : Nat), .int .i64 v, .int .i64 c, .slice A m k] 125)))
  have BW := Lib.hid (below_al w (.cells #[.int .i64 n, .int .u64 (hh : Nat), .int .u64 (l : Nat), .int .i64 v, .int .i64 c, .slice A m k] 125))
  generalize w.alloc (.cells #[.int .i64 n, .int .u64 (hh : Nat), .int .u64 (l : Nat), .int .i64 v, .int .i64 c, .slice A m k] 125) = w1 at OX OC BW ⊢
  obtain ⟨r, hr⟩ : ∃ r, w.heap.size = r := ⟨_, rfl⟩
  rw [hr] at OX ⊢
  clear hr p0 p1 p2 p3
  have SX : Hid (∀ y, Below w1.heap.size w1 y → ((y.cell? ⟨rc, 0, none⟩ = some (.int .i64 cf) ∧ y.cell? ⟨rc, 1, none⟩ = some (.int .i64 cr) ∧ y.cell? ⟨rc, 2, none⟩ = some (.int .i64 cpp) ∧ y.cell? ⟨rc, 3, none⟩ = some (.bool cu)) ∧ (y.cell? ⟨r, 0, none⟩ = some (.int .i64 n) ∧ y.cell? ⟨r, 1, none⟩ = some (.int .u64 (hh : Nat)) ∧ y.cell? ⟨r, 2, none⟩ = some (.int .u64 (l : Nat)) ∧ y.cell? ⟨r, 3, none⟩ = some (.int .i64 v) ∧ y.cell? ⟨r, 4, none⟩ = some (.int .i64 c) ∧ y.cell? ⟨r, 5, none⟩ = some (.slice A m k)) ∧ Below w1.heap.size w1 y)) := fun y hb => ⟨(OC.out.below hb).all4, (OX.out.below hb).all6, hb⟩
  have F1 : Hid (∀ y, ((y.cell? ⟨rc, 0, none⟩ = some (.int .i64 cf) ∧ y.cell? ⟨rc, 1, none⟩ = some (.int .i64 cr) ∧ y.cell? ⟨rc, 2, none⟩ = some (.int .i64 cpp) ∧ y.cell? ⟨rc, 3, none⟩ = some (.bool cu)) ∧ (y.cell? ⟨r, 0, none⟩ = some (.int .i64 n) ∧ y.cell? ⟨r, 1, none⟩ = some (.int .u64 (hh : Nat)) ∧ y.cell? ⟨r, 2, none⟩ = some (.int .u64 (l : Nat)) ∧ y.cell? ⟨r, 3, none⟩ = some (.int .i64 v) ∧ y.cell? ⟨r, 4, none⟩ = some (.int .i64 c) ∧ y.cell? ⟨r, 5, none⟩ = some (.slice A m k)) ∧ Below w1.heap.size w1 y) → Calls Try.prog 126 #[.agg #[.int .i64 cf, .int .i64 cr, .int .i64 cpp, .bool cu], .slice A m k, .int .i64 c] y fun e y' => e = .returned (.bool lb) ∧ ((y'.cell? ⟨rc, 0, none⟩ = some (.int .i64 cf) ∧ y'.cell? ⟨rc, 1, none⟩ = some (.int .i64 cr) ∧ y'.cell? ⟨rc, 2, none⟩ = some (.int .i64 cpp) ∧ y'.cell? ⟨rc, 3, none⟩ = some (.bool cu)) ∧ (y'.cell? ⟨r, 0, none⟩ = some (.int .i64 n) ∧ y'.cell? ⟨r, 1, none⟩ = some (.int .u64 (hh : Nat)) ∧ y'.cell? ⟨r, 2, none⟩ = some (.int .u64 (l : Nat)) ∧ y'.cell? ⟨r, 3, none⟩ = some (.int .i64 v) ∧ y'.cell? ⟨r, 4, none⟩ = some (.int .i64 c) ∧ y'.cell? ⟨r, 5, none⟩ = some (.slice A m k)) ∧ Below w1.heap.size w1 y')) := fun y hy =>
    (F.out y (BW.out.trans (hy.2.2.mono BW.out.size))).mono fun e y' h9 => ⟨h9.1, SX.out _ (hy.2.2.trans (h9.2.mono hy.2.2.size))⟩
  obtain ⟨⟨p0, p1, p2, p3⟩, ⟨q0, q1, q2, q3, q4, q5⟩, _⟩ := SX.out _ (Below.refl _ _)
  clear F SX
  -- PRINTED FROM HERE
  by_cases h0 : 0 ≤ v
  case neg =>
    have HE : Hid (R = false) := by rw [HR.out, decide_eq_false h0, Bool.false_and, Bool.false_and]; exact rfl
    have d0 : decide (0 ≤ v) = false := decide_eq_false h0
    clear h0
    go_quiet (fail)
    go_wp2_with fail
    go_ret
    exact ⟨by rw [HE.out]; exact rfl, Below.drewN BW.out _⟩
  by_cases h1 : v ≤ 4294967296
  case neg =>
    have HE : Hid (R = false) := by rw [HR.out, decide_eq_false h1, Bool.false_and, Bool.and_false, Bool.false_and]; exact rfl
    have d0 : decide (0 ≤ v) = true := decide_eq_true h0
    have d1 : decide (v ≤ 4294967296) = false := decide_eq_false h1
    clear h0 h1
    go_quiet (fail)
    go_wp2_with fail
    go_ret
    exact ⟨by rw [HE.out]; exact rfl, Below.drewN BW.out _⟩
  have d0 : decide (0 ≤ v) = true := decide_eq_true h0
  have d1 : decide (v ≤ 4294967296) = true := decide_eq_true h1
  have HX : Hid (R = (lb && (decide (m = 0) || decide (n = v.tmod (2 * cf + 1))))) := by rw [HR.out, d0, d1, Bool.true_and, Bool.true_and]; exact rfl
  cases lb with
  | false =>
    have HE : Hid (R = false) := by rw [HX.out]; exact rfl
    refine wp_region_held_drew (S := (fun y => ((y.cell? ⟨rc, 0, none⟩ = some (.int .i64 cf) ∧ y.cell? ⟨rc, 1, none⟩ = some (.int .i64 cr) ∧ y.cell? ⟨rc, 2, none⟩ = some (.int .i64 cpp) ∧ y.cell? ⟨rc, 3, none⟩ = some (.bool cu)) ∧ (y.cell? ⟨r, 0, none⟩ = some (.int .i64 n) ∧ y.cell? ⟨r, 1, none⟩ = some (.int .u64 (hh : Nat)) ∧ y.cell? ⟨r, 2, none⟩ = some (.int .u64 (l : Nat)) ∧ y.cell? ⟨r, 3, none⟩ = some (.int .i64 v) ∧ y.cell? ⟨r, 4, none⟩ = some (.int .i64 c) ∧ y.cell? ⟨r, 5, none⟩ = some (.slice A m k)) ∧ Below w1.heap.size w1 y))) (by kernel_rfl) ⟨⟨p0, p1, p2, p3⟩, ⟨q0, q1, q2, q3, q4, q5⟩, Below.drew (Below.refl _ _)⟩ (fun hHeld => ?_)
    refine takeH0 (v := ?va0) (by kernel_rfl) (by kernel_rfl) (by kernel_rfl) (fun _ _ _ h => h) (by rfl) ?ya0 (by assumption) ?ra0
    case ya0 => (intro w hSw; (try dsimp only at hSw); go_simp; (try with_reducible rfl))
    try simp only [Act.put, List.setIfInBounds_toArray, List.set_cons_zero, List.set_cons_succ, d0, d1]
    refine takeH1 (v := ?va1) (by kernel_rfl) (by kernel_rfl) (by kernel_rfl) (fun _ _ _ h => h) (by rfl) ?ya1 (by assumption) ?ra1
    case ya1 => (intro w hSw; (try dsimp only at hSw); go_simp; (try with_reducible rfl))
    try simp only [Act.put, List.setIfInBounds_toArray, List.set_cons_zero, List.set_cons_succ, d0, d1]
    refine takeH2 (v := ?va2) (by kernel_rfl) (by kernel_rfl) (by kernel_rfl) (fun _ _ _ h => h) (by rfl) ?ya2 (by assumption) ?ra2
    case ya2 => (intro w hSw; (try dsimp only at hSw); go_simp; (try with_reducible rfl))
    try simp only [Act.put, List.setIfInBounds_toArray, List.set_cons_zero, List.set_cons_succ, d0, d1]
    refine takeH3 (v := ?va3) (by kernel_rfl) (by kernel_rfl) (by kernel_rfl) (fun _ _ _ h => h) (by rfl) ?ya3 (by assumption) ?ra3
    case ya3 => (intro w hSw; (try dsimp only at hSw); go_simp; (try with_reducible rfl))
    try simp only [Act.put, List.setIfInBounds_toArray, List.set_cons_zero, List.set_cons_succ, d0, d1]
    refine takeH4 (v := ?va4) (by kernel_rfl) (by kernel_rfl) (by kernel_rfl) (fun _ _ _ h => h) (by rfl) ?ya4 (by assumption) ?ra4
    case ya4 => (intro w hSw; (try dsimp only at hSw); go_simp; (try with_reducible rfl))
    try simp only [Act.put, List.setIfInBounds_toArray, List.set_cons_zero, List.set_cons_succ, d0, d1]
    refine takeH5 (v := ?va5) (by kernel_rfl) (by kernel_rfl) (by kernel_rfl) (fun _ _ _ h => h) (by rfl) ?ya5 (by assumption) ?ra5
    case ya5 => (intro w hSw; (try dsimp only at hSw); go_simp; (try with_reducible rfl))
    try simp only [Act.put, List.setIfInBounds_toArray, List.set_cons_zero, List.set_cons_succ, d0, d1]
    refine takeH6 (v := ?va6) (by kernel_rfl) (by kernel_rfl) (by kernel_rfl) (fun _ _ _ h => h) (by rfl) ?ya6 (by assumption) ?ra6
    case ya6 => (intro w hSw; (try dsimp only at hSw); go_simp; (try with_reducible rfl))
    try simp only [Act.put, List.setIfInBounds_toArray, List.set_cons_zero, List.set_cons_succ, d0, d1]
    refine takeH7 (v := ?va7) (by kernel_rfl) (by kernel_rfl) (by kernel_rfl) (fun _ _ _ h => h) (by rfl) ?ya7 (by assumption) ?ra7
    case ya7 => (intro w hSw; (try dsimp only at hSw); go_simp; (try with_reducible rfl))
    try simp only [Act.put, List.setIfInBounds_toArray, List.set_cons_zero, List.set_cons_succ, d0, d1]
    refine takeH8 (v := ?va8) (by kernel_rfl) (by kernel_rfl) (by kernel_rfl) (fun _ _ _ h => h) (by rfl) ?ya8 (by assumption) ?ra8
    case ya8 => (intro w hSw; (try dsimp only at hSw); go_simp; (try with_reducible rfl))
    try simp only [Act.put, List.setIfInBounds_toArray, List.set_cons_zero, List.set_cons_succ, d0, d1]
    refine takeH9 (v := ?va9) (by kernel_rfl) (by kernel_rfl) (by kernel_rfl) (fun _ _ _ h => h) (by rfl) ?ya9 (by assumption) ?ra9
    case ya9 => (intro w hSw; (try dsimp only at hSw); go_simp; (try with_reducible rfl))
    try simp only [Act.put, List.setIfInBounds_toArray, List.set_cons_zero, List.set_cons_succ, d0, d1]
    refine takeH10 (v := ?va10) (by kernel_rfl) (by kernel_rfl) (by kernel_rfl) (fun _ _ _ h => h) (by rfl) ?ya10 (by assumption) ?ra10
    case ya10 => (intro w hSw; (try dsimp only at hSw); go_simp; (try with_reducible rfl))
    try simp only [Act.put, List.setIfInBounds_toArray, List.set_cons_zero, List.set_cons_succ, d0, d1]
    refine takeH11 (v := ?va11) (by kernel_rfl) (by kernel_rfl) (by kernel_rfl) (fun _ _ _ h => h) (by rfl) ?ya11 (by assumption) ?ra11
    case ya11 => (intro w hSw; (try dsimp only at hSw); go_simp; (try with_reducible rfl))
    try simp only [Act.put, List.setIfInBounds_toArray, List.set_cons_zero, List.set_cons_succ, d0, d1]
    refine takeH12 (v := ?va12) (by kernel_rfl) (by kernel_rfl) (by kernel_rfl) (fun _ _ _ h => h) (by rfl) ?ya12 (by assumption) ?ra12
    case ya12 => (intro w hSw; (try dsimp only at hSw); go_simp; (try with_reducible rfl))
    try simp only [Act.put, List.setIfInBounds_toArray, List.set_cons_zero, List.set_cons_succ, d0, d1]
    refine takeH13 (v := ?va13) (by kernel_rfl) (by kernel_rfl) (by kernel_rfl) (fun _ _ _ h => h) (by rfl) ?ya13 (by assumption) ?ra13
    case ya13 => (intro w hSw; (try dsimp only at hSw); go_simp; (try with_reducible rfl))
    try simp only [Act.put, List.setIfInBounds_toArray, List.set_cons_zero, List.set_cons_succ, d0, d1]
    refine callH14 (by kernel_rfl) (fun K hK => ?_)
    first | (go_at_call 126; refine (F1.out _ hHeld).mono ?_; rintro e x' ⟨rfl, hx'⟩) | (go_simp; go_at_call 126; refine (F1.out _ hHeld).mono ?_; rintro e x' ⟨rfl, hx'⟩)
    refine hK.out _ _ hx' (fun hHeld2 => ?_)
    clear hK K
    try simp only [Act.put, List.setIfInBounds_toArray, List.set_cons_zero, List.set_cons_succ]
    refine takeH15 (v := ?va15) (by kernel_rfl) (by kernel_rfl) (by kernel_rfl) (fun _ _ _ h => h) (by rfl) ?ya15 (by assumption) ?ra15
    case ya15 => (intro w hSw; (try dsimp only at hSw); go_simp; (try with_reducible rfl))
    try simp only [Act.put, List.setIfInBounds_toArray, List.set_cons_zero, List.set_cons_succ, d0, d1]
    refine takeH16 (v := ?va16) (by kernel_rfl) (by kernel_rfl) (by kernel_rfl) (fun _ _ _ h => h) (by rfl) ?ya16 (by assumption) ?ra16
    case ya16 => (intro w hSw; (try dsimp only at hSw); go_simp; (try with_reducible rfl))
    try simp only [Act.put, List.setIfInBounds_toArray, List.set_cons_zero, List.set_cons_succ, d0, d1]
    refine skipH17 (by kernel_rfl) (by kernel_rfl) (by kernel_rfl) (fun _ _ _ h => h) (by rfl) (by assumption) ?_
    try simp only [Act.put, List.setIfInBounds_toArray, List.set_cons_zero, List.set_cons_succ]
    refine skipH18 (by kernel_rfl) (by kernel_rfl) (by kernel_rfl) (fun _ _ _ h => h) (by rfl) (by assumption) ?_
    try simp only [Act.put, List.setIfInBounds_toArray, List.set_cons_zero, List.set_cons_succ]
    refine skipH19 (by kernel_rfl) (by kernel_rfl) (by kernel_rfl) (fun _ _ _ h => h) (by rfl) (by assumption) ?_
    try simp only [Act.put, List.setIfInBounds_toArray, List.set_cons_zero, List.set_cons_succ]
    refine skipH20 (by kernel_rfl) (by kernel_rfl) (by kernel_rfl) (fun _ _ _ h => h) (by rfl) (by assumption) ?_
    try simp only [Act.put, List.setIfInBounds_toArray, List.set_cons_zero, List.set_cons_succ]
    refine skipH21 (by kernel_rfl) (by kernel_rfl) (by kernel_rfl) (fun _ _ _ h => h) (by rfl) (by assumption) ?_
    try simp only [Act.put, List.setIfInBounds_toArray, List.set_cons_zero, List.set_cons_succ]
    refine skipH22 (by kernel_rfl) (by kernel_rfl) (by kernel_rfl) (fun _ _ _ h => h) (by rfl) (by assumption) ?_
    try simp only [Act.put, List.setIfInBounds_toArray, List.set_cons_zero, List.set_cons_succ]
    refine skipH23 (by kernel_rfl) (by kernel_rfl) (by kernel_rfl) (fun _ _ _ h => h) (by rfl) (by assumption) ?_
    try simp only [Act.put, List.setIfInBounds_toArray, List.set_cons_zero, List.set_cons_succ]
    refine skipH24 (by kernel_rfl) (by kernel_rfl) (by kernel_rfl) (fun _ _ _ h => h) (by rfl) (by assumption) ?_
    try simp only [Act.put, List.setIfInBounds_toArray, List.set_cons_zero, List.set_cons_succ]
    refine skipH25 (by kernel_rfl) (by kernel_rfl) (by kernel_rfl) (fun _ _ _ h => h) (by rfl) (by assumption) ?_
    try simp only [Act.put, List.setIfInBounds_toArray, List.set_cons_zero, List.set_cons_succ]
    refine skipH26 (by kernel_rfl) (by kernel_rfl) (by kernel_rfl) (fun _ _ _ h => h) (by rfl) (by assumption) ?_
    try simp only [Act.put, List.setIfInBounds_toArray, List.set_cons_zero, List.set_cons_succ]
    refine skipH27 (by kernel_rfl) (by kernel_rfl) (by kernel_rfl) (fun _ _ _ h => h) (by rfl) (by assumption) ?_
    try simp only [Act.put, List.setIfInBounds_toArray, List.set_cons_zero, List.set_cons_succ]
    refine skipH28 (by kernel_rfl) (by kernel_rfl) (by kernel_rfl) (fun _ _ _ h => h) (by rfl) (by assumption) ?_
    try simp only [Act.put, List.setIfInBounds_toArray, List.set_cons_zero, List.set_cons_succ]
    refine skipH29 (by kernel_rfl) (by kernel_rfl) (by kernel_rfl) (fun _ _ _ h => h) (by rfl) (by assumption) ?_
    try simp only [Act.put, List.setIfInBounds_toArray, List.set_cons_zero, List.set_cons_succ]
    refine skipH30 (by kernel_rfl) (by kernel_rfl) (by kernel_rfl) (fun _ _ _ h => h) (by rfl) (by assumption) ?_
    try simp only [Act.put, List.setIfInBounds_toArray, List.set_cons_zero, List.set_cons_succ]
    refine skipH31 (by kernel_rfl) (by kernel_rfl) (by kernel_rfl) (fun _ _ _ h => h) (by rfl) (by assumption) ?_
    try simp only [Act.put, List.setIfInBounds_toArray, List.set_cons_zero, List.set_cons_succ]
    refine skipH32 (by kernel_rfl) (by kernel_rfl) (by kernel_rfl) (fun _ _ _ h => h) (by rfl) (by assumption) ?_
    try simp only [Act.put, List.setIfInBounds_toArray, List.set_cons_zero, List.set_cons_succ]
    refine takeH33 (v := ?va33) (by kernel_rfl) (by kernel_rfl) (by kernel_rfl) (fun _ _ _ h => h) (by rfl) ?ya33 (by assumption) ?ra33
    case ya33 => (intro w hSw; (try dsimp only at hSw); go_simp; (try with_reducible rfl))
    try simp only [Act.put, List.setIfInBounds_toArray, List.set_cons_zero, List.set_cons_succ, d0, d1]
    refine takeH34 (v := ?va34) (by kernel_rfl) (by kernel_rfl) (by kernel_rfl) (fun _ _ _ h => h) (by rfl) ?ya34 (by assumption) ?ra34
    case ya34 => (intro w hSw; (try dsimp only at hSw); go_simp; (try with_reducible rfl))
    try simp only [Act.put, List.setIfInBounds_toArray, List.set_cons_zero, List.set_cons_succ, d0, d1]
    refine wpAnyH_done (by kernel_rfl) ?_ _
    have B3 : Hid (Below w.heap.size w x') := BW.out.trans (hx'.2.2.mono BW.out.size)
    clear hx' F1 q0 q1 q2 q3 q4 q5 p0 p1 p2 p3
    go_wp2_with fail
    go_ret
    exact ⟨by rw [HE.out]; exact rfl, B3.out⟩
  | true =>
    by_cases hm0 : m = 0
    case pos =>
      have dm : ((m : Int) == 0) = true := by rw [hm0]; rfl
      have HE : Hid (R = true) := by rw [HX.out, decide_eq_true hm0]; exact rfl
      clear hm0
      refine wp_region_held_drew (S := (fun y => ((y.cell? ⟨rc, 0, none⟩ = some (.int .i64 cf) ∧ y.cell? ⟨rc, 1, none⟩ = some (.int .i64 cr) ∧ y.cell? ⟨rc, 2, none⟩ = some (.int .i64 cpp) ∧ y.cell? ⟨rc, 3, none⟩ = some (.bool cu)) ∧ (y.cell? ⟨r, 0, none⟩ = some (.int .i64 n) ∧ y.cell? ⟨r, 1, none⟩ = some (.int .u64 (hh : Nat)) ∧ y.cell? ⟨r, 2, none⟩ = some (.int .u64 (l : Nat)) ∧ y.cell? ⟨r, 3, none⟩ = some (.int .i64 v) ∧ y.cell? ⟨r, 4, none⟩ = some (.int .i64 c) ∧ y.cell? ⟨r, 5, none⟩ = some (.slice A m k)) ∧ Below w1.heap.size w1 y))) (by kernel_rfl) ⟨⟨p0, p1, p2, p3⟩, ⟨q0, q1, q2, q3, q4, q5⟩, Below.drew (Below.refl _ _)⟩ (fun hHeld => ?_)
      refine takeH0 (v := ?vb0) (by kernel_rfl) (by kernel_rfl) (by kernel_rfl) (fun _ _ _ h => h) (by rfl) ?yb0 (by assumption) ?rb0
      case yb0 => (intro w hSw; (try dsimp only at hSw); go_simp; (try with_reducible rfl))
      try simp only [Act.put, List.setIfInBounds_toArray, List.set_cons_zero, List.set_cons_succ, d0, d1, dm]
      refine takeH1 (v := ?vb1) (by kernel_rfl) (by kernel_rfl) (by kernel_rfl) (fun _ _ _ h => h) (by rfl) ?yb1 (by assumption) ?rb1
      case yb1 => (intro w hSw; (try dsimp only at hSw); go_simp; (try with_reducible rfl))
      try simp only [Act.put, List.setIfInBounds_toArray, List.set_cons_zero, List.set_cons_succ, d0, d1, dm]
      refine takeH2 (v := ?vb2) (by kernel_rfl) (by kernel_rfl) (by kernel_rfl) (fun _ _ _ h => h) (by rfl) ?yb2 (by assumption) ?rb2
      case yb2 => (intro w hSw; (try dsimp only at hSw); go_simp; (try with_reducible rfl))
      try simp only [Act.put, List.setIfInBounds_toArray, List.set_cons_zero, List.set_cons_succ, d0, d1, dm]
      refine takeH3 (v := ?vb3) (by kernel_rfl) (by kernel_rfl) (by kernel_rfl) (fun _ _ _ h => h) (by rfl) ?yb3 (by assumption) ?rb3
      case yb3 => (intro w hSw; (try dsimp only at hSw); go_simp; (try with_reducible rfl))
      try simp only [Act.put, List.setIfInBounds_toArray, List.set_cons_zero, List.set_cons_succ, d0, d1, dm]
      refine takeH4 (v := ?vb4) (by kernel_rfl) (by kernel_rfl) (by kernel_rfl) (fun _ _ _ h => h) (by rfl) ?yb4 (by assumption) ?rb4
      case yb4 => (intro w hSw; (try dsimp only at hSw); go_simp; (try with_reducible rfl))
      try simp only [Act.put, List.setIfInBounds_toArray, List.set_cons_zero, List.set_cons_succ, d0, d1, dm]
      refine takeH5 (v := ?vb5) (by kernel_rfl) (by kernel_rfl) (by kernel_rfl) (fun _ _ _ h => h) (by rfl) ?yb5 (by assumption) ?rb5
      case yb5 => (intro w hSw; (try dsimp only at hSw); go_simp; (try with_reducible rfl))
      try simp only [Act.put, List.setIfInBounds_toArray, List.set_cons_zero, List.set_cons_succ, d0, d1, dm]
      refine takeH6 (v := ?vb6) (by kernel_rfl) (by kernel_rfl) (by kernel_rfl) (fun _ _ _ h => h) (by rfl) ?yb6 (by assumption) ?rb6
      case yb6 => (intro w hSw; (try dsimp only at hSw); go_simp; (try with_reducible rfl))
      try simp only [Act.put, List.setIfInBounds_toArray, List.set_cons_zero, List.set_cons_succ, d0, d1, dm]
      refine takeH7 (v := ?vb7) (by kernel_rfl) (by kernel_rfl) (by kernel_rfl) (fun _ _ _ h => h) (by rfl) ?yb7 (by assumption) ?rb7
      case yb7 => (intro w hSw; (try dsimp only at hSw); go_simp; (try with_reducible rfl))
      try simp only [Act.put, List.setIfInBounds_toArray, List.set_cons_zero, List.set_cons_succ, d0, d1, dm]
      refine takeH8 (v := ?vb8) (by kernel_rfl) (by kernel_rfl) (by kernel_rfl) (fun _ _ _ h => h) (by rfl) ?yb8 (by assumption) ?rb8
      case yb8 => (intro w hSw; (try dsimp only at hSw); go_simp; (try with_reducible rfl))
      try simp only [Act.put, List.setIfInBounds_toArray, List.set_cons_zero, List.set_cons_succ, d0, d1, dm]
      refine takeH9 (v := ?vb9) (by kernel_rfl) (by kernel_rfl) (by kernel_rfl) (fun _ _ _ h => h) (by rfl) ?yb9 (by assumption) ?rb9
      case yb9 => (intro w hSw; (try dsimp only at hSw); go_simp; (try with_reducible rfl))
      try simp only [Act.put, List.setIfInBounds_toArray, List.set_cons_zero, List.set_cons_succ, d0, d1, dm]
      refine takeH10 (v := ?vb10) (by kernel_rfl) (by kernel_rfl) (by kernel_rfl) (fun _ _ _ h => h) (by rfl) ?yb10 (by assumption) ?rb10
      case yb10 => (intro w hSw; (try dsimp only at hSw); go_simp; (try with_reducible rfl))
      try simp only [Act.put, List.setIfInBounds_toArray, List.set_cons_zero, List.set_cons_succ, d0, d1, dm]
      refine takeH11 (v := ?vb11) (by kernel_rfl) (by kernel_rfl) (by kernel_rfl) (fun _ _ _ h => h) (by rfl) ?yb11 (by assumption) ?rb11
      case yb11 => (intro w hSw; (try dsimp only at hSw); go_simp; (try with_reducible rfl))
      try simp only [Act.put, List.setIfInBounds_toArray, List.set_cons_zero, List.set_cons_succ, d0, d1, dm]
      refine takeH12 (v := ?vb12) (by kernel_rfl) (by kernel_rfl) (by kernel_rfl) (fun _ _ _ h => h) (by rfl) ?yb12 (by assumption) ?rb12
      case yb12 => (intro w hSw; (try dsimp only at hSw); go_simp; (try with_reducible rfl))
      try simp only [Act.put, List.setIfInBounds_toArray, List.set_cons_zero, List.set_cons_succ, d0, d1, dm]
      refine takeH13 (v := ?vb13) (by kernel_rfl) (by kernel_rfl) (by kernel_rfl) (fun _ _ _ h => h) (by rfl) ?yb13 (by assumption) ?rb13
      case yb13 => (intro w hSw; (try dsimp only at hSw); go_simp; (try with_reducible rfl))
      try simp only [Act.put, List.setIfInBounds_toArray, List.set_cons_zero, List.set_cons_succ, d0, d1, dm]
      refine callH14 (by kernel_rfl) (fun K hK => ?_)
      first | (go_at_call 126; refine (F1.out _ hHeld).mono ?_; rintro e x' ⟨rfl, hx'⟩) | (go_simp; go_at_call 126; refine (F1.out _ hHeld).mono ?_; rintro e x' ⟨rfl, hx'⟩)
      refine hK.out _ _ hx' (fun hHeld2 => ?_)
      clear hK K
      try simp only [Act.put, List.setIfInBounds_toArray, List.set_cons_zero, List.set_cons_succ]
      refine takeH15 (v := ?vb15) (by kernel_rfl) (by kernel_rfl) (by kernel_rfl) (fun _ _ _ h => h) (by rfl) ?yb15 (by assumption) ?rb15
      case yb15 => (intro w hSw; (try dsimp only at hSw); go_simp; (try with_reducible rfl))
      try simp only [Act.put, List.setIfInBounds_toArray, List.set_cons_zero, List.set_cons_succ, d0, d1, dm]
      refine takeH16 (v := ?vb16) (by kernel_rfl) (by kernel_rfl) (by kernel_rfl) (fun _ _ _ h => h) (by rfl) ?yb16 (by assumption) ?rb16
      case yb16 => (intro w hSw; (try dsimp only at hSw); go_simp; (try with_reducible rfl))
      try simp only [Act.put, List.setIfInBounds_toArray, List.set_cons_zero, List.set_cons_succ, d0, d1, dm]
      refine takeH17 (v := ?vb17) (by kernel_rfl) (by kernel_rfl) (by kernel_rfl) (fun _ _ _ h => h) (by rfl) ?yb17 (by assumption) ?rb17
      case yb17 => (intro w hSw; (try dsimp only at hSw); go_simp; (try with_reducible rfl))
      try simp only [Act.put, List.setIfInBounds_toArray, List.set_cons_zero, List.set_cons_succ, d0, d1, dm]
      refine takeH18 (v := ?vb18) (by kernel_rfl) (by kernel_rfl) (by kernel_rfl) (fun _ _ _ h => h) (by rfl) ?yb18 (by assumption) ?rb18
      case yb18 => (intro w hSw; (try dsimp only at hSw); go_simp; (try with_reducible rfl))
      try simp only [Act.put, List.setIfInBounds_toArray, List.set_cons_zero, List.set_cons_succ, d0, d1, dm]
      refine takeH19 (v := ?vb19) (by kernel_rfl) (by kernel_rfl) (by kernel_rfl) (fun _ _ _ h => h) (by rfl) ?yb19 (by assumption) ?rb19
      case yb19 => (intro w hSw; (try dsimp only at hSw); go_simp; (try with_reducible rfl))
      try simp only [Act.put, List.setIfInBounds_toArray, List.set_cons_zero, List.set_cons_succ, d0, d1, dm]
      refine takeH20 (v := ?vb20) (by kernel_rfl) (by kernel_rfl) (by kernel_rfl) (fun _ _ _ h => h) (by rfl) ?yb20 (by assumption) ?rb20
      case yb20 => (intro w hSw; (try dsimp only at hSw); go_simp; (try with_reducible rfl))
      try simp only [Act.put, List.setIfInBounds_toArray, List.set_cons_zero, List.set_cons_succ, d0, d1, dm]
      refine takeH21 (v := ?vb21) (by kernel_rfl) (by kernel_rfl) (by kernel_rfl) (fun _ _ _ h => h) (by rfl) ?yb21 (by assumption) ?rb21
      case yb21 => (intro w hSw; (try dsimp only at hSw); go_simp; (try with_reducible rfl))
      try simp only [Act.put, List.setIfInBounds_toArray, List.set_cons_zero, List.set_cons_succ, d0, d1, dm]
      refine skipH22 (by kernel_rfl) (by kernel_rfl) (by kernel_rfl) (fun _ _ _ h => h) (by rfl) (by assumption) ?_
      try simp only [Act.put, List.setIfInBounds_toArray, List.set_cons_zero, List.set_cons_succ]
      refine skipH23 (by kernel_rfl) (by kernel_rfl) (by kernel_rfl) (fun _ _ _ h => h) (by rfl) (by assumption) ?_
      try simp only [Act.put, List.setIfInBounds_toArray, List.set_cons_zero, List.set_cons_succ]
      refine skipH24 (by kernel_rfl) (by kernel_rfl) (by kernel_rfl) (fun _ _ _ h => h) (by rfl) (by assumption) ?_
      try simp only [Act.put, List.setIfInBounds_toArray, List.set_cons_zero, List.set_cons_succ]
      refine skipH25 (by kernel_rfl) (by kernel_rfl) (by kernel_rfl) (fun _ _ _ h => h) (by rfl) (by assumption) ?_
      try simp only [Act.put, List.setIfInBounds_toArray, List.set_cons_zero, List.set_cons_succ]
      refine skipH26 (by kernel_rfl) (by kernel_rfl) (by kernel_rfl) (fun _ _ _ h => h) (by rfl) (by assumption) ?_
      try simp only [Act.put, List.setIfInBounds_toArray, List.set_cons_zero, List.set_cons_succ]
      refine skipH27 (by kernel_rfl) (by kernel_rfl) (by kernel_rfl) (fun _ _ _ h => h) (by rfl) (by assumption) ?_
      try simp only [Act.put, List.setIfInBounds_toArray, List.set_cons_zero, List.set_cons_succ]
      refine skipH28 (by kernel_rfl) (by kernel_rfl) (by kernel_rfl) (fun _ _ _ h => h) (by rfl) (by assumption) ?_
      try simp only [Act.put, List.setIfInBounds_toArray, List.set_cons_zero, List.set_cons_succ]
      refine skipH29 (by kernel_rfl) (by kernel_rfl) (by kernel_rfl) (fun _ _ _ h => h) (by rfl) (by assumption) ?_
      try simp only [Act.put, List.setIfInBounds_toArray, List.set_cons_zero, List.set_cons_succ]
      refine skipH30 (by kernel_rfl) (by kernel_rfl) (by kernel_rfl) (fun _ _ _ h => h) (by rfl) (by assumption) ?_
      try simp only [Act.put, List.setIfInBounds_toArray, List.set_cons_zero, List.set_cons_succ]
      refine skipH31 (by kernel_rfl) (by kernel_rfl) (by kernel_rfl) (fun _ _ _ h => h) (by rfl) (by assumption) ?_
      try simp only [Act.put, List.setIfInBounds_toArray, List.set_cons_zero, List.set_cons_succ]
      refine takeH32 (v := ?vb32) (by kernel_rfl) (by kernel_rfl) (by kernel_rfl) (fun _ _ _ h => h) (by rfl) ?yb32 (by assumption) ?rb32
      case yb32 => (intro w hSw; (try dsimp only at hSw); go_simp; (try with_reducible rfl))
      try simp only [Act.put, List.setIfInBounds_toArray, List.set_cons_zero, List.set_cons_succ, d0, d1, dm]
      refine takeH33 (v := ?vb33) (by kernel_rfl) (by kernel_rfl) (by kernel_rfl) (fun _ _ _ h => h) (by rfl) ?yb33 (by assumption) ?rb33
      case yb33 => (intro w hSw; (try dsimp only at hSw); go_simp; (try with_reducible rfl))
      try simp only [Act.put, List.setIfInBounds_toArray, List.set_cons_zero, List.set_cons_succ, d0, d1, dm]
      refine takeH34 (v := ?vb34) (by kernel_rfl) (by kernel_rfl) (by kernel_rfl) (fun _ _ _ h => h) (by rfl) ?yb34 (by assumption) ?rb34
      case yb34 => (intro w hSw; (try dsimp only at hSw); go_simp; (try with_reducible rfl))
      try simp only [Act.put, List.setIfInBounds_toArray, List.set_cons_zero, List.set_cons_succ, d0, d1, dm]
      refine wpAnyH_done (by kernel_rfl) ?_ _
      have B3 : Hid (Below w.heap.size w x') := BW.out.trans (hx'.2.2.mono BW.out.size)
      clear hx' F1 q0 q1 q2 q3 q4 q5 p0 p1 p2 p3
      go_wp2_with fail
      go_ret
      exact ⟨by rw [HE.out]; exact rfl, B3.out⟩
    case neg =>
      have dm : ((m : Int) == 0) = false := beq_eq_false_iff_ne.2 (by omega)
      have e1 : IntKind.i64.wrap (2 * cf) = 2 * cf := by have := HF1.out; have := HF2.out; rw [IntKind.wrap_i64]; omega
      have e2 : IntKind.i64.wrap (2 * cf + 1) = 2 * cf + 1 := by have := HF1.out; have := HF2.out; rw [IntKind.wrap_i64]; omega
      have e3 : IntKind.i64.wrap (v.tmod (2 * cf + 1)) = v.tmod (2 * cf + 1) := by have := HF1.out; have := HF2.out; have := tmod_in v (2 * cf + 1) (by omega); rw [IntKind.wrap_i64]; omega
      have e4 : ¬ 2 * cf + 1 = 0 := by have := HF1.out; omega
      have HE : Hid (R = (n == v.tmod (2 * cf + 1))) := by
        rw [HX.out, Bool.true_and, decide_eq_false hm0, Bool.false_or]
        by_cases hq : n = v.tmod (2 * cf + 1)
        · rw [decide_eq_true hq, beq_iff_eq.2 hq]; exact rfl
        · rw [decide_eq_false hq, beq_eq_false_iff_ne.2 hq]; exact rfl
      clear hm0
      obtain ⟨bq, hbq⟩ : ∃ bq, (n == v.tmod (2 * cf + 1)) = bq := ⟨_, rfl⟩
      rw [hbq] at HE
      refine wp_region_held_drew (S := (fun y => ((y.cell? ⟨rc, 0, none⟩ = some (.int .i64 cf) ∧ y.cell? ⟨rc, 1, none⟩ = some (.int .i64 cr) ∧ y.cell? ⟨rc, 2, none⟩ = some (.int .i64 cpp) ∧ y.cell? ⟨rc, 3, none⟩ = some (.bool cu)) ∧ (y.cell? ⟨r, 0, none⟩ = some (.int .i64 n) ∧ y.cell? ⟨r, 1, none⟩ = some (.int .u64 (hh : Nat)) ∧ y.cell? ⟨r, 2, none⟩ = some (.int .u64 (l : Nat)) ∧ y.cell? ⟨r, 3, none⟩ = some (.int .i64 v) ∧ y.cell? ⟨r, 4, none⟩ = some (.int .i64 c) ∧ y.cell? ⟨r, 5, none⟩ = some (.slice A m k)) ∧ Below w1.heap.size w1 y))) (by kernel_rfl) ⟨⟨p0, p1, p2, p3⟩, ⟨q0, q1, q2, q3, q4, q5⟩, Below.drew (Below.refl _ _)⟩ (fun hHeld => ?_)
      refine takeH0 (v := ?vc0) (by kernel_rfl) (by kernel_rfl) (by kernel_rfl) (fun _ _ _ h => h) (by rfl) ?yc0 (by assumption) ?rc0
      case yc0 => (intro w hSw; (try dsimp only at hSw); go_simp; (try with_reducible rfl))
      try simp only [Act.put, List.setIfInBounds_toArray, List.set_cons_zero, List.set_cons_succ, d0, d1, dm, e1, e2, e3, hbq]
      refine takeH1 (v := ?vc1) (by kernel_rfl) (by kernel_rfl) (by kernel_rfl) (fun _ _ _ h => h) (by rfl) ?yc1 (by assumption) ?rc1
      case yc1 => (intro w hSw; (try dsimp only at hSw); go_simp; (try with_reducible rfl))
      try simp only [Act.put, List.setIfInBounds_toArray, List.set_cons_zero, List.set_cons_succ, d0, d1, dm, e1, e2, e3, hbq]
      refine takeH2 (v := ?vc2) (by kernel_rfl) (by kernel_rfl) (by kernel_rfl) (fun _ _ _ h => h) (by rfl) ?yc2 (by assumption) ?rc2
      case yc2 => (intro w hSw; (try dsimp only at hSw); go_simp; (try with_reducible rfl))
      try simp only [Act.put, List.setIfInBounds_toArray, List.set_cons_zero, List.set_cons_succ, d0, d1, dm, e1, e2, e3, hbq]
      refine takeH3 (v := ?vc3) (by kernel_rfl) (by kernel_rfl) (by kernel_rfl) (fun _ _ _ h => h) (by rfl) ?yc3 (by assumption) ?rc3
      case yc3 => (intro w hSw; (try dsimp only at hSw); go_simp; (try with_reducible rfl))
      try simp only [Act.put, List.setIfInBounds_toArray, List.set_cons_zero, List.set_cons_succ, d0, d1, dm, e1, e2, e3, hbq]
      refine takeH4 (v := ?vc4) (by kernel_rfl) (by kernel_rfl) (by kernel_rfl) (fun _ _ _ h => h) (by rfl) ?yc4 (by assumption) ?rc4
      case yc4 => (intro w hSw; (try dsimp only at hSw); go_simp; (try with_reducible rfl))
      try simp only [Act.put, List.setIfInBounds_toArray, List.set_cons_zero, List.set_cons_succ, d0, d1, dm, e1, e2, e3, hbq]
      refine takeH5 (v := ?vc5) (by kernel_rfl) (by kernel_rfl) (by kernel_rfl) (fun _ _ _ h => h) (by rfl) ?yc5 (by assumption) ?rc5
      case yc5 => (intro w hSw; (try dsimp only at hSw); go_simp; (try with_reducible rfl))
      try simp only [Act.put, List.setIfInBounds_toArray, List.set_cons_zero, List.set_cons_succ, d0, d1, dm, e1, e2, e3, hbq]
      refine takeH6 (v := ?vc6) (by kernel_rfl) (by kernel_rfl) (by kernel_rfl) (fun _ _ _ h => h) (by rfl) ?yc6 (by assumption) ?rc6
      case yc6 => (intro w hSw; (try dsimp only at hSw); go_simp; (try with_reducible rfl))
      try simp only [Act.put, List.setIfInBounds_toArray, List.set_cons_zero, List.set_cons_succ, d0, d1, dm, e1, e2, e3, hbq]
      refine takeH7 (v := ?vc7) (by kernel_rfl) (by kernel_rfl) (by kernel_rfl) (fun _ _ _ h => h) (by rfl) ?yc7 (by assumption) ?rc7
      case yc7 => (intro w hSw; (try dsimp only at hSw); go_simp; (try with_reducible rfl))
      try simp only [Act.put, List.setIfInBounds_toArray, List.set_cons_zero, List.set_cons_succ, d0, d1, dm, e1, e2, e3, hbq]
      refine takeH8 (v := ?vc8) (by kernel_rfl) (by kernel_rfl) (by kernel_rfl) (fun _ _ _ h => h) (by rfl) ?yc8 (by assumption) ?rc8
      case yc8 => (intro w hSw; (try dsimp only at hSw); go_simp; (try with_reducible rfl))
      try simp only [Act.put, List.setIfInBounds_toArray, List.set_cons_zero, List.set_cons_succ, d0, d1, dm, e1, e2, e3, hbq]
      refine takeH9 (v := ?vc9) (by kernel_rfl) (by kernel_rfl) (by kernel_rfl) (fun _ _ _ h => h) (by rfl) ?yc9 (by assumption) ?rc9
      case yc9 => (intro w hSw; (try dsimp only at hSw); go_simp; (try with_reducible rfl))
      try simp only [Act.put, List.setIfInBounds_toArray, List.set_cons_zero, List.set_cons_succ, d0, d1, dm, e1, e2, e3, hbq]
      refine takeH10 (v := ?vc10) (by kernel_rfl) (by kernel_rfl) (by kernel_rfl) (fun _ _ _ h => h) (by rfl) ?yc10 (by assumption) ?rc10
      case yc10 => (intro w hSw; (try dsimp only at hSw); go_simp; (try with_reducible rfl))
      try simp only [Act.put, List.setIfInBounds_toArray, List.set_cons_zero, List.set_cons_succ, d0, d1, dm, e1, e2, e3, hbq]
      refine takeH11 (v := ?vc11) (by kernel_rfl) (by kernel_rfl) (by kernel_rfl) (fun _ _ _ h => h) (by rfl) ?yc11 (by assumption) ?rc11
      case yc11 => (intro w hSw; (try dsimp only at hSw); go_simp; (try with_reducible rfl))
      try simp only [Act.put, List.setIfInBounds_toArray, List.set_cons_zero, List.set_cons_succ, d0, d1, dm, e1, e2, e3, hbq]
      refine takeH12 (v := ?vc12) (by kernel_rfl) (by kernel_rfl) (by kernel_rfl) (fun _ _ _ h => h) (by rfl) ?yc12 (by assumption) ?rc12
      case yc12 => (intro w hSw; (try dsimp only at hSw); go_simp; (try with_reducible rfl))
      try simp only [Act.put, List.setIfInBounds_toArray, List.set_cons_zero, List.set_cons_succ, d0, d1, dm, e1, e2, e3, hbq]
      refine takeH13 (v := ?vc13) (by kernel_rfl) (by kernel_rfl) (by kernel_rfl) (fun _ _ _ h => h) (by rfl) ?yc13 (by assumption) ?rc13
      case yc13 => (intro w hSw; (try dsimp only at hSw); go_simp; (try with_reducible rfl))
      try simp only [Act.put, List.setIfInBounds_toArray, List.set_cons_zero, List.set_cons_succ, d0, d1, dm, e1, e2, e3, hbq]
      refine callH14 (by kernel_rfl) (fun K hK => ?_)
      first | (go_at_call 126; refine (F1.out _ hHeld).mono ?_; rintro e x' ⟨rfl, hx'⟩) | (go_simp; go_at_call 126; refine (F1.out _ hHeld).mono ?_; rintro e x' ⟨rfl, hx'⟩)
      refine hK.out _ _ hx' (fun hHeld2 => ?_)
      clear hK K
      try simp only [Act.put, List.setIfInBounds_toArray, List.set_cons_zero, List.set_cons_succ]
      refine takeH15 (v := ?vc15) (by kernel_rfl) (by kernel_rfl) (by kernel_rfl) (fun _ _ _ h => h) (by rfl) ?yc15 (by assumption) ?rc15
      case yc15 => (intro w hSw; (try dsimp only at hSw); go_simp; (try with_reducible rfl))
      try simp only [Act.put, List.setIfInBounds_toArray, List.set_cons_zero, List.set_cons_succ, d0, d1, dm, e1, e2, e3, hbq]
      refine takeH16 (v := ?vc16) (by kernel_rfl) (by kernel_rfl) (by kernel_rfl) (fun _ _ _ h => h) (by rfl) ?yc16 (by assumption) ?rc16
      case yc16 => (intro w hSw; (try dsimp only at hSw); go_simp; (try with_reducible rfl))
      try simp only [Act.put, List.setIfInBounds_toArray, List.set_cons_zero, List.set_cons_succ, d0, d1, dm, e1, e2, e3, hbq]
      refine takeH17 (v := ?vc17) (by kernel_rfl) (by kernel_rfl) (by kernel_rfl) (fun _ _ _ h => h) (by rfl) ?yc17 (by assumption) ?rc17
      case yc17 => (intro w hSw; (try dsimp only at hSw); go_simp; (try with_reducible rfl))
      try simp only [Act.put, List.setIfInBounds_toArray, List.set_cons_zero, List.set_cons_succ, d0, d1, dm, e1, e2, e3, hbq]
      refine takeH18 (v := ?vc18) (by kernel_rfl) (by kernel_rfl) (by kernel_rfl) (fun _ _ _ h => h) (by rfl) ?yc18 (by assumption) ?rc18
      case yc18 => (intro w hSw; (try dsimp only at hSw); go_simp; (try with_reducible rfl))
      try simp only [Act.put, List.setIfInBounds_toArray, List.set_cons_zero, List.set_cons_succ, d0, d1, dm, e1, e2, e3, hbq]
      refine takeH19 (v := ?vc19) (by kernel_rfl) (by kernel_rfl) (by kernel_rfl) (fun _ _ _ h => h) (by rfl) ?yc19 (by assumption) ?rc19
      case yc19 => (intro w hSw; (try dsimp only at hSw); go_simp; (try with_reducible rfl))
      try simp only [Act.put, List.setIfInBounds_toArray, List.set_cons_zero, List.set_cons_succ, d0, d1, dm, e1, e2, e3, hbq]
      refine takeH20 (v := ?vc20) (by kernel_rfl) (by kernel_rfl) (by kernel_rfl) (fun _ _ _ h => h) (by rfl) ?yc20 (by assumption) ?rc20
      case yc20 => (intro w hSw; (try dsimp only at hSw); go_simp; (try with_reducible rfl))
      try simp only [Act.put, List.setIfInBounds_toArray, List.set_cons_zero, List.set_cons_succ, d0, d1, dm, e1, e2, e3, hbq]
      refine takeH21 (v := ?vc21) (by kernel_rfl) (by kernel_rfl) (by kernel_rfl) (fun _ _ _ h => h) (by rfl) ?yc21 (by assumption) ?rc21
      case yc21 => (intro w hSw; (try dsimp only at hSw); go_simp; (try with_reducible rfl))
      try simp only [Act.put, List.setIfInBounds_toArray, List.set_cons_zero, List.set_cons_succ, d0, d1, dm, e1, e2, e3, hbq]
      refine takeH22 (v := ?vc22) (by kernel_rfl) (by kernel_rfl) (by kernel_rfl) (fun _ _ _ h => h) (by rfl) ?yc22 (by assumption) ?rc22
      case yc22 => (intro w hSw; (try dsimp only at hSw); go_simp; (try with_reducible rfl))
      try simp only [Act.put, List.setIfInBounds_toArray, List.set_cons_zero, List.set_cons_succ, d0, d1, dm, e1, e2, e3, hbq]
      refine takeH23 (v := ?vc23) (by kernel_rfl) (by kernel_rfl) (by kernel_rfl) (fun _ _ _ h => h) (by rfl) ?yc23 (by assumption) ?rc23
      case yc23 => (intro w hSw; (try dsimp only at hSw); go_simp; (try with_reducible rfl))
      try simp only [Act.put, List.setIfInBounds_toArray, List.set_cons_zero, List.set_cons_succ, d0, d1, dm, e1, e2, e3, hbq]
      refine takeH24 (v := ?vc24) (by kernel_rfl) (by kernel_rfl) (by kernel_rfl) (fun _ _ _ h => h) (by rfl) ?yc24 (by assumption) ?rc24
      case yc24 => (intro w hSw; (try dsimp only at hSw); go_simp; (try with_reducible rfl))
      try simp only [Act.put, List.setIfInBounds_toArray, List.set_cons_zero, List.set_cons_succ, d0, d1, dm, e1, e2, e3, hbq]
      refine takeH25 (v := ?vc25) (by kernel_rfl) (by kernel_rfl) (by kernel_rfl) (fun _ _ _ h => h) (by rfl) ?yc25 (by assumption) ?rc25
      case yc25 => (intro w hSw; (try dsimp only at hSw); go_simp; (try with_reducible rfl))
      try simp only [Act.put, List.setIfInBounds_toArray, List.set_cons_zero, List.set_cons_succ, d0, d1, dm, e1, e2, e3, hbq]
      refine takeH26 (v := ?vc26) (by kernel_rfl) (by kernel_rfl) (by kernel_rfl) (fun _ _ _ h => h) (by rfl) ?yc26 (by assumption) ?rc26
      case yc26 => (intro w hSw; (try dsimp only at hSw); go_simp; (try with_reducible rfl))
      try simp only [Act.put, List.setIfInBounds_toArray, List.set_cons_zero, List.set_cons_succ, d0, d1, dm, e1, e2, e3, hbq]
      refine takeH27 (v := ?vc27) (by kernel_rfl) (by kernel_rfl) (by kernel_rfl) (fun _ _ _ h => h) (by rfl) ?yc27 (by assumption) ?rc27
      case yc27 => (intro w hSw; (try dsimp only at hSw); go_simp; (try with_reducible rfl))
      try simp only [Act.put, List.setIfInBounds_toArray, List.set_cons_zero, List.set_cons_succ, d0, d1, dm, e1, e2, e3, hbq]
      refine takeH28 (v := ?vc28) (by kernel_rfl) (by kernel_rfl) (by kernel_rfl) (fun _ _ _ h => h) (by rfl) ?yc28 (by assumption) ?rc28
      case yc28 => (intro w hSw; (try dsimp only at hSw); go_simp; (try with_reducible rfl))
      try simp only [Act.put, List.setIfInBounds_toArray, List.set_cons_zero, List.set_cons_succ, d0, d1, dm, e1, e2, e3, hbq]
      refine takeH29 (v := ?vc29) (by kernel_rfl) (by kernel_rfl) (by kernel_rfl) (fun _ _ _ h => h) (by rfl) ?yc29 (by assumption) ?rc29
      case yc29 => (intro w hSw; (try dsimp only at hSw); go_simp; (try with_reducible rfl))
      try simp only [Act.put, List.setIfInBounds_toArray, List.set_cons_zero, List.set_cons_succ, d0, d1, dm, e1, e2, e3, hbq]
      refine takeH30 (v := ?vc30) (by kernel_rfl) (by kernel_rfl) (by kernel_rfl) (fun _ _ _ h => h) (by rfl) ?yc30 (by assumption) ?rc30
      case yc30 => (intro w hSw; (try dsimp only at hSw); go_simp; (try with_reducible rfl))
      try simp only [Act.put, List.setIfInBounds_toArray, List.set_cons_zero, List.set_cons_succ, d0, d1, dm, e1, e2, e3, hbq]
      refine takeH31 (v := ?vc31) (by kernel_rfl) (by kernel_rfl) (by kernel_rfl) (fun _ _ _ h => h) (by rfl) ?yc31 (by assumption) ?rc31
      case yc31 => (intro w hSw; (try dsimp only at hSw); go_simp; (try with_reducible rfl))
      try simp only [Act.put, List.setIfInBounds_toArray, List.set_cons_zero, List.set_cons_succ, d0, d1, dm, e1, e2, e3, hbq]
      refine takeH32 (v := ?vc32) (by kernel_rfl) (by kernel_rfl) (by kernel_rfl) (fun _ _ _ h => h) (by rfl) ?yc32 (by assumption) ?rc32
      case yc32 => (intro w hSw; (try dsimp only at hSw); go_simp; (try with_reducible rfl))
      try simp only [Act.put, List.setIfInBounds_toArray, List.set_cons_zero, List.set_cons_succ, d0, d1, dm, e1, e2, e3, hbq]
      refine takeH33 (v := ?vc33) (by kernel_rfl) (by kernel_rfl) (by kernel_rfl) (fun _ _ _ h => h) (by rfl) ?yc33 (by assumption) ?rc33
      case yc33 => (intro w hSw; (try dsimp only at hSw); go_simp; (try with_reducible rfl))
      try simp only [Act.put, List.setIfInBounds_toArray, List.set_cons_zero, List.set_cons_succ, d0, d1, dm, e1, e2, e3, hbq]
      refine takeH34 (v := ?vc34) (by kernel_rfl) (by kernel_rfl) (by kernel_rfl) (fun _ _ _ h => h) (by rfl) ?yc34 (by assumption) ?rc34
      case yc34 => (intro w hSw; (try dsimp only at hSw); go_simp; (try with_reducible rfl))
      try simp only [Act.put, List.setIfInBounds_toArray, List.set_cons_zero, List.set_cons_succ, d0, d1, dm, e1, e2, e3, hbq]
      refine wpAnyH_done (by kernel_rfl) ?_ _
      have B3 : Hid (Below w.heap.size w x') := BW.out.trans (hx'.2.2.mono BW.out.size)
      clear hx' F1 q0 q1 q2 q3 q4 q5 p0 p1 p2 p3
      go_wp2_with fail
      go_ret
      exact ⟨by rw [HE.out]; exact rfl, B3.out⟩
end Go.Proofs.Ytjjobgolpedgeaa
set_option linter.unusedVariables false
set_option linter.unusedSimpArgs false
namespace Go.Proofs.Ytjjobgolpedgeaa
open Go.RowKit

set_option maxHeartbeats 16000000 in
set_option maxRecDepth 100000 in
theorem checkAnswer_any (c : Cg) (rc : Nat) (self : Int) (A : Option Addr) (n cp : Nat) (L : List Lt) (w : World) (h : RdV w A n L) (hsm : n * 64 ≤ 140737488355328) (hwf : ∀ x ∈ L, ∀ y ∈ x.log, (Lit.int .i64 y.n).wf = true) (hrc : Ob w rc [.int .i64 c.f, .int .i64 c.r, .int .i64 c.p, .bool c.u]) :
    Calls Try.prog 124 #[c.agg, .int .i64 self, .slice A n cp, .func (.func 125) #[] #[.pointer (some ⟨rc, 0, none⟩)]] w fun e w' => e = .returned (.int .i64 (chkR Lt.n (Lt.mayA c.f c.r) c self L)) ∧ Below w.heap.size w w' := by
  obtain ⟨cf, cr, cpp, cu⟩ := c
  by_cases h1 : cf < 1
  · rw [chkR_bad (show Cg.bad ⟨cf, cr, cpp, cu⟩ from .inl h1)]
    go_enter Try.func124, Try.ntmps124
    go_wp2
    go_ret
    exact ⟨rfl, by go_grown⟩
  by_cases h2 : 3 < cf
  · rw [chkR_bad (show Cg.bad ⟨cf, cr, cpp, cu⟩ from .inr (.inl h2))]
    go_enter Try.func124, Try.ntmps124
    go_wp2
    go_ret
    exact ⟨rfl, by go_grown⟩
  by_cases h3 : cr < 1
  · rw [chkR_bad (show Cg.bad ⟨cf, cr, cpp, cu⟩ from .inr (.inr (.inl h3)))]
    go_enter Try.func124, Try.ntmps124
    go_wp2
    go_ret
    exact ⟨rfl, by go_grown⟩
  by_cases h4 : 256 < cr
  · rw [chkR_bad (show Cg.bad ⟨cf, cr, cpp, cu⟩ from .inr (.inr (.inr h4)))]
    go_enter Try.func124, Try.ntmps124
    go_wp2
    go_ret
    exact ⟨rfl, by go_grown⟩
  have HG : Hid (¬ Cg.bad ⟨cf, cr, cpp, cu⟩) := fun h => by unfold Cg.bad at h; simp only at h; omega
  have HRC : Hid (Ob w rc [.int .i64 cf, .int .i64 cr, .int .i64 cpp, .bool cu]) := hrc
  have HWF := Lib.hid hwf
  clear hrc hwf
  have HF1 : Hid (1 ≤ cf) := by simp only [Hid]; omega
  have HF2 : Hid (cf ≤ 3) := by simp only [Hid]; omega
  have H := Lib.hid h
  have HL := Lib.hid h.len
  have hn : (n : Int) ≤ 6000000000000 := by omega
  clear h hsm
  obtain ⟨R, hR⟩ : ∃ R, chkR Lt.n (Lt.mayA cf cr) ⟨cf, cr, cpp, cu⟩ self L = R := ⟨_, rfl⟩
  have HR := Lib.hid hR
  rw [hR]
  clear hR
  go_enter Try.func124, Try.ntmps124
  go_wp2_with fail
  have OC := Lib.hid (Ob.fresh w #[.int .i64 cf, .int .i64 cr, .int .i64 cpp, .bool cu] 70)
  have BW : Hid (Below w.heap.size w (w.alloc (.cells #[.int .i64 cf, .int .i64 cr, .int .i64 cpp, .bool cu] 70))) := below_al _ _
  generalize w.alloc (.cells #[.int .i64 cf, .int .i64 cr, .int .i64 cpp, .bool cu] 70) = w1 at OC BW ⊢
  obtain ⟨r4, hr4⟩ : ∃ r, w.heap.size = r := ⟨_, rfl⟩
  rw [hr4] at OC ⊢
  clear hr4
  go_loopw [32] (fun iv wr => ∃ (k : Nat), k ≤ n ∧ iv = .int .i64 k ∧ Hid (Below w1.heap.size w1 wr) ∧ Hid (∀ i, i < k → okI Lt.n (Lt.mayA cf cr) cf self L i = true)) (fun iv _ => n - (intOf iv).toNat)
  case atStart => exact ⟨0, by omega, rfl, Below.refl _ _, fun i hi => by omega⟩
  case round =>
    obtain ⟨k, hk, rfl, HB, HO⟩ := hrel
    by_cases hkn : k < n
    · obtain ⟨x, hx⟩ : ∃ x, L[k]? = some x := ⟨_, List.getElem?_eq_getElem (by have := HL.out; omega)⟩
      obtain ⟨al, bX, jX, rfl, hoX, g0, g1, g2, g3, g4, g5⟩ := ((H.out.below BW.out).below HB.out).atV hx
      have o4 := (OC.out.below HB.out).cell 0 rfl
      have z4 := World.block_lt_of_cell? wr _ o4
      have hki : (k : Int) < (n : Int) := by omega
      have HKN := Lib.hid hkn
      have HXX := Lib.hid hx
      clear hx hkn hk
      have hmn := mAnswer_node
      go_wp2_with fail
      clear hmn o4 z4
      have OX := Lib.hid (Ob.fresh wr #[.int .i64 x.n, .int .u64 (x.h : Nat), .int .u64 (x.l : Nat), .int .i64 x.v, .int .i64 x.c, .slice bX x.log.length jX] 125)
      have BX : Hid (Below w1.heap.size w1 (wr.alloc (.cells #[.int .i64 x.n, .int .u64 (x.h : Nat), .int .u64 (x.l : Nat), .int .i64 x.v, .int .i64 x.c, .slice bX x.log.length jX] 125))) := HB.out.alloc HB.out.size _
      have OL := Lib.hid (hoX.below (below_al wr (.cells #[.int .i64 x.n, .int .u64 (x.h : Nat), .int .u64 (x.l : Nat), .int .i64 x.v, .int .i64 x.c, .slice bX x.log.length jX] 125)))
      generalize wr.alloc (.cells #[.int .i64 x.n, .int .u64 (x.h : Nat), .int .u64 (x.l : Nat), .int .i64 x.v, .int .i64 x.c, .slice bX x.log.length jX] 125) = w2 at OX BX OL ⊢
      generalize wr.heap.size = rx at OX ⊢
      clear g0 g1 g2 g3 g4 g5 HB hoX
      refine (nodeAnswer_l x bX jX _).mono ?_
      rintro e w3 ⟨rfl, hb3⟩
      have OX3 := Lib.hid (OX.out.below hb3)
      have OL3 := Lib.hid (OL.out.below hb3)
      have B3 : Hid (Below w1.heap.size w1 w3) := BX.out.trans (hb3.mono BX.out.size)
      clear hb3 OX BX OL
      have OC3 := Lib.hid (OC.out.below B3.out)
      have R3 := Lib.hid ((H.out.below BW.out).below B3.out)
      go_upto_region 7 with fail
      go_cut [74] (fun bv wx => bv = .bool (!okI Lt.n (Lt.mayA cf cr) cf self L k) ∧ Hid (Below w3.heap.size w3 wx))
      case first =>
        obtain ⟨mb, hmb⟩ : ∃ mb, (Lt.mayA cf cr) x = mb := ⟨_, rfl⟩
        have FM : Hid (∀ y, Below w3.heap.size w3 y → Calls Try.prog 125 #[x.agg bX jX, .pointer (some ⟨rc, 0, none⟩)] y fun e w' => e = .returned (.bool mb) ∧ Below y.heap.size y w') := fun y hy => hmb ▸ mayAnswer_any x bX jX cf cr cpp cu rc y (((HRC.out.below BW.out).below B3.out).below hy) (OL3.out.below hy) (HWF.out x (List.mem_of_getElem? HXX.out)) (HF1.out) (HF2.out)
        have HOK : Hid (okI Lt.n (Lt.mayA cf cr) cf self L k = (voterF cf self (prevN Lt.n L k) x.n && mb)) := by unfold okI; rw [HXX.out, ← hmb]; exact rfl
        clear hmb OL3
        have o4 := OC3.out.cell 0 rfl
        obtain ⟨p0, p1, p2, p3, p4, p5⟩ := OX3.out.all6
        by_cases m1 : x.n < 0
        case pos =>
          have HV := Lib.hid (voterF_not (f := cf) (self := self) (ahead := prevN Lt.n L k) (node := x.n) (by omega))
          go_wp2_with fail
          go_meet
          exact ⟨by rw [HOK.out, HV.out]; exact rfl, Below.refl _ _⟩
        by_cases m2 : 2 * cf < x.n
        case pos =>
          have HV := Lib.hid (voterF_not (f := cf) (self := self) (ahead := prevN Lt.n L k) (node := x.n) (by omega))
          go_wp2_with fail
          go_meet
          exact ⟨by rw [HOK.out, HV.out]; exact rfl, Below.refl _ _⟩
        by_cases m3 : x.n = self
        case pos =>
          have HV := Lib.hid (voterF_not (f := cf) (self := self) (ahead := prevN Lt.n L k) (node := x.n) (by omega))
          subst m3
          go_wp2_with fail
          go_meet
          exact ⟨by rw [HOK.out, HV.out]; exact rfl, Below.refl _ _⟩
        have d3 : (x.n == self) = false := beq_eq_false_iff_ne.2 m3
        have M3 := Lib.hid m3
        have M1 := Lib.hid m1
        have M2 := Lib.hid m2
        clear m3
        by_cases m4 : k = 0
        case pos =>
          subst m4
          have HV : Hid (voterF cf self (prevN Lt.n L 0) x.n = true) := (voterF_iff _ _ _ _).2 ⟨by unfold prevN; rw [if_pos rfl]; have := M1.out; omega, by have := M1.out; omega, by have := M2.out; omega, M3.out⟩
          go_wp2_with fail
          refine (FM.out _ (Below.refl _ _)).mono ?_
          rintro e w5 ⟨rfl, hb5⟩
          have B5 := Lib.hid hb5
          clear hb5 p0 p1 p2 p3 p4 p5
          cases mb
          all_goals (go_wp2_with fail)
          all_goals go_meet
          all_goals (exact ⟨by rw [HOK.out, HV.out]; exact rfl, B5.out⟩)
        obtain ⟨p, hp⟩ : ∃ p, L[k - 1]? = some p := ⟨_, List.getElem?_eq_getElem (by have := HL.out; have := HKN.out; omega)⟩
        have HPN : Hid (prevN Lt.n L k = p.n) := by unfold prevN; rw [if_neg m4, hp]; exact rfl
        obtain ⟨al', bP, jP, e, _, q0, q1, q2, q3, q4, q5⟩ := R3.out.atV hp
        cases e
        have k0 : (0 : Int) < (k : Int) := by omega
        have e1 : IntKind.i64.wrap ((k : Int) - 1) = (k : Int) - 1 := by rw [IntKind.wrap_i64]; omega
        have e2 : ((k : Int) - 1).toNat = k - 1 := by omega
        have e3 : (0 : Int) ≤ (k : Int) - 1 := by omega
        have e4 : (k : Int) - 1 < (n : Int) := by omega
        have K0 := Lib.hid m4
        clear hp m4
        have hmn := mAnswer_node
        go_wp2_with fail
        clear hmn
        refine (nodeAnswer_l p bP jP _).mono ?_
        rintro e w5 ⟨rfl, hb5⟩
        have B5 := Lib.hid hb5
        have OX5 := Lib.hid (OX3.out.below hb5)
        clear hb5 p0 p1 p2 p3 p4 p5 q0 q1 q2 q3 q4 q5 o4 e1 e2 e3 e4
        obtain ⟨p0, p1, p2, p3, p4, p5⟩ := OX5.out.all6
        by_cases m5 : x.n ≤ p.n
        case pos =>
          have HV : Hid (voterF cf self (prevN Lt.n L k) x.n = false) := voterF_not (by rw [HPN.out]; omega)
          go_wp2_with fail
          go_meet
          exact ⟨by rw [HOK.out, HV.out]; exact rfl, B5.out⟩
        case neg =>
          have d5 : decide (x.n ≤ p.n) = false := decide_eq_false m5
          have HV : Hid (voterF cf self (prevN Lt.n L k) x.n = true) := (voterF_iff _ _ _ _).2 ⟨by rw [HPN.out]; omega, by have := M1.out; omega, by have := M2.out; omega, M3.out⟩
          go_wp2_with fail
          refine (FM.out _ B5.out).mono ?_
          rintro e w6 ⟨rfl, hb6⟩
          have B6 := Lib.hid (B5.out.trans (hb6.mono B5.out.size))
          clear hb6 p0 p1 p2 p3 p4 p5
          cases mb
          all_goals (go_wp2_with fail)
          all_goals go_meet
          all_goals (exact ⟨by rw [HOK.out, HV.out]; exact rfl, B6.out⟩)
      case rest =>
        obtain ⟨rfl, HC⟩ := hcut
        have B4 : Hid (Below w1.heap.size w1 wc) := B3.out.trans (HC.out.mono B3.out.size)
        have hk2 : (k : Int) + 1 ≤ 6000000000001 := by have := HKN.out; omega
        clear HC OX3 B3 OC3 R3 OL3
        obtain ⟨nb, hnb⟩ : ∃ nb, (!okI Lt.n (Lt.mayA cf cr) cf self L k) = nb := ⟨_, rfl⟩
        rw [hnb]
        cases nb with
        | true =>
          have HE : Hid (R = 80) := by rw [← HR.out]; exact chkR_one (i := k) HG.out (by have := HKN.out; have := HL.out; omega) (by simpa using hnb)
          clear hnb
          go_wp2_with fail
          go_ret
          exact ⟨by rw [HE.out]; exact rfl, BW.out.trans (B4.out.mono BW.out.size)⟩
        | false =>
          have HE := Lib.hid (show okI Lt.n (Lt.mayA cf cr) cf self L k = true by simpa using hnb)
          clear hnb
          go_wp2_with fail
          go_roundw
          case rel => exact ⟨k + 1, HKN.out, by go_num, B4.out, fun i hi => by
            by_cases e : i = k
            · rw [e]; exact HE.out
            · exact HO.out i (by omega)⟩
          case measure => have := HKN.out; simp [intOf]; omega
    · obtain rfl : n = k := by omega
      have hki : ¬ (n : Int) < (n : Int) := by omega
      have HE : Hid (R = 0) := by rw [← HR.out]; exact chkR_all HG.out fun i hi => HO.out i (by have := HL.out; omega)
      clear hkn hk
      go_wp2_with fail
      go_ret
      exact ⟨by rw [HE.out]; exact rfl, BW.out.trans (HB.out.mono BW.out.size)⟩
end Go.Proofs.Ytjjobgolpedgeaa
set_option linter.unusedVariables false
set_option linter.unusedSimpArgs false
namespace Go.Proofs.Ytjjobgolpedgeaa
open Go.RowKit

set_option maxHeartbeats 8000000 in
set_option maxRecDepth 100000 in
theorem checkAnswers_any (c : Cg) (self : Int) (A : Option Addr) (n cp : Nat) (V : List Lt) (w : World) (h : RdV w A n V) (hsm : (n + 2) * 64 ≤ 140737488355328) (hwf : ∀ x ∈ V, ∀ y ∈ x.log, (Lit.int .i64 y.n).wf = true) :
    Calls Try.prog 59 #[c.agg, .int .i64 self, .slice A n cp] w fun e w' => e = .returned (.int .i64 (chkR Lt.n (Lt.mayA c.f c.r) c self V)) ∧ Below w.heap.size w w' := by
  obtain ⟨cf, cr, cpp, cu⟩ := c
  obtain ⟨L, h1, h2, h3⟩ := h.raws
  have H := Lib.hid h1
  have HL := Lib.hid h1.len
  have HSM := Lib.hid hsm
  have HO := Lib.hid h2
  have HV := Lib.hid h3
  have HWF := Lib.hid hwf
  clear h hsm h1 h2 h3 hwf
  go_enter Try.func59, Try.ntmps59
  go_upto_region 1 with fail
  have OC := Lib.hid (Ob.fresh w #[.int .i64 cf, .int .i64 cr, .int .i64 cpp, .bool cu] 70)
  have BW : Hid (Below w.heap.size w (w.alloc (.cells #[.int .i64 cf, .int .i64 cr, .int .i64 cpp, .bool cu] 70))) := below_al _ _
  generalize w.alloc (.cells #[.int .i64 cf, .int .i64 cr, .int .i64 cpp, .bool cu] 70) = w1 at OC BW ⊢
  generalize w.heap.size = r at OC ⊢
  have H1 := Lib.hid (H.out.below BW.out)
  have SX : Hid (∀ y, Below w1.heap.size w1 y → (y.cell? ⟨r, 0, none⟩ = some (.int .i64 cf) ∧ y.cell? ⟨r, 1, none⟩ = some (.int .i64 cr) ∧ y.cell? ⟨r, 2, none⟩ = some (.int .i64 cpp) ∧ y.cell? ⟨r, 3, none⟩ = some (.bool cu)) ∧ Below w1.heap.size w1 y) := fun y hb => ⟨(OC.out.below hb).all4, hb⟩
  have F1 : Hid (∀ y, ((y.cell? ⟨r, 0, none⟩ = some (.int .i64 cf) ∧ y.cell? ⟨r, 1, none⟩ = some (.int .i64 cr) ∧ y.cell? ⟨r, 2, none⟩ = some (.int .i64 cpp) ∧ y.cell? ⟨r, 3, none⟩ = some (.bool cu)) ∧ Below w1.heap.size w1 y) → Calls Try.prog 79 #[.slice A n cp, .func (.func 80) #[] #[]] y fun e y' => RetL 125 6 Bt.cells y L e y' ∧ ((y'.cell? ⟨r, 0, none⟩ = some (.int .i64 cf) ∧ y'.cell? ⟨r, 1, none⟩ = some (.int .i64 cr) ∧ y'.cell? ⟨r, 2, none⟩ = some (.int .i64 cpp) ∧ y'.cell? ⟨r, 3, none⟩ = some (.bool cu)) ∧ Below w1.heap.size w1 y')) := fun y hy =>
    (turn_toAnswer A n cp L y (H1.out.below hy.2) (by have := HSM.out; omega)).mono fun e y' h9 => ⟨h9, SX.out _ (hy.2.trans (h9.choose_spec.choose_spec.2.1.mono hy.2.size))⟩
  have F2 : Hid (∀ y A1 c1, ((y.cell? ⟨r, 0, none⟩ = some (.int .i64 cf) ∧ y.cell? ⟨r, 1, none⟩ = some (.int .i64 cr) ∧ y.cell? ⟨r, 2, none⟩ = some (.int .i64 cpp) ∧ y.cell? ⟨r, 3, none⟩ = some (.bool cu)) ∧ Below w1.heap.size w1 y) → RdC 6 Bt.cells y A1 L.length L → Calls Try.prog 124 #[.agg #[.int .i64 cf, .int .i64 cr, .int .i64 cpp, .bool cu], .int .i64 self, .slice A1 L.length c1, .func (.func 125) #[] #[.pointer (some ⟨r, 0, none⟩)]] y fun e y' => e = .returned (.int .i64 (chkR Lt.n (Lt.mayA cf cr) ⟨cf, cr, cpp, cu⟩ self V)) ∧ ((y'.cell? ⟨r, 0, none⟩ = some (.int .i64 cf) ∧ y'.cell? ⟨r, 1, none⟩ = some (.int .i64 cr) ∧ y'.cell? ⟨r, 2, none⟩ = some (.int .i64 cpp) ∧ y'.cell? ⟨r, 3, none⟩ = some (.bool cu)) ∧ Below w1.heap.size w1 y')) := fun y A1 c1 hy hr =>
    (checkAnswer_any ⟨cf, cr, cpp, cu⟩ r self A1 L.length c1 V y (by rw [← HV.out]; exact RdV.of hr fun z hz => ⟨((HO.out z hz).1.below BW.out).below hy.2, (HO.out z hz).2⟩) (by have := HSM.out; have := HL.out; omega) HWF.out (OC.out.below hy.2)).mono fun e y' h9 => ⟨h9.1, SX.out _ (hy.2.trans (h9.2.mono hy.2.size))⟩
  obtain ⟨⟨p0, p1, p2, p3⟩, _⟩ := SX.out _ (Below.refl _ _)
  obtain ⟨R, hR⟩ : ∃ R, chkR Lt.n (Lt.mayA cf cr) ⟨cf, cr, cpp, cu⟩ self V = R := ⟨_, rfl⟩
  rw [hR] at F2
  have HR := Lib.hid hR
  clear hR
  go_region_held3 (fun y => (y.cell? ⟨r, 0, none⟩ = some (.int .i64 cf) ∧ y.cell? ⟨r, 1, none⟩ = some (.int .i64 cr) ∧ y.cell? ⟨r, 2, none⟩ = some (.int .i64 cpp) ∧ y.cell? ⟨r, 3, none⟩ = some (.bool cu)) ∧ Below w1.heap.size w1 y) (first | exact ⟨⟨p0, p1, p2, p3⟩, Below.drew (Below.refl _ _)⟩ | assumption | go_keep)
    (first
     | (go_at_call 124; refine (F2.out _ A1 c1 hx1 r1).mono ?_; rintro e x2 ⟨rfl, hx2⟩)
     | (go_at_call 79; refine (F1.out _ (by first | assumption | (simp [*]))).mono ?_; rintro e x1 ⟨⟨A1, c1, rfl, hb1, ho1⟩, hx1⟩; have r1 := rdBt ho1 rfl))
  all_goals have HB := Lib.hid hx2.2
  all_goals clear hx1 hx2 hb1 ho1 r1 p0 p1 p2 p3 F1 F2 SX
  all_goals (go_wp2_with fail)
  all_goals go_ret
  all_goals exact ⟨by rw [HR.out]; exact rfl, BW.out.trans (HB.out.mono BW.out.size)⟩
end Go.Proofs.Ytjjobgolpedgeaa
