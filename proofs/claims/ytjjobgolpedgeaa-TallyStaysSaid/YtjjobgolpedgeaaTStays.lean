/-
  The walk of TallyStays.
-/
import Derived.Test.YtjjobgolpedgeaaTBallotsA
import Derived.Test.YtjjobgolpedgeaaTPruneV
import Derived.Test.YtjjobgolpedgeaaTStaysP
import Derived.Test.YtjjobgolpedgeaaTWorks
import Derived.Test.YtjjobgolpedgeaaTOpen3
set_option linter.unusedVariables false
set_option linter.unusedSimpArgs false
namespace Go.Proofs.Ytjjobgolpedgeaa
open Go.RowKit

theorem checkBallots_c (cf cr cpp : Int) (cu : Bool) (self : Int) (A : Option Addr) (n cp : Nat) (V : List Lt) (w : World) (h : RdV w A n V) (hsm : (n + 2) * 64 ≤ 140737488355328) (hwf : ∀ x ∈ V, ∀ y ∈ x.log, (Lit.int .i64 y.n).wf = true) :
    Calls Try.prog 65 #[.agg #[.int .i64 cf, .int .i64 cr, .int .i64 cpp, .bool cu], .int .i64 self, .slice A n cp] w fun e w' => e = .returned (.int .i64 (chkR Lt.n (Lt.may cr) ⟨cf, cr, cpp, cu⟩ self V)) ∧ Below w.heap.size w w' :=
  checkBallots_any ⟨cf, cr, cpp, cu⟩ self A n cp V w h hsm hwf
set_option maxRecDepth 100000 in
set_option maxHeartbeats 16000000 in
theorem tallyStays_v (c : Cg) (self : Int) (A : Option Addr) (n cp : Nat) (V : List Lt) (v : Lt) (D : Option Addr) (kv : Nat) (B : Option Addr) (m d : Nat) (U : List Dw) (W : World)
    (h : RdV W A n V) (hwf : ∀ x ∈ V, ∀ y ∈ x.log, (Lit.int .i64 y.n).wf = true) (hsm : n * 64 ≤ 140737488351232) (hx : OkL W D kv v.log) (hxw : ∀ y ∈ v.log, (Lit.int .i64 y.n).wf = true) (hv : RdC 2 Dw.cells W B m U) (hsv : m * 16 ≤ 140737488351232) :
    Calls Try.prog 15 #[c.agg, .int .i64 self, .slice A n cp, v.agg D kv, .slice B m d] W fun e w' => e = .returned (.bool true) ∧ Below W.heap.size W w' := by
  obtain ⟨cf, cr, cpp, cu⟩ := c
  have H := Lib.hid h
  have HL := Lib.hid h.len
  have HWF := Lib.hid hwf
  have HSM := Lib.hid hsm
  have HX := Lib.hid hx
  have HXW := Lib.hid hxw
  have HV := Lib.hid hv
  have HSV := Lib.hid hsv
  clear h hwf hsm hx hxw hv hsv
  go_enter Try.func15, Try.ntmps15
  go_wp2_with fail
  have OC := Lib.hid ((Ob.fresh W #[.int .i64 cf, .int .i64 cr, .int .i64 cpp, .bool cu] 70).alloc (.cells #[.int .i64 v.n, .int .u64 (v.h : Nat), .int .u64 (v.l : Nat), .int .i64 v.v, .int .i64 v.c, .slice D v.log.length kv] 53))
  have OV : Hid (Ob ((W.alloc (.cells #[.int .i64 cf, .int .i64 cr, .int .i64 cpp, .bool cu] 70)).alloc (.cells #[.int .i64 v.n, .int .u64 (v.h : Nat), .int .u64 (v.l : Nat), .int .i64 v.v, .int .i64 v.c, .slice D v.log.length kv] 53)) (W.heap.size + 1) [.int .i64 v.n, .int .u64 (v.h : Nat), .int .u64 (v.l : Nat), .int .i64 v.v, .int .i64 v.c, .slice D v.log.length kv]) := by
    have h := Ob.fresh (W.alloc (.cells #[.int .i64 cf, .int .i64 cr, .int .i64 cpp, .bool cu] 70)) #[.int .i64 v.n, .int .u64 (v.h : Nat), .int .u64 (v.l : Nat), .int .i64 v.v, .int .i64 v.c, .slice D v.log.length kv] 53
    rw [World.size_alloc] at h
    exact h
  have BW : Hid (Below W.heap.size W ((W.alloc (.cells #[.int .i64 cf, .int .i64 cr, .int .i64 cpp, .bool cu] 70)).alloc (.cells #[.int .i64 v.n, .int .u64 (v.h : Nat), .int .u64 (v.l : Nat), .int .i64 v.v, .int .i64 v.c, .slice D v.log.length kv] 53))) := (below_al _ _).alloc (by simp) _
  generalize ((W.alloc (.cells #[.int .i64 cf, .int .i64 cr, .int .i64 cpp, .bool cu] 70)).alloc (.cells #[.int .i64 v.n, .int .u64 (v.h : Nat), .int .u64 (v.l : Nat), .int .i64 v.v, .int .i64 v.c, .slice D v.log.length kv] 53)) = w1 at OC OV BW ⊢
  obtain ⟨r5, hr5⟩ : ∃ r, W.heap.size = r := ⟨_, rfl⟩
  rw [hr5] at OC OV ⊢
  obtain ⟨r8, hr8⟩ : ∃ r, r5 + 1 = r := ⟨_, rfl⟩
  rw [hr8] at OV ⊢
  clear hr5 hr8
  refine (checkBallots_c cf cr cpp cu self A n cp V _ (H.out.below BW.out) (by have := HSM.out; omega) HWF.out).mono ?_
  rintro e w2 ⟨rfl, hb2⟩
  obtain ⟨e1, he1⟩ : ∃ e1, chkR Lt.n (Lt.may cr) ⟨cf, cr, cpp, cu⟩ self V = e1 := ⟨_, rfl⟩
  rw [he1]
  have HE1 := Lib.hid he1
  clear he1
  replace OC := Lib.hid (OC.out.below hb2)
  replace OV := Lib.hid (OV.out.below hb2)
  replace BW := Lib.hid (BW.out.trans (hb2.mono BW.out.size))
  clear hb2
  obtain ⟨p0, p1, p2, p3⟩ := OC.out.all4
  obtain ⟨q0, q1, q2, q3, q4, q5⟩ := OV.out.all6
  go_wp2_with fail
  clear p0 p1 p2 p3 q0 q1 q2 q3 q4 q5
  refine (checkBallots_c cf cr cpp cu self _ 1 1 [v] _ (rdV_one (HX.out.below BW.out) 53) (by omega) (fun x hx y hy => HXW.out y (by rw [List.mem_singleton] at hx; exact hx ▸ hy))).mono ?_
  rintro e w4 ⟨rfl, hb4⟩
  obtain ⟨e2, he2⟩ : ∃ e2, chkR Lt.n (Lt.may cr) ⟨cf, cr, cpp, cu⟩ self [v] = e2 := ⟨_, rfl⟩
  rw [he2]
  have HE2 := Lib.hid he2
  clear he2
  have B4 : Hid (Below w2.heap.size w2 w4) := (below_al _ _).trans (hb4.mono (by simp))
  replace OC := Lib.hid (OC.out.below B4.out)
  replace OV := Lib.hid (OV.out.below B4.out)
  replace BW := Lib.hid (BW.out.trans (B4.out.mono BW.out.size))
  clear hb4 B4
  by_cases h1 : e1 = 0
  case neg =>
    have b1 : (e1 == 0) = false := beq_eq_false_iff_ne.2 h1
    go_wp2_with fail
    refine (works_any _).mono ?_
    rintro e w5 ⟨rfl, hb5⟩
    have B5 := Lib.hid (BW.out.trans (hb5.mono BW.out.size))
    clear hb5
    go_wp2_with fail
    go_ret
    exact ⟨rfl, B5.out⟩
  by_cases h2 : e2 = 0
  case neg =>
    subst h1
    have b1 : (e2 == 0) = false := beq_eq_false_iff_ne.2 h2
    go_wp2_with fail
    refine (works_any _).mono ?_
    rintro e w5 ⟨rfl, hb5⟩
    have B5 := Lib.hid (BW.out.trans (hb5.mono BW.out.size))
    clear hb5
    go_wp2_with fail
    go_ret
    exact ⟨rfl, B5.out⟩
  subst h1 h2
  have HP : Hid (chkR Lt.n (Lt.may cr) ⟨cf, cr, cpp, cu⟩ self (putF Lt.n Lt.wins V v) = 0) := chkR_put HE1.out HE2.out
  have HQ : Hid (chkR Lt.n (Lt.may cr) ⟨cf, cr, cpp, cu⟩ self (pruneF (Lt.over U) V) = 0) := chkR_prune HE1.out
  have HPW : Hid (∀ x ∈ putF Lt.n Lt.wins V v, ∀ y ∈ x.log, (Lit.int .i64 y.n).wf = true) := fun x hx => (putF_mem hx).elim (fun e => e ▸ HXW.out) (HWF.out x)
  have HQW : Hid (∀ x ∈ pruneF (Lt.over U) V, ∀ y ∈ x.log, (Lit.int .i64 y.n).wf = true) := fun x hx => HWF.out x (List.mem_filter.1 hx).1
  have HPN : Hid ((putF Lt.n Lt.wins V v).length ≤ n + 1) := by have := putF_len Lt.n Lt.wins V v; rw [HL.out] at this; exact this
  have HQN : Hid ((pruneF (Lt.over U) V).length ≤ n) := by have := pruneF_len (Lt.over U) V; rw [HL.out] at this; exact this
  have SX : Hid (∀ y, Below w4.heap.size w4 y → ((y.cell? ⟨r5, 0, none⟩ = some (.int .i64 cf) ∧ y.cell? ⟨r5, 1, none⟩ = some (.int .i64 cr) ∧ y.cell? ⟨r5, 2, none⟩ = some (.int .i64 cpp) ∧ y.cell? ⟨r5, 3, none⟩ = some (.bool cu)) ∧ (y.cell? ⟨r8, 0, none⟩ = some (.int .i64 v.n) ∧ y.cell? ⟨r8, 1, none⟩ = some (.int .u64 (v.h : Nat)) ∧ y.cell? ⟨r8, 2, none⟩ = some (.int .u64 (v.l : Nat)) ∧ y.cell? ⟨r8, 3, none⟩ = some (.int .i64 v.v) ∧ y.cell? ⟨r8, 4, none⟩ = some (.int .i64 v.c) ∧ y.cell? ⟨r8, 5, none⟩ = some (.slice D v.log.length kv)) ∧ Below w4.heap.size w4 y)) := fun y hb => ⟨(OC.out.below hb).all4, (OV.out.below hb).all6, hb⟩
  have F1 : Hid (∀ y, ((y.cell? ⟨r5, 0, none⟩ = some (.int .i64 cf) ∧ y.cell? ⟨r5, 1, none⟩ = some (.int .i64 cr) ∧ y.cell? ⟨r5, 2, none⟩ = some (.int .i64 cpp) ∧ y.cell? ⟨r5, 3, none⟩ = some (.bool cu)) ∧ (y.cell? ⟨r8, 0, none⟩ = some (.int .i64 v.n) ∧ y.cell? ⟨r8, 1, none⟩ = some (.int .u64 (v.h : Nat)) ∧ y.cell? ⟨r8, 2, none⟩ = some (.int .u64 (v.l : Nat)) ∧ y.cell? ⟨r8, 3, none⟩ = some (.int .i64 v.v) ∧ y.cell? ⟨r8, 4, none⟩ = some (.int .i64 v.c) ∧ y.cell? ⟨r8, 5, none⟩ = some (.slice D v.log.length kv)) ∧ Below w4.heap.size w4 y) → Calls Try.prog 28 #[.slice A n cp, v.agg D kv] y fun e y' => RetW y (putF Lt.n Lt.wins V v) e y' ∧ ((y'.cell? ⟨r5, 0, none⟩ = some (.int .i64 cf) ∧ y'.cell? ⟨r5, 1, none⟩ = some (.int .i64 cr) ∧ y'.cell? ⟨r5, 2, none⟩ = some (.int .i64 cpp) ∧ y'.cell? ⟨r5, 3, none⟩ = some (.bool cu)) ∧ (y'.cell? ⟨r8, 0, none⟩ = some (.int .i64 v.n) ∧ y'.cell? ⟨r8, 1, none⟩ = some (.int .u64 (v.h : Nat)) ∧ y'.cell? ⟨r8, 2, none⟩ = some (.int .u64 (v.l : Nat)) ∧ y'.cell? ⟨r8, 3, none⟩ = some (.int .i64 v.v) ∧ y'.cell? ⟨r8, 4, none⟩ = some (.int .i64 v.c) ∧ y'.cell? ⟨r8, 5, none⟩ = some (.slice D v.log.length kv)) ∧ Below w4.heap.size w4 y')) := fun y hy =>
    (putBallot_w A n cp V v D kv y ((H.out.below BW.out).below hy.2.2) ((HX.out.below BW.out).below hy.2.2) (by have := HSM.out; omega)).mono fun e y' h9 => ⟨h9, SX.out _ (hy.2.2.trans (h9.choose_spec.choose_spec.2.2.1.mono hy.2.2.size))⟩
  have F3 : Hid (∀ y, ((y.cell? ⟨r5, 0, none⟩ = some (.int .i64 cf) ∧ y.cell? ⟨r5, 1, none⟩ = some (.int .i64 cr) ∧ y.cell? ⟨r5, 2, none⟩ = some (.int .i64 cpp) ∧ y.cell? ⟨r5, 3, none⟩ = some (.bool cu)) ∧ (y.cell? ⟨r8, 0, none⟩ = some (.int .i64 v.n) ∧ y.cell? ⟨r8, 1, none⟩ = some (.int .u64 (v.h : Nat)) ∧ y.cell? ⟨r8, 2, none⟩ = some (.int .u64 (v.l : Nat)) ∧ y.cell? ⟨r8, 3, none⟩ = some (.int .i64 v.v) ∧ y.cell? ⟨r8, 4, none⟩ = some (.int .i64 v.c) ∧ y.cell? ⟨r8, 5, none⟩ = some (.slice D v.log.length kv)) ∧ Below w4.heap.size w4 y) → Calls Try.prog 46 #[.slice A n cp, .slice B m d] y fun e y' => RetW y (pruneF (Lt.over U) V) e y' ∧ ((y'.cell? ⟨r5, 0, none⟩ = some (.int .i64 cf) ∧ y'.cell? ⟨r5, 1, none⟩ = some (.int .i64 cr) ∧ y'.cell? ⟨r5, 2, none⟩ = some (.int .i64 cpp) ∧ y'.cell? ⟨r5, 3, none⟩ = some (.bool cu)) ∧ (y'.cell? ⟨r8, 0, none⟩ = some (.int .i64 v.n) ∧ y'.cell? ⟨r8, 1, none⟩ = some (.int .u64 (v.h : Nat)) ∧ y'.cell? ⟨r8, 2, none⟩ = some (.int .u64 (v.l : Nat)) ∧ y'.cell? ⟨r8, 3, none⟩ = some (.int .i64 v.v) ∧ y'.cell? ⟨r8, 4, none⟩ = some (.int .i64 v.c) ∧ y'.cell? ⟨r8, 5, none⟩ = some (.slice D v.log.length kv)) ∧ Below w4.heap.size w4 y')) := fun y hy =>
    (pruneBallot_w A n cp V B m d U y ((H.out.below BW.out).below hy.2.2) ((HV.out.below BW.out).below hy.2.2) (by have := HSM.out; omega) (by have := HSV.out; omega)).mono fun e y' h9 => ⟨h9, SX.out _ (hy.2.2.trans (h9.choose_spec.choose_spec.2.2.1.mono hy.2.2.size))⟩
  have FK : Hid (∀ y X A1 c1, ((y.cell? ⟨r5, 0, none⟩ = some (.int .i64 cf) ∧ y.cell? ⟨r5, 1, none⟩ = some (.int .i64 cr) ∧ y.cell? ⟨r5, 2, none⟩ = some (.int .i64 cpp) ∧ y.cell? ⟨r5, 3, none⟩ = some (.bool cu)) ∧ (y.cell? ⟨r8, 0, none⟩ = some (.int .i64 v.n) ∧ y.cell? ⟨r8, 1, none⟩ = some (.int .u64 (v.h : Nat)) ∧ y.cell? ⟨r8, 2, none⟩ = some (.int .u64 (v.l : Nat)) ∧ y.cell? ⟨r8, 3, none⟩ = some (.int .i64 v.v) ∧ y.cell? ⟨r8, 4, none⟩ = some (.int .i64 v.c) ∧ y.cell? ⟨r8, 5, none⟩ = some (.slice D v.log.length kv)) ∧ Below w4.heap.size w4 y) → RdV y A1 (List.length X) X → X.length ≤ n + 1 → (∀ x ∈ X, ∀ y ∈ x.log, (Lit.int .i64 y.n).wf = true) → chkR Lt.n (Lt.may cr) ⟨cf, cr, cpp, cu⟩ self X = 0 → Calls Try.prog 65 #[.agg #[.int .i64 cf, .int .i64 cr, .int .i64 cpp, .bool cu], .int .i64 self, .slice A1 X.length c1] y fun e y' => e = .returned (.int .i64 0) ∧ ((y'.cell? ⟨r5, 0, none⟩ = some (.int .i64 cf) ∧ y'.cell? ⟨r5, 1, none⟩ = some (.int .i64 cr) ∧ y'.cell? ⟨r5, 2, none⟩ = some (.int .i64 cpp) ∧ y'.cell? ⟨r5, 3, none⟩ = some (.bool cu)) ∧ (y'.cell? ⟨r8, 0, none⟩ = some (.int .i64 v.n) ∧ y'.cell? ⟨r8, 1, none⟩ = some (.int .u64 (v.h : Nat)) ∧ y'.cell? ⟨r8, 2, none⟩ = some (.int .u64 (v.l : Nat)) ∧ y'.cell? ⟨r8, 3, none⟩ = some (.int .i64 v.v) ∧ y'.cell? ⟨r8, 4, none⟩ = some (.int .i64 v.c) ∧ y'.cell? ⟨r8, 5, none⟩ = some (.slice D v.log.length kv)) ∧ Below w4.heap.size w4 y')) := fun y X A1 c1 hy hr hn hw hz =>
    (checkBallots_c cf cr cpp cu self A1 X.length c1 X y hr (by have := HSM.out; omega) hw).mono fun e y' h9 => ⟨by rw [← hz]; exact h9.1, SX.out _ (hy.2.2.trans (h9.2.mono hy.2.2.size))⟩
  have F5 : Hid (∀ y, ((y.cell? ⟨r5, 0, none⟩ = some (.int .i64 cf) ∧ y.cell? ⟨r5, 1, none⟩ = some (.int .i64 cr) ∧ y.cell? ⟨r5, 2, none⟩ = some (.int .i64 cpp) ∧ y.cell? ⟨r5, 3, none⟩ = some (.bool cu)) ∧ (y.cell? ⟨r8, 0, none⟩ = some (.int .i64 v.n) ∧ y.cell? ⟨r8, 1, none⟩ = some (.int .u64 (v.h : Nat)) ∧ y.cell? ⟨r8, 2, none⟩ = some (.int .u64 (v.l : Nat)) ∧ y.cell? ⟨r8, 3, none⟩ = some (.int .i64 v.v) ∧ y.cell? ⟨r8, 4, none⟩ = some (.int .i64 v.c) ∧ y.cell? ⟨r8, 5, none⟩ = some (.slice D v.log.length kv)) ∧ Below w4.heap.size w4 y) → Calls Try.prog 17 #[] y fun e y' => e = .returned (.bool true) ∧ ((y'.cell? ⟨r5, 0, none⟩ = some (.int .i64 cf) ∧ y'.cell? ⟨r5, 1, none⟩ = some (.int .i64 cr) ∧ y'.cell? ⟨r5, 2, none⟩ = some (.int .i64 cpp) ∧ y'.cell? ⟨r5, 3, none⟩ = some (.bool cu)) ∧ (y'.cell? ⟨r8, 0, none⟩ = some (.int .i64 v.n) ∧ y'.cell? ⟨r8, 1, none⟩ = some (.int .u64 (v.h : Nat)) ∧ y'.cell? ⟨r8, 2, none⟩ = some (.int .u64 (v.l : Nat)) ∧ y'.cell? ⟨r8, 3, none⟩ = some (.int .i64 v.v) ∧ y'.cell? ⟨r8, 4, none⟩ = some (.int .i64 v.c) ∧ y'.cell? ⟨r8, 5, none⟩ = some (.slice D v.log.length kv)) ∧ Below w4.heap.size w4 y')) := fun y hy =>
    (works_any y).mono fun e y' h9 => ⟨h9.1, SX.out _ (hy.2.2.trans (h9.2.mono hy.2.2.size))⟩
  obtain ⟨⟨p0, p1, p2, p3⟩, ⟨q0, q1, q2, q3, q4, q5⟩, _⟩ := SX.out _ (Below.refl _ _)
  have FP := Lib.hid (fun y A1 c1 hy hr => FK.out y (putF Lt.n Lt.wins V v) A1 c1 hy hr HPN.out HPW.out HP.out)
  have FQ := Lib.hid (fun y A1 c1 hy hr => FK.out y (pruneF (Lt.over U) V) A1 c1 hy hr (Nat.le_succ_of_le HQN.out) HQW.out HQ.out)
  obtain ⟨P, hP⟩ : ∃ P, putF Lt.n Lt.wins V v = P := ⟨_, rfl⟩
  obtain ⟨Q, hQ⟩ : ∃ Q, pruneF (Lt.over U) V = Q := ⟨_, rfl⟩
  rw [hP] at F1 FP
  rw [hQ] at F3 FQ
  clear HP HQ HPW HQW HPN HQN FK hP hQ SX
  go_upto_region 5 with fail
  go_region_held3 (fun y => ((y.cell? ⟨r5, 0, none⟩ = some (.int .i64 cf) ∧ y.cell? ⟨r5, 1, none⟩ = some (.int .i64 cr) ∧ y.cell? ⟨r5, 2, none⟩ = some (.int .i64 cpp) ∧ y.cell? ⟨r5, 3, none⟩ = some (.bool cu)) ∧ (y.cell? ⟨r8, 0, none⟩ = some (.int .i64 v.n) ∧ y.cell? ⟨r8, 1, none⟩ = some (.int .u64 (v.h : Nat)) ∧ y.cell? ⟨r8, 2, none⟩ = some (.int .u64 (v.l : Nat)) ∧ y.cell? ⟨r8, 3, none⟩ = some (.int .i64 v.v) ∧ y.cell? ⟨r8, 4, none⟩ = some (.int .i64 v.c) ∧ y.cell? ⟨r8, 5, none⟩ = some (.slice D v.log.length kv)) ∧ Below w4.heap.size w4 y)) (first | exact ⟨⟨p0, p1, p2, p3⟩, ⟨q0, q1, q2, q3, q4, q5⟩, Below.drew (Below.refl _ _)⟩ | assumption | go_keep)
    (first
     | (go_at_call 17; refine (F5.out _ hx4).mono ?_; rintro e x5 ⟨rfl, hx5⟩)
     | (go_at_call 65; refine (FQ.out _ A3 c3 hx3 rv3).mono ?_; rintro e x4 ⟨rfl, hx4⟩)
     | (go_at_call 46; refine (F3.out _ (by first | assumption | (simp [*]))).mono ?_; rintro e x3 ⟨⟨A3, c3, rfl, hc3, hb3, rv3⟩, hx3⟩)
     | (go_at_call 65; refine (FP.out _ A1 c1 hx1 rv1).mono ?_; rintro e x2 ⟨rfl, hx2⟩)
     | (go_at_call 28; refine (F1.out _ (by first | assumption | (simp [*]))).mono ?_; rintro e x1 ⟨⟨A1, c1, rfl, hc1, hb1, rv1⟩, hx1⟩))
  have B5 := Lib.hid (BW.out.trans (hx5.2.2.mono BW.out.size))
  clear hx1 hx2 hx3 hx4 hx5 hb1 hb3 rv1 rv3 hc1 hc3 p0 p1 p2 p3 q0 q1 q2 q3 q4 q5 F1 F3 F5 FP FQ
  go_wp2_with fail
  go_ret
  exact ⟨rfl, B5.out⟩
theorem tallyStays_walk (c : Cg) (self : Int) (A : Option Addr) (n cp : Nat) (I : List Pt) (p : Pt) (B : Option Addr) (m d : Nat) (U : List Dw) (W : World) (wf : (Lit.int .i64 c.f).wf = true) (ws : (Lit.int .i64 self).wf = true) (h : RdC 6 Pt.cells W A n I) (ok : ∀ x ∈ I, x.Ok W) (hsm : n * 64 ≤ 140737488351232 ∧ ∀ x ∈ I, x.Sm) (hp : p.Ok W) (sp : p.Sm) (hv : RdC 2 Dw.cells W B m U) (hsv : m * 16 ≤ 140737488351232) :
    Calls Try.prog 15 #[c.agg, .int .i64 self, .slice A n cp, p.1.agg p.2.1 p.2.2, .slice B m d] W fun e w' => e = .returned (.bool true) ∧ Below W.heap.size W w' :=
  tallyStays_v c self A n cp (I.map (·.1)) p.1 p.2.1 p.2.2 B m d U W (rdV_of h ok hsm.2) (fun x hx y hy => by obtain ⟨q, hq, rfl⟩ := List.mem_map.1 hx; exact ((ok q hq).ok.log y hy).n) hsm.1 (hp.okL sp) (fun y hy => (hp.ok.log y hy).n) hv hsv
end Go.Proofs.Ytjjobgolpedgeaa
