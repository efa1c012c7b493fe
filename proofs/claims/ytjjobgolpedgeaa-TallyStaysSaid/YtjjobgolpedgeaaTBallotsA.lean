/-
  The walk of tally.CheckBallots (printed by gen_tballotsa.py).
-/
import Derived.Test.YtjjobgolpedgeaaTCheckBallot
import Derived.Test.YtjjobgolpedgeaaTSmall
set_option linter.unusedVariables false
set_option linter.unusedSimpArgs false
namespace Go.Proofs.Ytjjobgolpedgeaa
open Go.RowKit

set_option maxHeartbeats 8000000 in
set_option maxRecDepth 100000 in
theorem checkBallots_any (c : Cg) (self : Int) (A : Option Addr) (n cp : Nat) (V : List Lt) (w : World) (h : RdV w A n V) (hsm : (n + 2) * 64 ≤ 140737488355328) (hwf : ∀ x ∈ V, ∀ y ∈ x.log, (Lit.int .i64 y.n).wf = true) :
    Calls Try.prog 65 #[c.agg, .int .i64 self, .slice A n cp] w fun e w' => e = .returned (.int .i64 (chkR Lt.n (Lt.may c.r) c self V)) ∧ Below w.heap.size w w' := by
  obtain ⟨cf, cr, cpp, cu⟩ := c
  obtain ⟨L, h1, h2, h3⟩ := h.raws
  have H := Lib.hid h1
  have HL := Lib.hid h1.len
  have HSM := Lib.hid hsm
  have HO := Lib.hid h2
  have HV := Lib.hid h3
  have HWF := Lib.hid hwf
  clear h hsm h1 h2 h3 hwf
  go_enter Try.func65, Try.ntmps65
  go_upto_region 1 with fail
  have OC := Lib.hid (Ob.fresh w #[.int .i64 cf, .int .i64 cr, .int .i64 cpp, .bool cu] 70)
  have BW : Hid (Below w.heap.size w (w.alloc (.cells #[.int .i64 cf, .int .i64 cr, .int .i64 cpp, .bool cu] 70))) := below_al _ _
  generalize w.alloc (.cells #[.int .i64 cf, .int .i64 cr, .int .i64 cpp, .bool cu] 70) = w1 at OC BW ⊢
  generalize w.heap.size = r at OC ⊢
  have H1 := Lib.hid (H.out.below BW.out)
  have SX : Hid (∀ y, Below w1.heap.size w1 y → (y.cell? ⟨r, 0, none⟩ = some (.int .i64 cf) ∧ y.cell? ⟨r, 1, none⟩ = some (.int .i64 cr) ∧ y.cell? ⟨r, 2, none⟩ = some (.int .i64 cpp) ∧ y.cell? ⟨r, 3, none⟩ = some (.bool cu)) ∧ Below w1.heap.size w1 y) := fun y hb => ⟨(OC.out.below hb).all4, hb⟩
  have F1 : Hid (∀ y, ((y.cell? ⟨r, 0, none⟩ = some (.int .i64 cf) ∧ y.cell? ⟨r, 1, none⟩ = some (.int .i64 cr) ∧ y.cell? ⟨r, 2, none⟩ = some (.int .i64 cpp) ∧ y.cell? ⟨r, 3, none⟩ = some (.bool cu)) ∧ Below w1.heap.size w1 y) → Calls Try.prog 90 #[.slice A n cp, .func (.func 91) #[] #[]] y fun e y' => RetL 144 6 Bt.cells y L e y' ∧ ((y'.cell? ⟨r, 0, none⟩ = some (.int .i64 cf) ∧ y'.cell? ⟨r, 1, none⟩ = some (.int .i64 cr) ∧ y'.cell? ⟨r, 2, none⟩ = some (.int .i64 cpp) ∧ y'.cell? ⟨r, 3, none⟩ = some (.bool cu)) ∧ Below w1.heap.size w1 y')) := fun y hy =>
    (turn_toBallot A n cp L y (H1.out.below hy.2) (by have := HSM.out; omega)).mono fun e y' h9 => ⟨h9, SX.out _ (hy.2.trans (h9.choose_spec.choose_spec.2.1.mono hy.2.size))⟩
  have F2 : Hid (∀ y A1 c1, ((y.cell? ⟨r, 0, none⟩ = some (.int .i64 cf) ∧ y.cell? ⟨r, 1, none⟩ = some (.int .i64 cr) ∧ y.cell? ⟨r, 2, none⟩ = some (.int .i64 cpp) ∧ y.cell? ⟨r, 3, none⟩ = some (.bool cu)) ∧ Below w1.heap.size w1 y) → RdC 6 Bt.cells y A1 L.length L → Calls Try.prog 132 #[.agg #[.int .i64 cf, .int .i64 cr, .int .i64 cpp, .bool cu], .int .i64 self, .slice A1 L.length c1, .func (.func 133) #[] #[.pointer (some ⟨r, 0, none⟩)]] y fun e y' => e = .returned (.int .i64 (chkR Lt.n (Lt.may cr) ⟨cf, cr, cpp, cu⟩ self V)) ∧ ((y'.cell? ⟨r, 0, none⟩ = some (.int .i64 cf) ∧ y'.cell? ⟨r, 1, none⟩ = some (.int .i64 cr) ∧ y'.cell? ⟨r, 2, none⟩ = some (.int .i64 cpp) ∧ y'.cell? ⟨r, 3, none⟩ = some (.bool cu)) ∧ Below w1.heap.size w1 y')) := fun y A1 c1 hy hr =>
    (checkBallot_any ⟨cf, cr, cpp, cu⟩ r self A1 L.length c1 V y (by rw [← HV.out]; exact RdV.of hr fun z hz => ⟨((HO.out z hz).1.below BW.out).below hy.2, (HO.out z hz).2⟩) (by have := HSM.out; have := HL.out; omega) HWF.out (OC.out.below hy.2)).mono fun e y' h9 => ⟨h9.1, SX.out _ (hy.2.trans (h9.2.mono hy.2.size))⟩
  obtain ⟨⟨p0, p1, p2, p3⟩, _⟩ := SX.out _ (Below.refl _ _)
  obtain ⟨R, hR⟩ : ∃ R, chkR Lt.n (Lt.may cr) ⟨cf, cr, cpp, cu⟩ self V = R := ⟨_, rfl⟩
  rw [hR] at F2
  have HR := Lib.hid hR
  clear hR
  go_region_held3 (fun y => (y.cell? ⟨r, 0, none⟩ = some (.int .i64 cf) ∧ y.cell? ⟨r, 1, none⟩ = some (.int .i64 cr) ∧ y.cell? ⟨r, 2, none⟩ = some (.int .i64 cpp) ∧ y.cell? ⟨r, 3, none⟩ = some (.bool cu)) ∧ Below w1.heap.size w1 y) (first | exact ⟨⟨p0, p1, p2, p3⟩, Below.drew (Below.refl _ _)⟩ | assumption | go_keep)
    (first
     | (go_at_call 132; refine (F2.out _ A1 c1 hx1 r1).mono ?_; rintro e x2 ⟨rfl, hx2⟩)
     | (go_at_call 90; refine (F1.out _ (by first | assumption | (simp [*]))).mono ?_; rintro e x1 ⟨⟨A1, c1, rfl, hb1, ho1⟩, hx1⟩; have r1 := rdBt ho1 rfl))
  all_goals have HB := Lib.hid hx2.2
  all_goals clear hx1 hx2 hb1 ho1 r1 p0 p1 p2 p3 F1 F2 SX
  all_goals (go_wp2_with fail)
  all_goals go_ret
  all_goals exact ⟨by rw [HR.out]; exact rfl, BW.out.trans (HB.out.mono BW.out.size)⟩
end Go.Proofs.Ytjjobgolpedgeaa
