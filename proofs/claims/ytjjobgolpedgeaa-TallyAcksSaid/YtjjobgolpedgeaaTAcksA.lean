/-
  The walks of tally.CheckAcks, lentAcks, keptAcks (printed by gen_tacksa.py).
-/
import Derived.Test.YtjjobgolpedgeaaTCheckAck
import Derived.Test.YtjjobgolpedgeaaTSmall
set_option linter.unusedVariables false
set_option linter.unusedSimpArgs false
namespace Go.Proofs.Ytjjobgolpedgeaa
open Go.RowKit

set_option maxHeartbeats 8000000 in
set_option maxRecDepth 100000 in
theorem checkAcks_any (c : Cg) (self : Int) (A : Option Addr) (n cp : Nat) (L : List Ak) (w : World) (h : RdC 4 Ak.cells w A n L) (hsm : (n + 2) * 32 ≤ 140737488355328) :
    Calls Try.prog 52 #[c.agg, .int .i64 self, .slice A n cp] w fun e w' => e = .returned (.int .i64 (chkR Ak.n (Ak.may c.r) c self L)) ∧ Below w.heap.size w w' := by
  obtain ⟨cf, cr, cpp, cu⟩ := c
  have H := Lib.hid h
  have HL := Lib.hid h.len
  have HSM := Lib.hid hsm
  clear h hsm
  go_enter Try.func52, Try.ntmps52
  go_upto_region 1 with fail
  have OC := Lib.hid (Ob.fresh w #[.int .i64 cf, .int .i64 cr, .int .i64 cpp, .bool cu] 70)
  have BW : Hid (Below w.heap.size w (w.alloc (.cells #[.int .i64 cf, .int .i64 cr, .int .i64 cpp, .bool cu] 70))) := below_al _ _
  generalize w.alloc (.cells #[.int .i64 cf, .int .i64 cr, .int .i64 cpp, .bool cu] 70) = w1 at OC BW ⊢
  generalize w.heap.size = r at OC ⊢
  have H1 := Lib.hid (H.out.below BW.out)
  have SX : Hid (∀ y, Below w1.heap.size w1 y → (y.cell? ⟨r, 0, none⟩ = some (.int .i64 cf) ∧ y.cell? ⟨r, 1, none⟩ = some (.int .i64 cr) ∧ y.cell? ⟨r, 2, none⟩ = some (.int .i64 cpp) ∧ y.cell? ⟨r, 3, none⟩ = some (.bool cu)) ∧ Below w1.heap.size w1 y) := fun y hb => ⟨(OC.out.below hb).all4, hb⟩
  have F1 : Hid (∀ y, ((y.cell? ⟨r, 0, none⟩ = some (.int .i64 cf) ∧ y.cell? ⟨r, 1, none⟩ = some (.int .i64 cr) ∧ y.cell? ⟨r, 2, none⟩ = some (.int .i64 cpp) ∧ y.cell? ⟨r, 3, none⟩ = some (.bool cu)) ∧ Below w1.heap.size w1 y) → Calls Try.prog 73 #[.slice A n cp, .func (.func 74) #[] #[]] y fun e y' => RetL 116 4 Ak.cells y L e y' ∧ ((y'.cell? ⟨r, 0, none⟩ = some (.int .i64 cf) ∧ y'.cell? ⟨r, 1, none⟩ = some (.int .i64 cr) ∧ y'.cell? ⟨r, 2, none⟩ = some (.int .i64 cpp) ∧ y'.cell? ⟨r, 3, none⟩ = some (.bool cu)) ∧ Below w1.heap.size w1 y')) := fun y hy =>
    (turn_toAck A n cp L y (H1.out.below hy.2) (by have := HSM.out; omega)).mono fun e y' h9 => ⟨h9, SX.out _ (hy.2.trans (h9.choose_spec.choose_spec.2.1.mono hy.2.size))⟩
  have F2 : Hid (∀ y A1 c1, ((y.cell? ⟨r, 0, none⟩ = some (.int .i64 cf) ∧ y.cell? ⟨r, 1, none⟩ = some (.int .i64 cr) ∧ y.cell? ⟨r, 2, none⟩ = some (.int .i64 cpp) ∧ y.cell? ⟨r, 3, none⟩ = some (.bool cu)) ∧ Below w1.heap.size w1 y) → RdC 4 Ak.cells y A1 L.length L → Calls Try.prog 121 #[.agg #[.int .i64 cf, .int .i64 cr, .int .i64 cpp, .bool cu], .int .i64 self, .slice A1 L.length c1, .func (.func 122) #[] #[.pointer (some ⟨r, 0, none⟩)]] y fun e y' => e = .returned (.int .i64 (chkR Ak.n (Ak.may cr) ⟨cf, cr, cpp, cu⟩ self L)) ∧ ((y'.cell? ⟨r, 0, none⟩ = some (.int .i64 cf) ∧ y'.cell? ⟨r, 1, none⟩ = some (.int .i64 cr) ∧ y'.cell? ⟨r, 2, none⟩ = some (.int .i64 cpp) ∧ y'.cell? ⟨r, 3, none⟩ = some (.bool cu)) ∧ Below w1.heap.size w1 y')) := fun y A1 c1 hy hr =>
    (checkAck_any ⟨cf, cr, cpp, cu⟩ r self A1 L.length c1 L y hr (by have := HSM.out; have := HL.out; omega) (OC.out.below hy.2)).mono fun e y' h9 => ⟨h9.1, SX.out _ (hy.2.trans (h9.2.mono hy.2.size))⟩
  obtain ⟨⟨p0, p1, p2, p3⟩, _⟩ := SX.out _ (Below.refl _ _)
  obtain ⟨R, hR⟩ : ∃ R, chkR Ak.n (Ak.may cr) ⟨cf, cr, cpp, cu⟩ self L = R := ⟨_, rfl⟩
  rw [hR] at F2
  have HR := Lib.hid hR
  clear hR
  go_region_held3 (fun y => (y.cell? ⟨r, 0, none⟩ = some (.int .i64 cf) ∧ y.cell? ⟨r, 1, none⟩ = some (.int .i64 cr) ∧ y.cell? ⟨r, 2, none⟩ = some (.int .i64 cpp) ∧ y.cell? ⟨r, 3, none⟩ = some (.bool cu)) ∧ Below w1.heap.size w1 y) (first | exact ⟨⟨p0, p1, p2, p3⟩, Below.drew (Below.refl _ _)⟩ | assumption | go_keep)
    (first
     | (go_at_call 121; refine (F2.out _ A1 c1 hx1 r1).mono ?_; rintro e x2 ⟨rfl, hx2⟩)
     | (go_at_call 73; refine (F1.out _ (by first | assumption | (simp [*]))).mono ?_; rintro e x1 ⟨⟨A1, c1, rfl, hb1, ho1⟩, hx1⟩; have r1 := rdAk ho1 rfl))
  all_goals have HB := Lib.hid hx2.2
  all_goals clear hx1 hx2 hb1 ho1 r1 p0 p1 p2 p3 F1 F2 SX
  all_goals (go_wp2_with fail)
  all_goals go_ret
  all_goals exact ⟨by rw [HR.out]; exact rfl, BW.out.trans (HB.out.mono BW.out.size)⟩
/-- a list with an ack in the room behind it -/
def LentA (L : List Ak) (n : Nat) (W : World) (e : Ending) (w' : World) : Prop := ∃ g c, e = .returned (.slice (some ⟨g, 0, none⟩) n c) ∧ n + 1 ≤ c ∧ W.heap.size ≤ g ∧ Below W.heap.size W w' ∧ RdC 4 Ak.cells w' (some ⟨g, 0, none⟩) (n + 1) (L ++ [⟨-77, 0, 0, 0⟩])
set_option maxHeartbeats 8000000 in
set_option maxRecDepth 100000 in
theorem lentAcks_any (A : Option Addr) (n c : Nat) (L : List Ak) (w : World) (h : RdC 4 Ak.cells w A n L) (hA : A = none → n = 0 ∧ c = 0) (hsm : (n + 1) * 32 ≤ 140737488355328) :
    Calls Try.prog 51 #[.slice A n c] w (LentA L n w) := by
  have H := Lib.hid h
  have HL := Lib.hid h.len
  have HA := Lib.hid hA
  have HSM := Lib.hid hsm
  have hn : (n : Int) ≤ 6000000000000 := by omega
  clear h hA hsm
  go_enter Try.func51, Try.ntmps51
  go_wp2_with (at_builtin; refine wpList_app rfl (.tmp 4) (.tmp 5) rfl eltApiAck w.heap.size (.slice none 0 0) 0 [] rfl (World.ownsRow_nil _ _ _ _) A n c (CL Ak.cells L) rfl (by rw [CL_len (size := 4) (fun _ => rfl), HL.out]) HA.out (rdc_news (size := 4) (cells := Ak.cells) (by decide) (fun _ => rfl) H.out) (CL_one (cells := Ak.cells) Ak.one L) ?a3 ?a4 ?a5 ?_)
  case a3 => have := HSM.out; simp only [maxLen]; omega
  case a4 => have := HSM.out; omega
  case a5 => exact Nat.le_refl _
  intro A5 c5 w5 ho5 hg5 _
  have B5 : Hid (Below w.heap.size w w5) := ⟨hg5.os, hg5.tape, hg5.output, hg5.size, fun z hz => hg5.block z hz (fun e => by cases e)⟩
  have O5 : Hid (w5.ownsRow w.heap.size 29 4 (.slice A5 n c5) n (CL Ak.cells L)) := ho5
  clear ho5 hg5
  go_wp2_with (at_builtin; refine wpList_app rfl (.tmp 7) (.tmp 9) rfl eltApiAck w.heap.size (.slice A5 n c5) n (CL Ak.cells L) rfl (O5.out.alloc _) (some ⟨w5.heap.size, 0, none⟩) 1 1 (⟨-77, 0, 0, 0⟩ : Ak).cells rfl rfl (fun h => by cases h) (fresh_news w5 (⟨-77, 0, 0, 0⟩ : Ak).cells.toArray 29) (Ak.one ⟨-77, 0, 0, 0⟩) ?b3 ?b4 ?b5 ?_)
  case b3 => have := HSM.out; simp only [maxLen]; omega
  case b4 => have := HSM.out; omega
  case b5 => have := B5.out.size; simp; omega
  intro A6 c6 w6 ho6 hg6 _
  have B6 : Hid (Below w.heap.size w w6) := below_own B5.out B5.out.size O5.out ((World.grownBy_alloc w5 _ _).trans hg6)
  have O6 : Hid (w6.ownsRow w.heap.size 29 4 (.slice A6 (n + 1) c6) (n + 1) (CL Ak.cells (L ++ [⟨-77, 0, 0, 0⟩]))) := by rw [CL_push]; exact ho6
  have R6 : Hid (RdC 4 Ak.cells w6 A6 (n + 1) (L ++ [⟨-77, 0, 0, 0⟩])) := rdAk O6.out (by simp [HL.out])
  have hcap : n + 1 ≤ c6 := by
    rcases O6.out.2 with ⟨hv, h0⟩ | ⟨g, cap, cur, hv, _, _, h1, _⟩
    · omega
    · cases hv; exact h1
  obtain ⟨g, cap, hv, hgb, _⟩ := O6.out.form (by omega)
  cases hv
  have hc2 : (n : Int) ≤ (c6 : Int) := by omega
  have hc3 : (n : Int) + 1 ≤ (c6 : Int) := by omega
  have hc4 : ¬ c6 = 0 := by omega
  have hc5 : ¬ c6 = n := by omega
  have HCAP := Lib.hid hcap
  have HGB := Lib.hid hgb
  clear ho6 hg6 O6 O5 B5 hcap hgb
  go_wp2_with fail
  go_ret
  exact ⟨g, _, rfl, HCAP.out, HGB.out, B6.out, R6.out⟩
set_option maxHeartbeats 8000000 in
set_option maxRecDepth 100000 in
theorem keptAcks_any (g : Nat) (A : Option Addr) (n c d : Nat) (L : List Ak) (w : World) (h : RdC 4 Ak.cells w A n L) (ho : RdC 4 Ak.cells w (some ⟨g, 0, none⟩) (n + 1) (L ++ [⟨-77, 0, 0, 0⟩])) (hd : n + 1 ≤ d) (hsm : (n + 1) * 32 ≤ 140737488355328) :
    Calls Try.prog 56 #[.slice (some ⟨g, 0, none⟩) n d, .slice A n c] w fun e w' => e = .returned (.bool true) ∧ ∃ q, w' = w.drewN q := by
  have HL := Lib.hid h.len
  have RO : RdC 4 Ak.cells w (some ⟨g, 0, none⟩) n L := by
    have := ho.take n (by omega)
    rwa [List.take_left' h.len] at this
  have F := Lib.hid (sameAcks_any (some ⟨g, 0, none⟩) A n d c L w RO h)
  have HO := Lib.hid ho
  have hn : (n : Int) ≤ 6000000000000 := by omega
  have hc1 : (n : Int) + 1 ≤ (d : Int) := by omega
  have hc2 : (n : Int) ≤ (d : Int) := by omega
  have hc4 : ¬ d = 0 := by omega
  clear h ho hd hsm RO
  go_enter Try.func56, Try.ntmps56
  go_wp2_with fail
  refine F.out.mono ?_
  rintro e w2 ⟨rfl, q, rfl⟩
  have R2 := Lib.hid (HO.out.drewN q)
  obtain ⟨p0, p1, p2, p3⟩ := R2.out.atAk0 (k := n) (x := ⟨-77, 0, 0, 0⟩) (by rw [List.getElem?_append_right (by rw [HL.out]; exact Nat.le_refl _), HL.out]; simp)
  generalize hw : w.drewN q = w2 at R2 p0 p1 p2 p3 ⊢
  have HW := Lib.hid hw
  clear hw F
  go_wp2_with fail
  go_ret
  exact ⟨rfl, q, HW.out.symm⟩
end Go.Proofs.Ytjjobgolpedgeaa
