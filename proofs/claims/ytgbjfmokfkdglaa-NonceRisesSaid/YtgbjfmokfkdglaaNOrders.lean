/-
  The walk of NonceOrders.
-/
import Derived.Test.YtgbjfmokfkdglaaNWorks
set_option linter.unusedVariables false
set_option linter.unusedSimpArgs false
namespace Go.Proofs.Ytgbjfmokfkdglaa
open Go.RowKit

theorem Ob.two {w : World} {b : Nat} {x y : Value} (h : Ob w b [x, y]) : w.cell? ⟨b, 0, none⟩ = some x ∧ w.cell? ⟨b, 1, none⟩ = some y := ⟨h.cell 0 rfl, h.cell 1 rfl⟩
/-- a call that only makes memory -/
theorem kept_two {w w' : World} (hb : Below w.heap.size w w') {b : Nat} {x y : Value} (h : w.cell? ⟨b, 0, none⟩ = some x ∧ w.cell? ⟨b, 1, none⟩ = some y) : w'.cell? ⟨b, 0, none⟩ = some x ∧ w'.cell? ⟨b, 1, none⟩ = some y :=
  ⟨(hb.cell (World.block_lt_of_cell? w _ h.1)).trans h.1, (hb.cell (World.block_lt_of_cell? w _ h.2)).trans h.2⟩
set_option maxHeartbeats 1600000 in
theorem nonceOrders_walk (h1 l1 h2 l2 : Int) (w : World) (wh1 : (Lit.int .u64 h1).wf = true) (wl1 : (Lit.int .u64 l1).wf = true) (wh2 : (Lit.int .u64 h2).wf = true) (wl2 : (Lit.int .u64 l2).wf = true) :
    Calls Try.prog 6 #[.agg #[.int .u64 h1, .int .u64 l1], .agg #[.int .u64 h2, .int .u64 l2]] w fun e w' => e = .returned (.bool true) ∧ Below w.heap.size w w' := by
  have bh := bounds_u64 wh1
  have bl := bounds_u64 wl1
  have BH := Lib.hid bh
  have BL := Lib.hid bl
  clear wh1 wl1 wh2 wl2 bh bl
  go_enter Try.func6, Try.ntmps6
  go_wp2_with fail
  have oa : Ob ((w.alloc (.cells #[.int .u64 h1, .int .u64 l1] 25)).alloc (.cells #[.int .u64 h2, .int .u64 l2] 25)) w.heap.size [.int .u64 h1, .int .u64 l1] := (Ob.fresh w _ _).alloc _
  have ob : Ob ((w.alloc (.cells #[.int .u64 h1, .int .u64 l1] 25)).alloc (.cells #[.int .u64 h2, .int .u64 l2] 25)) (w.heap.size + 1) [.int .u64 h2, .int .u64 l2] := by
    have := Ob.fresh (w.alloc (.cells #[.int .u64 h1, .int .u64 l1] 25)) #[.int .u64 h2, .int .u64 l2] 25
    rwa [World.size_alloc] at this
  have b0 : Below w.heap.size w ((w.alloc (.cells #[.int .u64 h1, .int .u64 l1] 25)).alloc (.cells #[.int .u64 h2, .int .u64 l2] 25)) := by go_grown
  have F := next_any h1 l1 ((w.alloc (.cells #[.int .u64 h1, .int .u64 l1] 25)).alloc (.cells #[.int .u64 h2, .int .u64 l2] 25)) BH.out.1 BL.out.1 (by have := BH.out.2; omega) (by have := BL.out.2; omega)
  refine F.mono ?_
  clear F
  generalize hW : (w.alloc (.cells #[.int .u64 h1, .int .u64 l1] 25)).alloc (.cells #[.int .u64 h2, .int .u64 l2] 25) = W at oa ob b0
  clear hW
  rintro e w1 ⟨rfl, hb1⟩
  generalize hnn : nNext h1 l1 = nn
  obtain ⟨n1, n2, n3⟩ := nn
  have HN := Lib.hid hnn
  clear hnn
  have oa1 := oa.below hb1
  have ob1 := ob.below hb1
  have b1 := Lib.hid (b0.trans (hb1.mono b0.size))
  have s1 := b1.out.size
  have c1 := oa1.two
  have OA := Lib.hid oa1
  have OB := Lib.hid ob1
  clear oa ob b0 hb1 oa1 ob1
  obtain ⟨c10, c11⟩ := c1
  have la := OA.out.lt (by simp)
  go_wp2_with fail
  have on : Ob (w1.alloc (.cells #[.int .u64 n1, .int .u64 n2] 25)) w1.heap.size [.int .u64 n1, .int .u64 n2] := Ob.fresh w1 _ _
  have F := refNext_any h1 l1 (w1.alloc (.cells #[.int .u64 n1, .int .u64 n2] 25)) BH.out.1 BL.out.1 (by have := BH.out.2; omega) (by have := BL.out.2; omega)
  rw [HN.out] at F
  refine F.mono ?_
  clear F
  rintro e w2 ⟨rfl, hb2⟩
  have b2 := Lib.hid ((b1.out.alloc s1 _).trans (hb2.mono (by simp; omega)))
  have OA2 := Lib.hid ((OA.out.alloc (.cells #[.int .u64 n1, .int .u64 n2] 25)).below hb2)
  have OB2 := Lib.hid ((OB.out.alloc (.cells #[.int .u64 n1, .int .u64 n2] 25)).below hb2)
  have ON2 := Lib.hid (on.below hb2)
  clear b1 OA OB on hb2 c10 c11 la s1
  have s2 := b2.out.size
  go_wp2_with fail
  have OM := Lib.hid (Ob.fresh w2 #[.int .u64 n1, .int .u64 n2] 25)
  have OA3 := (OA2.out.alloc (.cells #[.int .u64 n1, .int .u64 n2] 25)).two
  have OB3 := (OB2.out.alloc (.cells #[.int .u64 n1, .int .u64 n2] 25)).two
  have ON3 := (ON2.out.alloc (.cells #[.int .u64 n1, .int .u64 n2] 25)).two
  have OM3 := OM.out.two
  have b3 := b2.out.alloc s2 (.cells #[.int .u64 n1, .int .u64 n2] 25)
  generalize w2.alloc (.cells #[.int .u64 n1, .int .u64 n2] 25) = X at OA3 OB3 ON3 OM3 b3 ⊢
  clear OA2 OB2 ON2 OM b2 s2
  have kp : ∀ x x', ((x.cell? ⟨w.heap.size, 0, none⟩ = some (.int .u64 h1) ∧ x.cell? ⟨w.heap.size, 1, none⟩ = some (.int .u64 l1)) ∧ (x.cell? ⟨w.heap.size + 1, 0, none⟩ = some (.int .u64 h2) ∧ x.cell? ⟨w.heap.size + 1, 1, none⟩ = some (.int .u64 l2)) ∧ (x.cell? ⟨w1.heap.size, 0, none⟩ = some (.int .u64 n1) ∧ x.cell? ⟨w1.heap.size, 1, none⟩ = some (.int .u64 n2)) ∧ (x.cell? ⟨w2.heap.size, 0, none⟩ = some (.int .u64 n1) ∧ x.cell? ⟨w2.heap.size, 1, none⟩ = some (.int .u64 n2)) ∧ Below w.heap.size w x) → Below x.heap.size x x' → ((x'.cell? ⟨w.heap.size, 0, none⟩ = some (.int .u64 h1) ∧ x'.cell? ⟨w.heap.size, 1, none⟩ = some (.int .u64 l1)) ∧ (x'.cell? ⟨w.heap.size + 1, 0, none⟩ = some (.int .u64 h2) ∧ x'.cell? ⟨w.heap.size + 1, 1, none⟩ = some (.int .u64 l2)) ∧ (x'.cell? ⟨w1.heap.size, 0, none⟩ = some (.int .u64 n1) ∧ x'.cell? ⟨w1.heap.size, 1, none⟩ = some (.int .u64 n2)) ∧ (x'.cell? ⟨w2.heap.size, 0, none⟩ = some (.int .u64 n1) ∧ x'.cell? ⟨w2.heap.size, 1, none⟩ = some (.int .u64 n2)) ∧ Below w.heap.size w x') := fun x x' hx hb =>
    ⟨kept_two hb hx.1, kept_two hb hx.2.1, kept_two hb hx.2.2.1, kept_two hb hx.2.2.2.1, hx.2.2.2.2.trans (hb.mono hx.2.2.2.2.size)⟩
  have FW := Lib.hid (fun x (hx : ((x.cell? ⟨w.heap.size, 0, none⟩ = some (.int .u64 h1) ∧ x.cell? ⟨w.heap.size, 1, none⟩ = some (.int .u64 l1)) ∧ (x.cell? ⟨w.heap.size + 1, 0, none⟩ = some (.int .u64 h2) ∧ x.cell? ⟨w.heap.size + 1, 1, none⟩ = some (.int .u64 l2)) ∧ (x.cell? ⟨w1.heap.size, 0, none⟩ = some (.int .u64 n1) ∧ x.cell? ⟨w1.heap.size, 1, none⟩ = some (.int .u64 n2)) ∧ (x.cell? ⟨w2.heap.size, 0, none⟩ = some (.int .u64 n1) ∧ x.cell? ⟨w2.heap.size, 1, none⟩ = some (.int .u64 n2)) ∧ Below w.heap.size w x)) => (works_any x).mono (fun e x' (h : _ ∧ _) => And.intro h.1 (kp x x' hx h.2)))
  have FC := Lib.hid (fun a b c d x (hx : ((x.cell? ⟨w.heap.size, 0, none⟩ = some (.int .u64 h1) ∧ x.cell? ⟨w.heap.size, 1, none⟩ = some (.int .u64 l1)) ∧ (x.cell? ⟨w.heap.size + 1, 0, none⟩ = some (.int .u64 h2) ∧ x.cell? ⟨w.heap.size + 1, 1, none⟩ = some (.int .u64 l2)) ∧ (x.cell? ⟨w1.heap.size, 0, none⟩ = some (.int .u64 n1) ∧ x.cell? ⟨w1.heap.size, 1, none⟩ = some (.int .u64 n2)) ∧ (x.cell? ⟨w2.heap.size, 0, none⟩ = some (.int .u64 n1) ∧ x.cell? ⟨w2.heap.size, 1, none⟩ = some (.int .u64 n2)) ∧ Below w.heap.size w x)) => (compare_any a b c d x).mono (fun e x' (h : _ ∧ _) => And.intro h.1 (kp x x' hx h.2)))
  have FR := Lib.hid (fun a b c d x (hx : ((x.cell? ⟨w.heap.size, 0, none⟩ = some (.int .u64 h1) ∧ x.cell? ⟨w.heap.size, 1, none⟩ = some (.int .u64 l1)) ∧ (x.cell? ⟨w.heap.size + 1, 0, none⟩ = some (.int .u64 h2) ∧ x.cell? ⟨w.heap.size + 1, 1, none⟩ = some (.int .u64 l2)) ∧ (x.cell? ⟨w1.heap.size, 0, none⟩ = some (.int .u64 n1) ∧ x.cell? ⟨w1.heap.size, 1, none⟩ = some (.int .u64 n2)) ∧ (x.cell? ⟨w2.heap.size, 0, none⟩ = some (.int .u64 n1) ∧ x.cell? ⟨w2.heap.size, 1, none⟩ = some (.int .u64 n2)) ∧ Below w.heap.size w x)) => (refCompare_any a b c d x).mono (fun e x' (h : _ ∧ _) => And.intro h.1 (kp x x' hx h.2)))
  have hz : dCmp h1 l1 h1 l1 = 0 := by unfold dCmp; rw [if_pos rfl, if_pos rfl]
  clear kp
  go_region_held3 (fun x => ((x.cell? ⟨w.heap.size, 0, none⟩ = some (.int .u64 h1) ∧ x.cell? ⟨w.heap.size, 1, none⟩ = some (.int .u64 l1)) ∧ (x.cell? ⟨w.heap.size + 1, 0, none⟩ = some (.int .u64 h2) ∧ x.cell? ⟨w.heap.size + 1, 1, none⟩ = some (.int .u64 l2)) ∧ (x.cell? ⟨w1.heap.size, 0, none⟩ = some (.int .u64 n1) ∧ x.cell? ⟨w1.heap.size, 1, none⟩ = some (.int .u64 n2)) ∧ (x.cell? ⟨w2.heap.size, 0, none⟩ = some (.int .u64 n1) ∧ x.cell? ⟨w2.heap.size, 1, none⟩ = some (.int .u64 n2)) ∧ Below w.heap.size w x)) (first | exact ⟨OA3, OB3, ON3, OM3, Below.drew b3⟩ | assumption | go_keep)
    (first | (go_at_call 17; refine (FW.out _ (by first | assumption | (simp [*]))).mono ?_; rintro e x' ⟨rfl, hx'⟩) | (go_at_call 23; refine (FC.out _ _ _ _ _ (by first | assumption | (simp [*]))).mono ?_; rintro e x' ⟨rfl, hx'⟩) | (go_at_call 28; refine (FR.out _ _ _ _ _ (by first | assumption | (simp [*]))).mono ?_; rintro e x' ⟨rfl, hx'⟩))
  have HX := Lib.hid hx'.2.2.2.2
  clear hx'
  go_wp2
  go_returns
  exact ⟨rfl, HX.out⟩
end Go.Proofs.Ytgbjfmokfkdglaa
