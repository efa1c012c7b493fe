/-
  The walk of the laws' own 'works'.
-/
import Derived.Test.YtjjobgolpedgeaaTPutF
import Derived.Test.YtjjobgolpedgeaaTSettle
set_option linter.unusedVariables false
set_option linter.unusedSimpArgs false
namespace Go.Proofs.Ytjjobgolpedgeaa
open Go.RowKit

theorem rd_lit {α : Type} {size : Nat} {cells : α → List Value} (hcl : ∀ x, (cells x).length = size) (w : World) (C : Array Value) (t : TypeId) (L : List α) (h : C.toList = CL cells L) (hl : L.length ≤ 9223372036854775807) : RdC size cells (w.alloc (.cells C t)) (some ⟨w.heap.size, 0, none⟩) L.length L :=
  ⟨rfl, hl, fun j x hx => ⟨_, rfl, fun i u hu => fresh_news w C t _ rfl _ u (by rw [h]; exact CL_get hcl L j x hx i u hu)⟩⟩
theorem w_put1 : putF Mk.n Mk.wins [] ⟨2, 0, 1⟩ = [⟨2, 0, 1⟩] := rfl
theorem w_put2 : putF Mk.n Mk.wins [⟨2, 0, 1⟩] ⟨1, 0, 1⟩ = [⟨1, 0, 1⟩, ⟨2, 0, 1⟩] := rfl
def wA1 : List Bt := [⟨1, 0, 0, 0, 0, none, 0, 0⟩, ⟨2, 0, 0, 0, 0, none, 0, 0⟩]
def wA2 : List Bt := [⟨1, 0, 0, 1, 1, none, 0, 0⟩, ⟨2, 0, 0, 0, 0, none, 0, 0⟩]
theorem w_set1 : settleF 1 wA1 = none := by rfl
theorem w_set2 : settleF 1 wA2 = some ⟨1, 0, 0, 1, 1, none, 0, 0⟩ := by rfl
theorem wA_ok (w : World) : ∀ r, r ∈ wA1 ∨ r ∈ wA2 → LgOk (fun _ => []) w r := by
  intro r hr
  have : r.A = none ∧ r.m = 0 ∧ r.k = 0 := by
    simp [wA1, wA2] at hr
    rcases hr with (rfl | rfl) | (rfl | rfl) <;> exact ⟨rfl, rfl, rfl⟩
  obtain ⟨h1, h2, h3⟩ := this
  refine ⟨by rw [h1, h2]; exact RdC.nil _ _ _ _, fun _ => ⟨h2, h3⟩, by rw [h2]; omega⟩
theorem putMark_two (A : Option Addr) (c : Nat) (w : World) {B : Nat} {e : TypeId} (ho : w.ownsRow B e 3 (.slice A 1 c) 1 (CL Mk.cells [⟨2, 0, 1⟩])) :
    Calls Try.prog 26 #[.slice A 1 c, .agg #[.int .i64 1, .int .u64 0, .int .u64 1]] w (RetL 49 3 Mk.cells w [⟨1, 0, 1⟩, ⟨2, 0, 1⟩]) := by
  have := putMark_fn A 1 c [⟨2, 0, 1⟩] ⟨1, 0, 1⟩ w (rdMk ho rfl) (by omega)
  rw [w_put2] at this
  exact this
set_option maxHeartbeats 1600000 in
set_option maxRecDepth 100000 in
theorem works_any (w : World) : Calls Try.prog 17 #[] w fun e w' => e = .returned (.bool true) ∧ Below w.heap.size w w' := by
  go_enter Try.func17, Try.ntmps17
  go_wp2_with fail
  have OV : (w.alloc (.cells #[.int .u64 0, .int .u64 1] 27)).cell? ⟨w.heap.size, 0, none⟩ = some (.int .u64 0) ∧ (w.alloc (.cells #[.int .u64 0, .int .u64 1] 27)).cell? ⟨w.heap.size, 1, none⟩ = some (.int .u64 1) :=
    ⟨(Ob.fresh w #[.int .u64 0, .int .u64 1] _).cell 0 rfl, (Ob.fresh w #[.int .u64 0, .int .u64 1] _).cell 1 rfl⟩
  have BX : Hid (Below w.heap.size w (w.alloc (.cells #[.int .u64 0, .int .u64 1] 27))) := (Below.refl _ _).alloc (Nat.le_refl _) _
  generalize w.alloc (.cells #[.int .u64 0, .int .u64 1] 27) = w1 at OV BX ⊢
  obtain ⟨r, hr⟩ : ∃ r, w.heap.size = r := ⟨_, rfl⟩
  rw [hr] at OV ⊢
  have HR := Lib.hid hr
  clear hr
  have KP := Lib.hid (show ∀ y y', ((y.cell? ⟨r, 0, none⟩ = some (.int .u64 0) ∧ y.cell? ⟨r, 1, none⟩ = some (.int .u64 1)) ∧ Below w1.heap.size w1 y) → Below y.heap.size y y' → ((y'.cell? ⟨r, 0, none⟩ = some (.int .u64 0) ∧ y'.cell? ⟨r, 1, none⟩ = some (.int .u64 1)) ∧ Below w1.heap.size w1 y') from fun y y' hx hb => ⟨⟨(hb.cell (World.block_lt_of_cell? y _ hx.1.1)).trans hx.1.1, (hb.cell (World.block_lt_of_cell? y _ hx.1.2)).trans hx.1.2⟩, hx.2.trans (hb.mono hx.2.size)⟩)
  have F1 := Lib.hid (fun y (hx : (y.cell? ⟨r, 0, none⟩ = some (.int .u64 0) ∧ y.cell? ⟨r, 1, none⟩ = some (.int .u64 1)) ∧ Below w1.heap.size w1 y) => (putMark_fn none 0 0 [] ⟨2, 0, 1⟩ y (RdC.nil _ _ _ _) (by omega)).mono (fun e y' h => show RetL 49 3 Mk.cells y [⟨2, 0, 1⟩] e y' ∧ ((y'.cell? ⟨r, 0, none⟩ = some (.int .u64 0) ∧ y'.cell? ⟨r, 1, none⟩ = some (.int .u64 1)) ∧ Below w1.heap.size w1 y') from ⟨h, KP.out y y' hx h.choose_spec.choose_spec.2.1⟩))
  go_region_held3 (fun y => (y.cell? ⟨r, 0, none⟩ = some (.int .u64 0) ∧ y.cell? ⟨r, 1, none⟩ = some (.int .u64 1)) ∧ Below w1.heap.size w1 y) (first | exact ⟨OV, Below.drew (Below.refl _ _)⟩ | assumption | go_keep)
    (first
     | (go_at_call 26; refine (putMark_two A1 c1 _ ho1).mono ?_; rintro e x2 ⟨A2, c2, rfl, hb2, ho2⟩; have hx2 := KP.out _ _ hx' hb2)
     | (go_at_call 26; refine (F1.out _ (by first | assumption | (simp [*]))).mono ?_; rintro e x1 ⟨⟨A1, c1, rfl, hb1, ho1⟩, hx'⟩))
  have HB2 : Hid (Below w.heap.size w x2) := BX.out.trans (hx2.2.mono BX.out.size)
  obtain ⟨g, cap, hv, _, _⟩ := ho2.form (by decide)
  cases hv
  have RM := Lib.hid (rdMk ho2 rfl)
  clear hx' hx2 hb1 hb2 ho1 ho2 OV F1 KP
  obtain ⟨p0, _, _⟩ := RM.out.atMk0 (k := 0) rfl
  obtain ⟨p1, _, _⟩ := RM.out.atMk0 (k := 1) rfl
  simp only [Nat.zero_mul, Nat.one_mul] at p0 p1
  go_wp2_with fail
  refine (marked_any 2 _ 2 c2 _).mono ?_
  rintro e w' ⟨rfl, rfl⟩
  go_wp2_with fail
  refine (marked_any 3 _ 2 c2 _).mono ?_
  rintro e w' ⟨rfl, rfl⟩
  clear p0 p1
  go_wp2_with fail
  refine (settle_any 1 _ 2 2 wA1 (fun _ => []) _ (by decide) (rd_lit (size := 6) (cells := Bt.cells) (fun _ => rfl) _ _ _ wA1 rfl (by decide)) (fun r hr => wA_ok _ r (.inl hr)) (by decide)).mono ?_
  rintro e w3 ⟨hb3, h3⟩
  rcases h3 with ⟨_, rfl⟩ | ⟨x, A, k, hx, _⟩
  case inr => rw [w_set1] at hx; cases hx
  have HB3 : Hid (Below w.heap.size w w3) := HB2.out.trans (((Below.refl _ _).alloc (Nat.le_refl _) _).trans (hb3.mono (by simp)) |>.mono HB2.out.size)
  clear hb3 RM
  go_wp2_with fail
  rw [show w3.heap.size + 1 = (w3.alloc (.cells #[.int .i64 Bt.zero.n, .int .u64 (Bt.zero.h : Nat), .int .u64 (Bt.zero.l : Nat), .int .i64 Bt.zero.v, .int .i64 Bt.zero.c, .slice Bt.zero.A Bt.zero.m Bt.zero.k] 38)).heap.size from (World.size_alloc _ _).symm]
  have HB33 : Hid (Below w.heap.size w (w3.alloc (.cells #[.int .i64 Bt.zero.n, .int .u64 (Bt.zero.h : Nat), .int .u64 (Bt.zero.l : Nat), .int .i64 Bt.zero.v, .int .i64 Bt.zero.c, .slice Bt.zero.A Bt.zero.m Bt.zero.k] 38))) := HB3.out.alloc HB3.out.size _
  generalize w3.alloc (.cells #[.int .i64 Bt.zero.n, .int .u64 (Bt.zero.h : Nat), .int .u64 (Bt.zero.l : Nat), .int .i64 Bt.zero.v, .int .i64 Bt.zero.c, .slice Bt.zero.A Bt.zero.m Bt.zero.k] 38) = w33 at HB33 ⊢
  clear HB3
  refine (settle_any 1 _ 2 2 wA2 (fun _ => []) _ (by decide) (rd_lit (size := 6) (cells := Bt.cells) (fun _ => rfl) _ _ _ wA2 rfl (by decide)) (fun r hr => wA_ok _ r (.inr hr)) (by decide)).mono ?_
  rintro e w4 ⟨hb4, h4⟩
  rcases h4 with ⟨hx, _⟩ | ⟨x, A, k, hx, rfl, _⟩
  · rw [w_set2] at hx; cases hx
  · rw [w_set2] at hx
    cases hx
    have HB4 : Hid (Below w.heap.size w w4) := HB33.out.trans (((Below.refl _ _).alloc (Nat.le_refl _) _).trans (hb4.mono (by simp)) |>.mono HB33.out.size)
    clear hb4 HB2
    go_wp2_with fail
    go_ret
    refine ⟨rfl, HB4.out.alloc HB4.out.size _⟩
end Go.Proofs.Ytjjobgolpedgeaa
