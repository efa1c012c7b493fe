/-
  The walks of tally.PutAck, PutMark, PutBallot, PutAnswer.
-/
import Derived.Test.YtjjobgolpedgeaaTPutAck
import Derived.Test.YtjjobgolpedgeaaTPutMark
import Derived.Test.YtjjobgolpedgeaaTPutBallot
import Derived.Test.YtjjobgolpedgeaaTPutAnswer
import Derived.Test.YtjjobgolpedgeaaTCpy
set_option linter.unusedVariables false
set_option linter.unusedSimpArgs false
namespace Go.Proofs.Ytjjobgolpedgeaa
open Go.RowKit

theorem rdAk {w : World} {B n : Nat} {e : TypeId} {A : Option Addr} {c : Nat} {L : List Ak} (h : w.ownsRow B e 4 (.slice A n c) n (CL Ak.cells L)) (hl : L.length = n) : RdC 4 Ak.cells w A n L := rdc_own (size := 4) (cells := Ak.cells) (fun _ => rfl) h hl
theorem rdMk {w : World} {B n : Nat} {e : TypeId} {A : Option Addr} {c : Nat} {L : List Mk} (h : w.ownsRow B e 3 (.slice A n c) n (CL Mk.cells L)) (hl : L.length = n) : RdC 3 Mk.cells w A n L := rdc_own (size := 3) (cells := Mk.cells) (fun _ => rfl) h hl
theorem rdBt {w : World} {B n : Nat} {e : TypeId} {A : Option Addr} {c : Nat} {L : List Bt} (h : w.ownsRow B e 6 (.slice A n c) n (CL Bt.cells L)) (hl : L.length = n) : RdC 6 Bt.cells w A n L := rdc_own (size := 6) (cells := Bt.cells) (fun _ => rfl) h hl
/-- what a list of ballots must be: each one's log reads -/
abbrev LgOk (lg : Bt → List Et) (w : World) (r : Bt) : Prop := RdC 5 Et.cells w r.A r.m (lg r) ∧ (r.A = none → r.m = 0 ∧ r.k = 0) ∧ r.m * 48 ≤ 140737488355328
def PutOutAck (L : List Ak) (v : Ak) (w : World) (e : Ending) (w' : World) : Prop := ∃ at_ same, Plc Ak.n L v at_ same ∧ RetL 29 4 Ak.cells w (putL Ak.wins L v at_ same) e w'
set_option maxHeartbeats 1600000 in
set_option maxRecDepth 100000 in
theorem putAck_any (A : Option Addr) (n c : Nat) (L : List Ak) (v : Ak) (w : World) (h : RdC 4 Ak.cells w A n L) (hsm : (n + 2) * 32 ≤ 140737488355328) :
    Calls Try.prog 21 #[.slice A n c, v.agg] w (PutOutAck L v w) := by
  have H := Lib.hid h
  have HSM := Lib.hid hsm
  clear h hsm
  go_enter Try.func21, Try.ntmps21
  go_wp2_with fail
  have OV := (Ob.fresh w #[.int .i64 v.n, .int .u64 (v.h : Nat), .int .u64 (v.l : Nat), .int .i64 v.p] 29).all4
  have BX : Hid (Below w.heap.size w (w.alloc (.cells #[.int .i64 v.n, .int .u64 (v.h : Nat), .int .u64 (v.l : Nat), .int .i64 v.p] 29))) := (Below.refl _ _).alloc (Nat.le_refl _) _
  have H1 := Lib.hid (H.out.below BX.out)
  generalize w.alloc (.cells #[.int .i64 v.n, .int .u64 (v.h : Nat), .int .u64 (v.l : Nat), .int .i64 v.p] 29) = w1 at OV BX H1 ⊢
  obtain ⟨r, hr⟩ : ∃ r, w.heap.size = r := ⟨_, rfl⟩
  rw [hr] at OV ⊢
  have HR := Lib.hid hr
  clear hr
  have kp : ∀ y y', ((y.cell? ⟨r, 0, none⟩ = some (.int .i64 v.n) ∧ y.cell? ⟨r, 1, none⟩ = some (.int .u64 (v.h : Nat)) ∧ y.cell? ⟨r, 2, none⟩ = some (.int .u64 (v.l : Nat)) ∧ y.cell? ⟨r, 3, none⟩ = some (.int .i64 v.p)) ∧ Below w1.heap.size w1 y) → Below y.heap.size y y' → ((y'.cell? ⟨r, 0, none⟩ = some (.int .i64 v.n) ∧ y'.cell? ⟨r, 1, none⟩ = some (.int .u64 (v.h : Nat)) ∧ y'.cell? ⟨r, 2, none⟩ = some (.int .u64 (v.l : Nat)) ∧ y'.cell? ⟨r, 3, none⟩ = some (.int .i64 v.p)) ∧ Below w1.heap.size w1 y') := fun y y' hx hb => ⟨keep4 hb hx.1, hx.2.trans (hb.mono hx.2.size)⟩
  have KP := Lib.hid kp
  clear kp
  have F1 := Lib.hid (fun y (hx : ((y.cell? ⟨r, 0, none⟩ = some (.int .i64 v.n) ∧ y.cell? ⟨r, 1, none⟩ = some (.int .u64 (v.h : Nat)) ∧ y.cell? ⟨r, 2, none⟩ = some (.int .u64 (v.l : Nat)) ∧ y.cell? ⟨r, 3, none⟩ = some (.int .i64 v.p)) ∧ Below w1.heap.size w1 y)) => (turn_toAck A n c L y (H1.out.below hx.2) (by have := HSM.out; omega)).mono (fun e y' h => show RetL 116 4 Ak.cells y L e y' ∧ ((y'.cell? ⟨r, 0, none⟩ = some (.int .i64 v.n) ∧ y'.cell? ⟨r, 1, none⟩ = some (.int .u64 (v.h : Nat)) ∧ y'.cell? ⟨r, 2, none⟩ = some (.int .u64 (v.l : Nat)) ∧ y'.cell? ⟨r, 3, none⟩ = some (.int .i64 v.p)) ∧ Below w1.heap.size w1 y') from ⟨h, KP.out y y' hx h.choose_spec.choose_spec.2.1⟩))
  go_region_held3 (fun y => ((y.cell? ⟨r, 0, none⟩ = some (.int .i64 v.n) ∧ y.cell? ⟨r, 1, none⟩ = some (.int .u64 (v.h : Nat)) ∧ y.cell? ⟨r, 2, none⟩ = some (.int .u64 (v.l : Nat)) ∧ y.cell? ⟨r, 3, none⟩ = some (.int .i64 v.p)) ∧ Below w1.heap.size w1 y)) (first | exact ⟨OV, Below.drew (Below.refl _ _)⟩ | assumption | go_keep)
    (first
     | (go_at_call 73; refine (F1.out _ (by first | assumption | (simp [*]))).mono ?_; rintro e x1 ⟨⟨A1, c1, rfl, hb1, ho1⟩, hx'⟩)
     | (go_at_call 75; refine (putAck_box A1 L.length c1 L v _ (rdAk ho1 rfl) (by have := HSM.out; have := H1.out.len; omega)).mono ?_; rintro e x2 ⟨at_, same, hp, A2, c2, rfl, hb2, ho2⟩; have hx2 := KP.out _ _ hx' hb2)
     | (go_at_call 72; refine (turn_fromAck A2 _ c2 (putL Ak.wins L v at_ same) _ (rdAk ho2 rfl) (by have h0 := putL_len Ak.wins L v at_ same; have := HSM.out; have := H1.out.len; omega)).mono ?_; rintro e x3 ⟨A3, c3, rfl, hb3, ho3⟩; have hx3 := KP.out _ _ hx2 hb3))
  have HB3 : Hid (Below w.heap.size w x3) := BX.out.trans (hx3.2.mono BX.out.size)
  have HB2 : Hid (Below w.heap.size w x2) := BX.out.trans (hx2.2.mono BX.out.size)
  have HO := Lib.hid (own_mono ho3 HB2.out.size)
  have HP := Lib.hid hp
  clear hx' hx2 hx3 hb1 hb2 hb3 ho1 ho2 ho3 OV F1 hp
  go_wp2
  go_ret
  exact ⟨at_, same, HP.out, A3, c3, rfl, HB3.out, HO.out⟩
def PutOutMark (L : List Mk) (v : Mk) (w : World) (e : Ending) (w' : World) : Prop := ∃ at_ same, Plc Mk.n L v at_ same ∧ RetL 49 3 Mk.cells w (putL Mk.wins L v at_ same) e w'
set_option maxHeartbeats 1600000 in
set_option maxRecDepth 100000 in
theorem putMark_any (A : Option Addr) (n c : Nat) (L : List Mk) (v : Mk) (w : World) (h : RdC 3 Mk.cells w A n L) (hsm : (n + 2) * 24 ≤ 140737488355328) :
    Calls Try.prog 26 #[.slice A n c, v.agg] w (PutOutMark L v w) := by
  have H := Lib.hid h
  have HSM := Lib.hid hsm
  clear h hsm
  go_enter Try.func26, Try.ntmps26
  go_wp2_with fail
  have OV := (Ob.fresh w #[.int .i64 v.n, .int .u64 (v.h : Nat), .int .u64 (v.l : Nat)] 49).all3
  have BX : Hid (Below w.heap.size w (w.alloc (.cells #[.int .i64 v.n, .int .u64 (v.h : Nat), .int .u64 (v.l : Nat)] 49))) := (Below.refl _ _).alloc (Nat.le_refl _) _
  have H1 := Lib.hid (H.out.below BX.out)
  generalize w.alloc (.cells #[.int .i64 v.n, .int .u64 (v.h : Nat), .int .u64 (v.l : Nat)] 49) = w1 at OV BX H1 ⊢
  obtain ⟨r, hr⟩ : ∃ r, w.heap.size = r := ⟨_, rfl⟩
  rw [hr] at OV ⊢
  have HR := Lib.hid hr
  clear hr
  have kp : ∀ y y', ((y.cell? ⟨r, 0, none⟩ = some (.int .i64 v.n) ∧ y.cell? ⟨r, 1, none⟩ = some (.int .u64 (v.h : Nat)) ∧ y.cell? ⟨r, 2, none⟩ = some (.int .u64 (v.l : Nat))) ∧ Below w1.heap.size w1 y) → Below y.heap.size y y' → ((y'.cell? ⟨r, 0, none⟩ = some (.int .i64 v.n) ∧ y'.cell? ⟨r, 1, none⟩ = some (.int .u64 (v.h : Nat)) ∧ y'.cell? ⟨r, 2, none⟩ = some (.int .u64 (v.l : Nat))) ∧ Below w1.heap.size w1 y') := fun y y' hx hb => ⟨keep3 hb hx.1, hx.2.trans (hb.mono hx.2.size)⟩
  have KP := Lib.hid kp
  clear kp
  have F1 := Lib.hid (fun y (hx : ((y.cell? ⟨r, 0, none⟩ = some (.int .i64 v.n) ∧ y.cell? ⟨r, 1, none⟩ = some (.int .u64 (v.h : Nat)) ∧ y.cell? ⟨r, 2, none⟩ = some (.int .u64 (v.l : Nat))) ∧ Below w1.heap.size w1 y)) => (turn_toMark A n c L y (H1.out.below hx.2) (by have := HSM.out; omega)).mono (fun e y' h => show RetL 135 3 Mk.cells y L e y' ∧ ((y'.cell? ⟨r, 0, none⟩ = some (.int .i64 v.n) ∧ y'.cell? ⟨r, 1, none⟩ = some (.int .u64 (v.h : Nat)) ∧ y'.cell? ⟨r, 2, none⟩ = some (.int .u64 (v.l : Nat))) ∧ Below w1.heap.size w1 y') from ⟨h, KP.out y y' hx h.choose_spec.choose_spec.2.1⟩))
  go_region_held3 (fun y => ((y.cell? ⟨r, 0, none⟩ = some (.int .i64 v.n) ∧ y.cell? ⟨r, 1, none⟩ = some (.int .u64 (v.h : Nat)) ∧ y.cell? ⟨r, 2, none⟩ = some (.int .u64 (v.l : Nat))) ∧ Below w1.heap.size w1 y)) (first | exact ⟨OV, Below.drew (Below.refl _ _)⟩ | assumption | go_keep)
    (first
     | (go_at_call 85; refine (F1.out _ (by first | assumption | (simp [*]))).mono ?_; rintro e x1 ⟨⟨A1, c1, rfl, hb1, ho1⟩, hx'⟩)
     | (go_at_call 87; refine (putMark_box A1 L.length c1 L v _ (rdMk ho1 rfl) (by have := HSM.out; have := H1.out.len; omega)).mono ?_; rintro e x2 ⟨at_, same, hp, A2, c2, rfl, hb2, ho2⟩; have hx2 := KP.out _ _ hx' hb2)
     | (go_at_call 84; refine (turn_fromMark A2 _ c2 (putL Mk.wins L v at_ same) _ (rdMk ho2 rfl) (by have h0 := putL_len Mk.wins L v at_ same; have := HSM.out; have := H1.out.len; omega)).mono ?_; rintro e x3 ⟨A3, c3, rfl, hb3, ho3⟩; have hx3 := KP.out _ _ hx2 hb3))
  have HB3 : Hid (Below w.heap.size w x3) := BX.out.trans (hx3.2.mono BX.out.size)
  have HB2 : Hid (Below w.heap.size w x2) := BX.out.trans (hx2.2.mono BX.out.size)
  have HO := Lib.hid (own_mono ho3 HB2.out.size)
  have HP := Lib.hid hp
  clear hx' hx2 hx3 hb1 hb2 hb3 ho1 ho2 ho3 OV F1 hp
  go_wp2
  go_ret
  exact ⟨at_, same, HP.out, A3, c3, rfl, HB3.out, HO.out⟩
def PutOutBallot (L : List Bt) (v : Bt) (lg : Bt → List Et) (w : World) (e : Ending) (w' : World) : Prop := ∃ at_ same, Plc Bt.n L v at_ same ∧ RetB 53 lg w (putL Bt.wins L v at_ same) e w'
set_option maxHeartbeats 1600000 in
set_option maxRecDepth 100000 in
theorem putBallot_any (A : Option Addr) (n c : Nat) (L : List Bt) (v : Bt) (lg : Bt → List Et) (w : World) (h : RdC 6 Bt.cells w A n L) (hlg : ∀ r, r = v ∨ r ∈ L → LgOk lg w r) (hsm : (n + 2) * 64 ≤ 140737488355328) :
    Calls Try.prog 28 #[.slice A n c, v.agg] w (PutOutBallot L v lg w) := by
  have H := Lib.hid h
  have HSM := Lib.hid hsm
  have HLG := Lib.hid hlg
  clear h hsm hlg
  go_enter Try.func28, Try.ntmps28
  go_wp2_with fail
  have OV := (Ob.fresh w #[.int .i64 v.n, .int .u64 (v.h : Nat), .int .u64 (v.l : Nat), .int .i64 v.v, .int .i64 v.c, .slice v.A v.m v.k] 53).all6
  have BX : Hid (Below w.heap.size w (w.alloc (.cells #[.int .i64 v.n, .int .u64 (v.h : Nat), .int .u64 (v.l : Nat), .int .i64 v.v, .int .i64 v.c, .slice v.A v.m v.k] 53))) := (Below.refl _ _).alloc (Nat.le_refl _) _
  have H1 := Lib.hid (H.out.below BX.out)
  have HLG1 : Hid (∀ r, r = v ∨ r ∈ L → LgOk lg (w.alloc (.cells #[.int .i64 v.n, .int .u64 (v.h : Nat), .int .u64 (v.l : Nat), .int .i64 v.v, .int .i64 v.c, .slice v.A v.m v.k] 53)) r) := fun r hr => ⟨(HLG.out r hr).1.below BX.out, (HLG.out r hr).2⟩
  generalize w.alloc (.cells #[.int .i64 v.n, .int .u64 (v.h : Nat), .int .u64 (v.l : Nat), .int .i64 v.v, .int .i64 v.c, .slice v.A v.m v.k] 53) = w1 at OV BX H1 HLG1 ⊢
  obtain ⟨r, hr⟩ : ∃ r, w.heap.size = r := ⟨_, rfl⟩
  rw [hr] at OV ⊢
  have HR := Lib.hid hr
  clear hr
  have kp : ∀ y y', ((y.cell? ⟨r, 0, none⟩ = some (.int .i64 v.n) ∧ y.cell? ⟨r, 1, none⟩ = some (.int .u64 (v.h : Nat)) ∧ y.cell? ⟨r, 2, none⟩ = some (.int .u64 (v.l : Nat)) ∧ y.cell? ⟨r, 3, none⟩ = some (.int .i64 v.v) ∧ y.cell? ⟨r, 4, none⟩ = some (.int .i64 v.c) ∧ y.cell? ⟨r, 5, none⟩ = some (.slice v.A v.m v.k)) ∧ Below w1.heap.size w1 y) → Below y.heap.size y y' → ((y'.cell? ⟨r, 0, none⟩ = some (.int .i64 v.n) ∧ y'.cell? ⟨r, 1, none⟩ = some (.int .u64 (v.h : Nat)) ∧ y'.cell? ⟨r, 2, none⟩ = some (.int .u64 (v.l : Nat)) ∧ y'.cell? ⟨r, 3, none⟩ = some (.int .i64 v.v) ∧ y'.cell? ⟨r, 4, none⟩ = some (.int .i64 v.c) ∧ y'.cell? ⟨r, 5, none⟩ = some (.slice v.A v.m v.k)) ∧ Below w1.heap.size w1 y') := fun y y' hx hb => ⟨keep6 hb hx.1, hx.2.trans (hb.mono hx.2.size)⟩
  have KP := Lib.hid kp
  clear kp
  have F1 := Lib.hid (fun y (hx : ((y.cell? ⟨r, 0, none⟩ = some (.int .i64 v.n) ∧ y.cell? ⟨r, 1, none⟩ = some (.int .u64 (v.h : Nat)) ∧ y.cell? ⟨r, 2, none⟩ = some (.int .u64 (v.l : Nat)) ∧ y.cell? ⟨r, 3, none⟩ = some (.int .i64 v.v) ∧ y.cell? ⟨r, 4, none⟩ = some (.int .i64 v.c) ∧ y.cell? ⟨r, 5, none⟩ = some (.slice v.A v.m v.k)) ∧ Below w1.heap.size w1 y)) => (turn_toBallot A n c L y (H1.out.below hx.2) (by have := HSM.out; omega)).mono (fun e y' h => show RetL 144 6 Bt.cells y L e y' ∧ ((y'.cell? ⟨r, 0, none⟩ = some (.int .i64 v.n) ∧ y'.cell? ⟨r, 1, none⟩ = some (.int .u64 (v.h : Nat)) ∧ y'.cell? ⟨r, 2, none⟩ = some (.int .u64 (v.l : Nat)) ∧ y'.cell? ⟨r, 3, none⟩ = some (.int .i64 v.v) ∧ y'.cell? ⟨r, 4, none⟩ = some (.int .i64 v.c) ∧ y'.cell? ⟨r, 5, none⟩ = some (.slice v.A v.m v.k)) ∧ Below w1.heap.size w1 y') from ⟨h, KP.out y y' hx h.choose_spec.choose_spec.2.1⟩))
  go_region_held3 (fun y => ((y.cell? ⟨r, 0, none⟩ = some (.int .i64 v.n) ∧ y.cell? ⟨r, 1, none⟩ = some (.int .u64 (v.h : Nat)) ∧ y.cell? ⟨r, 2, none⟩ = some (.int .u64 (v.l : Nat)) ∧ y.cell? ⟨r, 3, none⟩ = some (.int .i64 v.v) ∧ y.cell? ⟨r, 4, none⟩ = some (.int .i64 v.c) ∧ y.cell? ⟨r, 5, none⟩ = some (.slice v.A v.m v.k)) ∧ Below w1.heap.size w1 y)) (first | exact ⟨OV, Below.drew (Below.refl _ _)⟩ | assumption | go_keep)
    (first
     | (go_at_call 90; refine (F1.out _ (by first | assumption | (simp [*]))).mono ?_; rintro e x1 ⟨⟨A1, c1, rfl, hb1, ho1⟩, hx'⟩)
     | (go_at_call 92; refine (putBallot_box A1 L.length c1 L v lg _ (rdBt ho1 rfl) (fun r hr => ⟨(HLG1.out r hr).1.below hx'.2, (HLG1.out r hr).2⟩) (by have := HSM.out; have := H1.out.len; omega)).mono ?_; rintro e x2 ⟨at_, same, hp, A2, c2, R2, rfl, hb2, ho2, hc2⟩; have hx2 := KP.out _ _ hx' hb2)
     | (go_at_call 89; refine (turn_fromBallot A2 _ c2 R2 _ (rdBt ho2 hc2.len) (by have h0 := putL_len Bt.wins L v at_ same; have := HSM.out; have := H1.out.len; have := hc2.len; omega)).mono ?_; rintro e x3 ⟨A3, c3, rfl, hb3, ho3⟩; have hx3 := KP.out _ _ hx2 hb3))
  have HB3 : Hid (Below w.heap.size w x3) := BX.out.trans (hx3.2.mono BX.out.size)
  have HB2 : Hid (Below w.heap.size w x2) := BX.out.trans (hx2.2.mono BX.out.size)
  have HO := Lib.hid (own_mono ho3 HB2.out.size)
  have HP := Lib.hid hp
  have hl2 := hc2.len
  have HC := Lib.hid (show Cpy w.heap.size lg (RowB (.slice A3 (putL Bt.wins L v at_ same).length c3)) x3 R2 (putL Bt.wins L v at_ same) from
    ((hc2.lower (Nat.le_trans BX.out.size hx'.2.size)).more.below hb3).mono (fun j e => .inr (ho3.lt j (by rw [hl2]; exact e)).1))
  rw [hl2] at HO ⊢
  clear hc2 hl2
  clear hx' hx2 hx3 hb1 hb2 hb3 ho1 ho2 ho3 OV F1 hp
  go_wp2
  go_ret
  exact ⟨at_, same, HP.out, A3, c3, R2, rfl, HB3.out, HO.out, HC.out⟩
def PutOutAnswer (L : List Bt) (v : Bt) (lg : Bt → List Et) (w : World) (e : Ending) (w' : World) : Prop := ∃ at_ same, Plc Bt.n L v at_ same ∧ RetB 38 lg w (putL Bt.wins L v at_ same) e w'
set_option maxHeartbeats 1600000 in
set_option maxRecDepth 100000 in
theorem putAnswer_any (A : Option Addr) (n c : Nat) (L : List Bt) (v : Bt) (lg : Bt → List Et) (w : World) (h : RdC 6 Bt.cells w A n L) (hlg : ∀ r, r = v ∨ r ∈ L → LgOk lg w r) (hsm : (n + 2) * 64 ≤ 140737488355328) :
    Calls Try.prog 23 #[.slice A n c, v.agg] w (PutOutAnswer L v lg w) := by
  have H := Lib.hid h
  have HSM := Lib.hid hsm
  have HLG := Lib.hid hlg
  clear h hsm hlg
  go_enter Try.func23, Try.ntmps23
  go_wp2_with fail
  have OV := (Ob.fresh w #[.int .i64 v.n, .int .u64 (v.h : Nat), .int .u64 (v.l : Nat), .int .i64 v.v, .int .i64 v.c, .slice v.A v.m v.k] 38).all6
  have BX : Hid (Below w.heap.size w (w.alloc (.cells #[.int .i64 v.n, .int .u64 (v.h : Nat), .int .u64 (v.l : Nat), .int .i64 v.v, .int .i64 v.c, .slice v.A v.m v.k] 38))) := (Below.refl _ _).alloc (Nat.le_refl _) _
  have H1 := Lib.hid (H.out.below BX.out)
  have HLG1 : Hid (∀ r, r = v ∨ r ∈ L → LgOk lg (w.alloc (.cells #[.int .i64 v.n, .int .u64 (v.h : Nat), .int .u64 (v.l : Nat), .int .i64 v.v, .int .i64 v.c, .slice v.A v.m v.k] 38)) r) := fun r hr => ⟨(HLG.out r hr).1.below BX.out, (HLG.out r hr).2⟩
  generalize w.alloc (.cells #[.int .i64 v.n, .int .u64 (v.h : Nat), .int .u64 (v.l : Nat), .int .i64 v.v, .int .i64 v.c, .slice v.A v.m v.k] 38) = w1 at OV BX H1 HLG1 ⊢
  obtain ⟨r, hr⟩ : ∃ r, w.heap.size = r := ⟨_, rfl⟩
  rw [hr] at OV ⊢
  have HR := Lib.hid hr
  clear hr
  have kp : ∀ y y', ((y.cell? ⟨r, 0, none⟩ = some (.int .i64 v.n) ∧ y.cell? ⟨r, 1, none⟩ = some (.int .u64 (v.h : Nat)) ∧ y.cell? ⟨r, 2, none⟩ = some (.int .u64 (v.l : Nat)) ∧ y.cell? ⟨r, 3, none⟩ = some (.int .i64 v.v) ∧ y.cell? ⟨r, 4, none⟩ = some (.int .i64 v.c) ∧ y.cell? ⟨r, 5, none⟩ = some (.slice v.A v.m v.k)) ∧ Below w1.heap.size w1 y) → Below y.heap.size y y' → ((y'.cell? ⟨r, 0, none⟩ = some (.int .i64 v.n) ∧ y'.cell? ⟨r, 1, none⟩ = some (.int .u64 (v.h : Nat)) ∧ y'.cell? ⟨r, 2, none⟩ = some (.int .u64 (v.l : Nat)) ∧ y'.cell? ⟨r, 3, none⟩ = some (.int .i64 v.v) ∧ y'.cell? ⟨r, 4, none⟩ = some (.int .i64 v.c) ∧ y'.cell? ⟨r, 5, none⟩ = some (.slice v.A v.m v.k)) ∧ Below w1.heap.size w1 y') := fun y y' hx hb => ⟨keep6 hb hx.1, hx.2.trans (hb.mono hx.2.size)⟩
  have KP := Lib.hid kp
  clear kp
  have F1 := Lib.hid (fun y (hx : ((y.cell? ⟨r, 0, none⟩ = some (.int .i64 v.n) ∧ y.cell? ⟨r, 1, none⟩ = some (.int .u64 (v.h : Nat)) ∧ y.cell? ⟨r, 2, none⟩ = some (.int .u64 (v.l : Nat)) ∧ y.cell? ⟨r, 3, none⟩ = some (.int .i64 v.v) ∧ y.cell? ⟨r, 4, none⟩ = some (.int .i64 v.c) ∧ y.cell? ⟨r, 5, none⟩ = some (.slice v.A v.m v.k)) ∧ Below w1.heap.size w1 y)) => (turn_toAnswer A n c L y (H1.out.below hx.2) (by have := HSM.out; omega)).mono (fun e y' h => show RetL 125 6 Bt.cells y L e y' ∧ ((y'.cell? ⟨r, 0, none⟩ = some (.int .i64 v.n) ∧ y'.cell? ⟨r, 1, none⟩ = some (.int .u64 (v.h : Nat)) ∧ y'.cell? ⟨r, 2, none⟩ = some (.int .u64 (v.l : Nat)) ∧ y'.cell? ⟨r, 3, none⟩ = some (.int .i64 v.v) ∧ y'.cell? ⟨r, 4, none⟩ = some (.int .i64 v.c) ∧ y'.cell? ⟨r, 5, none⟩ = some (.slice v.A v.m v.k)) ∧ Below w1.heap.size w1 y') from ⟨h, KP.out y y' hx h.choose_spec.choose_spec.2.1⟩))
  go_region_held3 (fun y => ((y.cell? ⟨r, 0, none⟩ = some (.int .i64 v.n) ∧ y.cell? ⟨r, 1, none⟩ = some (.int .u64 (v.h : Nat)) ∧ y.cell? ⟨r, 2, none⟩ = some (.int .u64 (v.l : Nat)) ∧ y.cell? ⟨r, 3, none⟩ = some (.int .i64 v.v) ∧ y.cell? ⟨r, 4, none⟩ = some (.int .i64 v.c) ∧ y.cell? ⟨r, 5, none⟩ = some (.slice v.A v.m v.k)) ∧ Below w1.heap.size w1 y)) (first | exact ⟨OV, Below.drew (Below.refl _ _)⟩ | assumption | go_keep)
    (first
     | (go_at_call 79; refine (F1.out _ (by first | assumption | (simp [*]))).mono ?_; rintro e x1 ⟨⟨A1, c1, rfl, hb1, ho1⟩, hx'⟩)
     | (go_at_call 81; refine (putAnswer_box A1 L.length c1 L v lg _ (rdBt ho1 rfl) (fun r hr => ⟨(HLG1.out r hr).1.below hx'.2, (HLG1.out r hr).2⟩) (by have := HSM.out; have := H1.out.len; omega)).mono ?_; rintro e x2 ⟨at_, same, hp, A2, c2, R2, rfl, hb2, ho2, hc2⟩; have hx2 := KP.out _ _ hx' hb2)
     | (go_at_call 78; refine (turn_fromAnswer A2 _ c2 R2 _ (rdBt ho2 hc2.len) (by have h0 := putL_len Bt.wins L v at_ same; have := HSM.out; have := H1.out.len; have := hc2.len; omega)).mono ?_; rintro e x3 ⟨A3, c3, rfl, hb3, ho3⟩; have hx3 := KP.out _ _ hx2 hb3))
  have HB3 : Hid (Below w.heap.size w x3) := BX.out.trans (hx3.2.mono BX.out.size)
  have HB2 : Hid (Below w.heap.size w x2) := BX.out.trans (hx2.2.mono BX.out.size)
  have HO := Lib.hid (own_mono ho3 HB2.out.size)
  have HP := Lib.hid hp
  have hl2 := hc2.len
  have HC := Lib.hid (show Cpy w.heap.size lg (RowB (.slice A3 (putL Bt.wins L v at_ same).length c3)) x3 R2 (putL Bt.wins L v at_ same) from
    ((hc2.lower (Nat.le_trans BX.out.size hx'.2.size)).more.below hb3).mono (fun j e => .inr (ho3.lt j (by rw [hl2]; exact e)).1))
  rw [hl2] at HO ⊢
  clear hc2 hl2
  clear hx' hx2 hx3 hb1 hb2 hb3 ho1 ho2 ho3 OV F1 hp
  go_wp2
  go_ret
  exact ⟨at_, same, HP.out, A3, c3, R2, rfl, HB3.out, HO.out, HC.out⟩
end Go.Proofs.Ytjjobgolpedgeaa
