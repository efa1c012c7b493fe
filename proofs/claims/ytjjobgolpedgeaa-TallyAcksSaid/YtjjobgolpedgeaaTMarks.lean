/-
  The walk of TallyMarks.
-/
import Derived.Test.YtjjobgolpedgeaaTMarksA
import Derived.Test.YtjjobgolpedgeaaTGiven
import Derived.Test.YtjjobgolpedgeaaTRefPrune
import Derived.Test.YtjjobgolpedgeaaTRefPut
import Derived.Test.YtjjobgolpedgeaaTPruneMark
import Derived.Test.YtjjobgolpedgeaaTReach
import Derived.Test.YtjjobgolpedgeaaTWorks
set_option linter.unusedVariables false
set_option linter.unusedSimpArgs false
namespace Go.Proofs.Ytjjobgolpedgeaa
open Go.RowKit

theorem GvV.below {w w' : World} {g n : Nat} {V : List Dw} {d1 d2 : Addr} {e1 e2 : Nat} {A2 A5 : Option Addr} {c2 c5 : Nat} (h : GvV w g n V d1 d2 e1 e2 A2 A5 c2 c5) (hb : Below w.heap.size w w') : GvV w' g n V d1 d2 e1 e2 A2 A5 c2 c5 :=
  ⟨h.ob.below hb, (hb.cell (World.block_lt_of_cell? w _ h.c1)).trans h.c1, (hb.cell (World.block_lt_of_cell? w _ h.c2)).trans h.c2, h.r1.below hb, h.r2.below hb⟩
set_option maxRecDepth 100000 in
set_option maxHeartbeats 16000000 in
theorem tallyMarks_walk (c : Cg) (self : Int) (A : Option Addr) (n cp : Nat) (L : List Mk) (v : Mk) (B : Option Addr) (m d : Nat) (V : List Dw) (W : World) (ws : (Lit.int .i64 self).wf = true) (h : RdC 3 Mk.cells W A n L) (hA : A = none → n = 0 ∧ cp = 0) (hsm : n * 24 ≤ 140737488351232)
    (hv : RdC 2 Dw.cells W B m V) (hB : B = none → m = 0 ∧ d = 0) (hsv : m * 16 ≤ 140737488351232) :
    Calls Try.prog 11 #[c.agg, .int .i64 self, .slice A n cp, v.agg, .slice B m d] W fun e w' => e = .returned (.bool true) ∧ Below W.heap.size W w' := by
  obtain ⟨cf, cr, cpp, cu⟩ := c
  have H := Lib.hid h
  have HA := Lib.hid hA
  have HL := Lib.hid h.len
  have HSM := Lib.hid hsm
  have HV := Lib.hid hv
  have HB := Lib.hid hB
  have HVL := Lib.hid hv.len
  have HSV := Lib.hid hsv
  have hn : (n : Int) ≤ 6000000000000 := by omega
  clear h hA hsm hv hB hsv
  go_enter Try.func11, Try.ntmps11
  go_wp2_with fail
  have OC := Lib.hid (((Ob.fresh W #[.int .i64 cf, .int .i64 cr, .int .i64 cpp, .bool cu] 70).alloc (.cells #[.int .i64 v.n, .int .u64 (v.h : Nat), .int .u64 (v.l : Nat)] 49)).alloc (.cells #[.slice none 0 0, .slice none 0 0, .slice none 0 0, .slice none 0 0, .slice none 0 0, .slice none 0 0, .slice none 0 0, .slice none 0 0, .slice none 0 0, .slice none 0 0] 77))
  have OM : Hid (Ob (((W.alloc (.cells #[.int .i64 cf, .int .i64 cr, .int .i64 cpp, .bool cu] 70)).alloc (.cells #[.int .i64 v.n, .int .u64 (v.h : Nat), .int .u64 (v.l : Nat)] 49)).alloc (.cells #[.slice none 0 0, .slice none 0 0, .slice none 0 0, .slice none 0 0, .slice none 0 0, .slice none 0 0, .slice none 0 0, .slice none 0 0, .slice none 0 0, .slice none 0 0] 77)) (W.heap.size + 1) [.int .i64 v.n, .int .u64 (v.h : Nat), .int .u64 (v.l : Nat)]) := by
    have h := (Ob.fresh (W.alloc (.cells #[.int .i64 cf, .int .i64 cr, .int .i64 cpp, .bool cu] 70)) #[.int .i64 v.n, .int .u64 (v.h : Nat), .int .u64 (v.l : Nat)] 49).alloc (.cells #[.slice none 0 0, .slice none 0 0, .slice none 0 0, .slice none 0 0, .slice none 0 0, .slice none 0 0, .slice none 0 0, .slice none 0 0, .slice none 0 0, .slice none 0 0] 77)
    rw [World.size_alloc] at h
    exact h
  have OG : Hid (Ob (((W.alloc (.cells #[.int .i64 cf, .int .i64 cr, .int .i64 cpp, .bool cu] 70)).alloc (.cells #[.int .i64 v.n, .int .u64 (v.h : Nat), .int .u64 (v.l : Nat)] 49)).alloc (.cells #[.slice none 0 0, .slice none 0 0, .slice none 0 0, .slice none 0 0, .slice none 0 0, .slice none 0 0, .slice none 0 0, .slice none 0 0, .slice none 0 0, .slice none 0 0] 77)) (W.heap.size + 1 + 1) nil10) := by
    have h := Ob.fresh ((W.alloc (.cells #[.int .i64 cf, .int .i64 cr, .int .i64 cpp, .bool cu] 70)).alloc (.cells #[.int .i64 v.n, .int .u64 (v.h : Nat), .int .u64 (v.l : Nat)] 49)) #[.slice none 0 0, .slice none 0 0, .slice none 0 0, .slice none 0 0, .slice none 0 0, .slice none 0 0, .slice none 0 0, .slice none 0 0, .slice none 0 0, .slice none 0 0] 77
    rw [World.size_alloc, World.size_alloc] at h
    exact h
  have BW : Hid (Below W.heap.size W (((W.alloc (.cells #[.int .i64 cf, .int .i64 cr, .int .i64 cpp, .bool cu] 70)).alloc (.cells #[.int .i64 v.n, .int .u64 (v.h : Nat), .int .u64 (v.l : Nat)] 49)).alloc (.cells #[.slice none 0 0, .slice none 0 0, .slice none 0 0, .slice none 0 0, .slice none 0 0, .slice none 0 0, .slice none 0 0, .slice none 0 0, .slice none 0 0, .slice none 0 0] 77))) := ((below_al _ _).alloc (by simp) _).alloc (by simp; omega) _
  generalize (((W.alloc (.cells #[.int .i64 cf, .int .i64 cr, .int .i64 cpp, .bool cu] 70)).alloc (.cells #[.int .i64 v.n, .int .u64 (v.h : Nat), .int .u64 (v.l : Nat)] 49)).alloc (.cells #[.slice none 0 0, .slice none 0 0, .slice none 0 0, .slice none 0 0, .slice none 0 0, .slice none 0 0, .slice none 0 0, .slice none 0 0, .slice none 0 0, .slice none 0 0] 77)) = w1 at OC OM OG BW ⊢
  obtain ⟨r5, hr5⟩ : ∃ r, W.heap.size = r := ⟨_, rfl⟩
  rw [hr5] at OC OM OG ⊢
  obtain ⟨r8, hr8⟩ : ∃ r, r5 + 1 = r := ⟨_, rfl⟩
  rw [hr8] at OM OG ⊢
  obtain ⟨g, hg⟩ : ∃ r, r8 + 1 = r := ⟨_, rfl⟩
  rw [hg] at OG ⊢
  have HGW : Hid (W.heap.size ≤ g ∧ r5 ≠ g ∧ r8 ≠ g) := by simp only [Hid]; omega
  clear hr5 hr8 hg
  refine (lentMarks_any A n cp L _ (H.out.below BW.out) HA.out (by have := HSM.out; omega)).mono ?_
  rintro e w2 ⟨go, gc, rfl, hroom, hgo, hb2, ro⟩
  have HROOM := Lib.hid hroom
  have RO := Lib.hid ro
  replace OC := Lib.hid (OC.out.below hb2)
  replace OM := Lib.hid (OM.out.below hb2)
  have HGO : Hid (go ≠ g) := by have h1 := OG.out.lt (by simp); simp only [Hid]; omega
  replace OG := Lib.hid (OG.out.below hb2)
  replace BW := Lib.hid (BW.out.trans (hb2.mono BW.out.size))
  clear hroom hgo hb2 ro
  go_wp2_with fail
  refine (givenVector_any g B m d V _ OG.out (HV.out.below BW.out) HB.out (by have := HSV.out; omega)).mono ?_
  rintro e w3 ⟨b, bc, d1, d2, e1, e2, A5, c5, rfl, hch, hbb, hgv⟩
  have GV := Lib.hid hgv
  replace OC := Lib.hid (OC.out.chg hch HGW.out.2.1)
  replace OM := Lib.hid (OM.out.chg hch HGW.out.2.2)
  replace RO := Lib.hid (RO.out.chg hch (fun ad e => by cases e; exact HGO.out))
  replace BW : Hid (Below W.heap.size W w3) := BW.out.trans ⟨hch.os, hch.tape, hch.output, hch.size, fun z hz => hch.block z (Nat.lt_of_lt_of_le hz BW.out.size) (fun e => by have := HGW.out.1; omega)⟩
  have RL := Lib.hid (H.out.below BW.out)
  have RV := Lib.hid (HV.out.below BW.out)
  have RN : Hid (RdC 3 Mk.cells w3 (some ⟨go, 0, none⟩) n L) := by have h := RO.out.take n (by omega); rwa [List.take_left' HL.out] at h
  have RW : Hid (RdC 2 Dw.cells w3 (some b) m V) := by have h := GV.out.r1.take m (by omega); rwa [List.take_left' HVL.out] at h
  clear hch hbb hgv OG H HV
  go_upto_region 4 with fail
  have SX : Hid (∀ y, Below w3.heap.size w3 y → ((y.cell? ⟨r5, 0, none⟩ = some (.int .i64 cf) ∧ y.cell? ⟨r5, 1, none⟩ = some (.int .i64 cr) ∧ y.cell? ⟨r5, 2, none⟩ = some (.int .i64 cpp) ∧ y.cell? ⟨r5, 3, none⟩ = some (.bool cu)) ∧ (y.cell? ⟨r8, 0, none⟩ = some (.int .i64 v.n) ∧ y.cell? ⟨r8, 1, none⟩ = some (.int .u64 (v.h : Nat)) ∧ y.cell? ⟨r8, 2, none⟩ = some (.int .u64 (v.l : Nat))) ∧ Below w3.heap.size w3 y)) := fun y hb => ⟨(OC.out.below hb).all4, (OM.out.below hb).all3, hb⟩
  obtain ⟨R, hR⟩ : ∃ R, chkR Mk.n (fun _ => true) ⟨cf, cr, cpp, cu⟩ self L = R := ⟨_, rfl⟩
  obtain ⟨U, hU⟩ : ∃ U, putF Mk.n Mk.wins L v = U := ⟨_, rfl⟩
  obtain ⟨X, hX⟩ : ∃ X, pruneF (Mk.over V) L = X := ⟨_, rfl⟩
  have FC : Hid (∀ y, ((y.cell? ⟨r5, 0, none⟩ = some (.int .i64 cf) ∧ y.cell? ⟨r5, 1, none⟩ = some (.int .i64 cr) ∧ y.cell? ⟨r5, 2, none⟩ = some (.int .i64 cpp) ∧ y.cell? ⟨r5, 3, none⟩ = some (.bool cu)) ∧ (y.cell? ⟨r8, 0, none⟩ = some (.int .i64 v.n) ∧ y.cell? ⟨r8, 1, none⟩ = some (.int .u64 (v.h : Nat)) ∧ y.cell? ⟨r8, 2, none⟩ = some (.int .u64 (v.l : Nat))) ∧ Below w3.heap.size w3 y) → Calls Try.prog 38 #[.agg #[.int .i64 cf, .int .i64 cr, .int .i64 cpp, .bool cu], .int .i64 self, .slice (some ⟨go, 0, none⟩) n gc] y fun e y' => e = .returned (.int .i64 R) ∧ ((y'.cell? ⟨r5, 0, none⟩ = some (.int .i64 cf) ∧ y'.cell? ⟨r5, 1, none⟩ = some (.int .i64 cr) ∧ y'.cell? ⟨r5, 2, none⟩ = some (.int .i64 cpp) ∧ y'.cell? ⟨r5, 3, none⟩ = some (.bool cu)) ∧ (y'.cell? ⟨r8, 0, none⟩ = some (.int .i64 v.n) ∧ y'.cell? ⟨r8, 1, none⟩ = some (.int .u64 (v.h : Nat)) ∧ y'.cell? ⟨r8, 2, none⟩ = some (.int .u64 (v.l : Nat))) ∧ Below w3.heap.size w3 y')) := fun y hy => (hR ▸ checkMarks_any ⟨cf, cr, cpp, cu⟩ self _ n gc L y (RN.out.below hy.2.2) (by have := HSM.out; omega)).mono fun e y' h9 => ⟨h9.1, SX.out _ (hy.2.2.trans (h9.2.mono hy.2.2.size))⟩
  have FRC : Hid (∀ y, ((y.cell? ⟨r5, 0, none⟩ = some (.int .i64 cf) ∧ y.cell? ⟨r5, 1, none⟩ = some (.int .i64 cr) ∧ y.cell? ⟨r5, 2, none⟩ = some (.int .i64 cpp) ∧ y.cell? ⟨r5, 3, none⟩ = some (.bool cu)) ∧ (y.cell? ⟨r8, 0, none⟩ = some (.int .i64 v.n) ∧ y.cell? ⟨r8, 1, none⟩ = some (.int .u64 (v.h : Nat)) ∧ y.cell? ⟨r8, 2, none⟩ = some (.int .u64 (v.l : Nat))) ∧ Below w3.heap.size w3 y) → Calls Try.prog 39 #[.agg #[.int .i64 cf, .int .i64 cr, .int .i64 cpp, .bool cu], .int .i64 self, .slice A n cp] y fun e y' => e = .returned (.int .i64 R) ∧ ((y'.cell? ⟨r5, 0, none⟩ = some (.int .i64 cf) ∧ y'.cell? ⟨r5, 1, none⟩ = some (.int .i64 cr) ∧ y'.cell? ⟨r5, 2, none⟩ = some (.int .i64 cpp) ∧ y'.cell? ⟨r5, 3, none⟩ = some (.bool cu)) ∧ (y'.cell? ⟨r8, 0, none⟩ = some (.int .i64 v.n) ∧ y'.cell? ⟨r8, 1, none⟩ = some (.int .u64 (v.h : Nat)) ∧ y'.cell? ⟨r8, 2, none⟩ = some (.int .u64 (v.l : Nat))) ∧ Below w3.heap.size w3 y')) := fun y hy => (hR ▸ refCheckMarks_any ⟨cf, cr, cpp, cu⟩ self A n cp L y (RL.out.below hy.2.2) (by have := HSM.out; omega)).mono fun e y' h9 => ⟨h9.1, SX.out _ (hy.2.2.trans (h9.2.mono hy.2.2.size))⟩
  have FU : Hid (∀ y, ((y.cell? ⟨r5, 0, none⟩ = some (.int .i64 cf) ∧ y.cell? ⟨r5, 1, none⟩ = some (.int .i64 cr) ∧ y.cell? ⟨r5, 2, none⟩ = some (.int .i64 cpp) ∧ y.cell? ⟨r5, 3, none⟩ = some (.bool cu)) ∧ (y.cell? ⟨r8, 0, none⟩ = some (.int .i64 v.n) ∧ y.cell? ⟨r8, 1, none⟩ = some (.int .u64 (v.h : Nat)) ∧ y.cell? ⟨r8, 2, none⟩ = some (.int .u64 (v.l : Nat))) ∧ Below w3.heap.size w3 y) → Calls Try.prog 26 #[.slice (some ⟨go, 0, none⟩) n gc, .agg #[.int .i64 v.n, .int .u64 (v.h : Nat), .int .u64 (v.l : Nat)]] y fun e y' => RetL 49 3 Mk.cells y U e y' ∧ ((y'.cell? ⟨r5, 0, none⟩ = some (.int .i64 cf) ∧ y'.cell? ⟨r5, 1, none⟩ = some (.int .i64 cr) ∧ y'.cell? ⟨r5, 2, none⟩ = some (.int .i64 cpp) ∧ y'.cell? ⟨r5, 3, none⟩ = some (.bool cu)) ∧ (y'.cell? ⟨r8, 0, none⟩ = some (.int .i64 v.n) ∧ y'.cell? ⟨r8, 1, none⟩ = some (.int .u64 (v.h : Nat)) ∧ y'.cell? ⟨r8, 2, none⟩ = some (.int .u64 (v.l : Nat))) ∧ Below w3.heap.size w3 y')) := fun y hy => (hU ▸ putMark_fn _ n gc L v y (RN.out.below hy.2.2) (by have := HSM.out; omega)).mono fun e y' h9 => ⟨h9, SX.out _ (hy.2.2.trans (h9.choose_spec.choose_spec.2.1.mono hy.2.2.size))⟩
  have FRU : Hid (∀ y, ((y.cell? ⟨r5, 0, none⟩ = some (.int .i64 cf) ∧ y.cell? ⟨r5, 1, none⟩ = some (.int .i64 cr) ∧ y.cell? ⟨r5, 2, none⟩ = some (.int .i64 cpp) ∧ y.cell? ⟨r5, 3, none⟩ = some (.bool cu)) ∧ (y.cell? ⟨r8, 0, none⟩ = some (.int .i64 v.n) ∧ y.cell? ⟨r8, 1, none⟩ = some (.int .u64 (v.h : Nat)) ∧ y.cell? ⟨r8, 2, none⟩ = some (.int .u64 (v.l : Nat))) ∧ Below w3.heap.size w3 y) → Calls Try.prog 41 #[.slice A n cp, .agg #[.int .i64 v.n, .int .u64 (v.h : Nat), .int .u64 (v.l : Nat)]] y fun e y' => RetL 49 3 Mk.cells y U e y' ∧ ((y'.cell? ⟨r5, 0, none⟩ = some (.int .i64 cf) ∧ y'.cell? ⟨r5, 1, none⟩ = some (.int .i64 cr) ∧ y'.cell? ⟨r5, 2, none⟩ = some (.int .i64 cpp) ∧ y'.cell? ⟨r5, 3, none⟩ = some (.bool cu)) ∧ (y'.cell? ⟨r8, 0, none⟩ = some (.int .i64 v.n) ∧ y'.cell? ⟨r8, 1, none⟩ = some (.int .u64 (v.h : Nat)) ∧ y'.cell? ⟨r8, 2, none⟩ = some (.int .u64 (v.l : Nat))) ∧ Below w3.heap.size w3 y')) := fun y hy => (hU ▸ refPutMark_fn A n cp L v y (RL.out.below hy.2.2) HA.out (by have := HSM.out; omega)).mono fun e y' h9 => ⟨h9, SX.out _ (hy.2.2.trans (h9.choose_spec.choose_spec.2.1.mono hy.2.2.size))⟩
  have FP : Hid (∀ y, ((y.cell? ⟨r5, 0, none⟩ = some (.int .i64 cf) ∧ y.cell? ⟨r5, 1, none⟩ = some (.int .i64 cr) ∧ y.cell? ⟨r5, 2, none⟩ = some (.int .i64 cpp) ∧ y.cell? ⟨r5, 3, none⟩ = some (.bool cu)) ∧ (y.cell? ⟨r8, 0, none⟩ = some (.int .i64 v.n) ∧ y.cell? ⟨r8, 1, none⟩ = some (.int .u64 (v.h : Nat)) ∧ y.cell? ⟨r8, 2, none⟩ = some (.int .u64 (v.l : Nat))) ∧ Below w3.heap.size w3 y) → Calls Try.prog 42 #[.slice (some ⟨go, 0, none⟩) n gc, .slice (some b) m bc] y fun e y' => RetL 49 3 Mk.cells y X e y' ∧ ((y'.cell? ⟨r5, 0, none⟩ = some (.int .i64 cf) ∧ y'.cell? ⟨r5, 1, none⟩ = some (.int .i64 cr) ∧ y'.cell? ⟨r5, 2, none⟩ = some (.int .i64 cpp) ∧ y'.cell? ⟨r5, 3, none⟩ = some (.bool cu)) ∧ (y'.cell? ⟨r8, 0, none⟩ = some (.int .i64 v.n) ∧ y'.cell? ⟨r8, 1, none⟩ = some (.int .u64 (v.h : Nat)) ∧ y'.cell? ⟨r8, 2, none⟩ = some (.int .u64 (v.l : Nat))) ∧ Below w3.heap.size w3 y')) := fun y hy => (hX ▸ pruneMark_fn _ n gc L (some b) m bc V y (RN.out.below hy.2.2) (RW.out.below hy.2.2) (by have := HSM.out; omega) (by have := HSV.out; omega)).mono fun e y' h9 => ⟨h9, SX.out _ (hy.2.2.trans (h9.choose_spec.choose_spec.2.1.mono hy.2.2.size))⟩
  have FRP : Hid (∀ y, ((y.cell? ⟨r5, 0, none⟩ = some (.int .i64 cf) ∧ y.cell? ⟨r5, 1, none⟩ = some (.int .i64 cr) ∧ y.cell? ⟨r5, 2, none⟩ = some (.int .i64 cpp) ∧ y.cell? ⟨r5, 3, none⟩ = some (.bool cu)) ∧ (y.cell? ⟨r8, 0, none⟩ = some (.int .i64 v.n) ∧ y.cell? ⟨r8, 1, none⟩ = some (.int .u64 (v.h : Nat)) ∧ y.cell? ⟨r8, 2, none⟩ = some (.int .u64 (v.l : Nat))) ∧ Below w3.heap.size w3 y) → Calls Try.prog 43 #[.slice A n cp, .slice B m d] y fun e y' => RetL 49 3 Mk.cells y X e y' ∧ ((y'.cell? ⟨r5, 0, none⟩ = some (.int .i64 cf) ∧ y'.cell? ⟨r5, 1, none⟩ = some (.int .i64 cr) ∧ y'.cell? ⟨r5, 2, none⟩ = some (.int .i64 cpp) ∧ y'.cell? ⟨r5, 3, none⟩ = some (.bool cu)) ∧ (y'.cell? ⟨r8, 0, none⟩ = some (.int .i64 v.n) ∧ y'.cell? ⟨r8, 1, none⟩ = some (.int .u64 (v.h : Nat)) ∧ y'.cell? ⟨r8, 2, none⟩ = some (.int .u64 (v.l : Nat))) ∧ Below w3.heap.size w3 y')) := fun y hy => (hX ▸ refPruneMark_fn A n cp L B m d V y (RL.out.below hy.2.2) (RV.out.below hy.2.2) HSM.out (by have := HSV.out; omega)).mono fun e y' h9 => ⟨h9, SX.out _ (hy.2.2.trans (h9.choose_spec.choose_spec.2.1.mono hy.2.2.size))⟩
  have FS : Hid (∀ y A1 A2 c1 c2 (T : List Mk), ((y.cell? ⟨r5, 0, none⟩ = some (.int .i64 cf) ∧ y.cell? ⟨r5, 1, none⟩ = some (.int .i64 cr) ∧ y.cell? ⟨r5, 2, none⟩ = some (.int .i64 cpp) ∧ y.cell? ⟨r5, 3, none⟩ = some (.bool cu)) ∧ (y.cell? ⟨r8, 0, none⟩ = some (.int .i64 v.n) ∧ y.cell? ⟨r8, 1, none⟩ = some (.int .u64 (v.h : Nat)) ∧ y.cell? ⟨r8, 2, none⟩ = some (.int .u64 (v.l : Nat))) ∧ Below w3.heap.size w3 y) → RdC 3 Mk.cells y A1 T.length T → RdC 3 Mk.cells y A2 T.length T → Calls Try.prog 40 #[.slice A1 T.length c1, .slice A2 T.length c2] y fun e y' => e = .returned (.bool true) ∧ ((y'.cell? ⟨r5, 0, none⟩ = some (.int .i64 cf) ∧ y'.cell? ⟨r5, 1, none⟩ = some (.int .i64 cr) ∧ y'.cell? ⟨r5, 2, none⟩ = some (.int .i64 cpp) ∧ y'.cell? ⟨r5, 3, none⟩ = some (.bool cu)) ∧ (y'.cell? ⟨r8, 0, none⟩ = some (.int .i64 v.n) ∧ y'.cell? ⟨r8, 1, none⟩ = some (.int .u64 (v.h : Nat)) ∧ y'.cell? ⟨r8, 2, none⟩ = some (.int .u64 (v.l : Nat))) ∧ Below w3.heap.size w3 y')) := fun y A1 A2 c1 c2 T hy h1 h2 => (sameMarks_any A1 A2 T.length c1 c2 T y h1 h2).mono fun e y' h9 => ⟨h9.1, SX.out _ (by obtain ⟨q, hq⟩ := h9.2; rw [hq]; exact Below.drewN hy.2.2 q)⟩
  clear hR hU hX
  obtain ⟨⟨p0, p1, p2, p3⟩, ⟨q0, q1, q2⟩, _⟩ := SX.out _ (Below.refl _ _)
  go_region_held3 (fun y => ((y.cell? ⟨r5, 0, none⟩ = some (.int .i64 cf) ∧ y.cell? ⟨r5, 1, none⟩ = some (.int .i64 cr) ∧ y.cell? ⟨r5, 2, none⟩ = some (.int .i64 cpp) ∧ y.cell? ⟨r5, 3, none⟩ = some (.bool cu)) ∧ (y.cell? ⟨r8, 0, none⟩ = some (.int .i64 v.n) ∧ y.cell? ⟨r8, 1, none⟩ = some (.int .u64 (v.h : Nat)) ∧ y.cell? ⟨r8, 2, none⟩ = some (.int .u64 (v.l : Nat))) ∧ Below w3.heap.size w3 y)) (first | exact ⟨⟨p0, p1, p2, p3⟩, ⟨q0, q1, q2⟩, Below.drew (Below.refl _ _)⟩ | assumption | go_keep)
    (first
     | (go_at_call 40; refine (FS.out _ A7 A8 c7 c8 X hx8 rA7' rA8).mono ?_; rintro e x9 ⟨rfl, hx9⟩)
     | (go_at_call 43; refine (FRP.out _ hx7).mono ?_; rintro e x8 ⟨⟨A8, c8, rfl, hb8, ho8⟩, hx8⟩; have rA8 := rdMk ho8 rfl; have rA7' := rA7.below hb8)
     | (go_at_call 42; refine (FP.out _ hx6).mono ?_; rintro e x7 ⟨⟨A7, c7, rfl, hb7, ho7⟩, hx7⟩; have rA7 := rdMk ho7 rfl)
     | (go_at_call 40; refine (FS.out _ A3 A4 c3 c4 U hx4 rA3' rA4).mono ?_; rintro e x6 ⟨rfl, hx6⟩)
     | (go_at_call 41; refine (FRU.out _ hx3).mono ?_; rintro e x4 ⟨⟨A4, c4, rfl, hb4, ho4⟩, hx4⟩; have rA4 := rdMk ho4 rfl; have rA3' := rA3.below hb4)
     | (go_at_call 26; refine (FU.out _ hx2).mono ?_; rintro e x3 ⟨⟨A3, c3, rfl, hb3, ho3⟩, hx3⟩; have rA3 := rdMk ho3 rfl)
     | (go_at_call 39; refine (FRC.out _ hx1).mono ?_; rintro e x2 ⟨rfl, hx2⟩)
     | (go_at_call 38; refine (FC.out _ (by first | assumption | (simp [*]))).mono ?_; rintro e x1 ⟨rfl, hx1⟩))
  have H9 := Lib.hid hx9.2.2
  replace OC := Lib.hid (OC.out.below H9.out)
  replace RO := Lib.hid (RO.out.below H9.out)
  replace RL := Lib.hid (RL.out.below H9.out)
  replace GV := Lib.hid (GV.out.below H9.out)
  replace BW := Lib.hid (BW.out.trans (H9.out.mono BW.out.size))
  clear hx1 hx2 hx3 hx4 hx6 hx7 hx8 hx9 hb3 ho3 hb4 ho4 hb7 ho7 hb8 ho8 rA3 rA3' rA4 rA7 rA7' rA8 p0 p1 p2 p3 q0 q1 q2 SX FC FRC FU FRU FP FRP FS RN RW RV OM H9
  obtain ⟨w4, rfl⟩ : ∃ z, z = x9 := ⟨_, rfl⟩
  go_upto_region 6 with fail
  have SX : Hid (∀ y, Below w4.heap.size w4 y → (y.cell? ⟨r5, 0, none⟩ = some (.int .i64 cf) ∧ Below w4.heap.size w4 y)) := fun y hb => ⟨(OC.out.below hb).cell 0 rfl, hb⟩
  obtain ⟨bb, hbb⟩ : ∃ bb, decide (cf ≤ (n : Int)) = bb := ⟨_, rfl⟩
  have FM : Hid (∀ y, (y.cell? ⟨r5, 0, none⟩ = some (.int .i64 cf) ∧ Below w4.heap.size w4 y) → Calls Try.prog 27 #[.int .i64 cf, .slice (some ⟨go, 0, none⟩) n gc] y fun e y' => e = .returned (.bool bb) ∧ (y'.cell? ⟨r5, 0, none⟩ = some (.int .i64 cf) ∧ Below w4.heap.size w4 y')) := fun y hy => (hbb ▸ marked_any cf _ n gc y).mono fun e y' h9 => ⟨h9.1, SX.out _ (h9.2 ▸ hy.2)⟩
  have FRM : Hid (∀ y, (y.cell? ⟨r5, 0, none⟩ = some (.int .i64 cf) ∧ Below w4.heap.size w4 y) → Calls Try.prog 35 #[.int .i64 cf, .slice A n cp] y fun e y' => e = .returned (.bool bb) ∧ (y'.cell? ⟨r5, 0, none⟩ = some (.int .i64 cf) ∧ Below w4.heap.size w4 y')) := fun y hy => (hbb ▸ refMarked_any cf A n cp y).mono fun e y' h9 => ⟨h9.1, SX.out _ (h9.2 ▸ hy.2)⟩
  have FK : Hid (∀ y, (y.cell? ⟨r5, 0, none⟩ = some (.int .i64 cf) ∧ Below w4.heap.size w4 y) → Calls Try.prog 44 #[.slice (some ⟨go, 0, none⟩) n gc, .slice A n cp] y fun e y' => e = .returned (.bool true) ∧ (y'.cell? ⟨r5, 0, none⟩ = some (.int .i64 cf) ∧ Below w4.heap.size w4 y')) := fun y hy => (keptMarks_any go A n cp gc L y (RL.out.below hy.2) (RO.out.below hy.2) HROOM.out (by have := HSM.out; omega)).mono fun e y' h9 => ⟨h9.1, SX.out _ (by obtain ⟨q, hq⟩ := h9.2; rw [hq]; exact Below.drewN hy.2 q)⟩
  have FI : Hid (∀ y, (y.cell? ⟨r5, 0, none⟩ = some (.int .i64 cf) ∧ Below w4.heap.size w4 y) → Calls Try.prog 45 #[.pointer (some ⟨g, 0, none⟩)] y fun e y' => e = .returned (.bool true) ∧ (y'.cell? ⟨r5, 0, none⟩ = some (.int .i64 cf) ∧ Below w4.heap.size w4 y')) := fun y hy => (intact_any g (m + 1) _ d1 d2 e1 e2 (some b) A5 bc c5 y (GV.out.below hy.2)).mono fun e y' h9 => ⟨h9.1, SX.out _ (by obtain ⟨q, hq⟩ := h9.2; rw [hq]; exact Below.drewN hy.2 q)⟩
  have FW : Hid (∀ y, (y.cell? ⟨r5, 0, none⟩ = some (.int .i64 cf) ∧ Below w4.heap.size w4 y) → Calls Try.prog 17 #[] y fun e y' => e = .returned (.bool true) ∧ (y'.cell? ⟨r5, 0, none⟩ = some (.int .i64 cf) ∧ Below w4.heap.size w4 y')) := fun y hy => (works_any y).mono fun e y' h9 => ⟨h9.1, SX.out _ (hy.2.trans (h9.2.mono hy.2.size))⟩
  clear hbb
  have p0 := OC.out.cell 0 rfl
  go_region_held3 (fun y => (y.cell? ⟨r5, 0, none⟩ = some (.int .i64 cf) ∧ Below w4.heap.size w4 y)) (first | exact ⟨p0, Below.drew (Below.refl _ _)⟩ | assumption | go_keep)
    (first
     | (go_at_call 17; refine (FW.out _ hx4).mono ?_; rintro e x5 ⟨rfl, hx5⟩)
     | (go_at_call 45; refine (FI.out _ hx3).mono ?_; rintro e x4 ⟨rfl, hx4⟩)
     | (go_at_call 44; refine (FK.out _ hx2).mono ?_; rintro e x3 ⟨rfl, hx3⟩)
     | (go_at_call 35; refine (FRM.out _ hx1).mono ?_; rintro e x2 ⟨rfl, hx2⟩)
     | (go_at_call 27; refine (FM.out _ (by first | assumption | (simp [*]))).mono ?_; rintro e x1 ⟨rfl, hx1⟩))
  have HF := Lib.hid hx5.2
  clear hx1 hx2 hx3 hx4 hx5
  go_wp2_with fail
  go_ret
  exact ⟨rfl, BW.out.trans (HF.out.mono BW.out.size)⟩
end Go.Proofs.Ytjjobgolpedgeaa
