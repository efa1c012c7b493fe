/-
  The walk of TallyReaches.
-/
import Derived.Test.YtjjobgolpedgeaaTReach
import Derived.Test.YtjjobgolpedgeaaTWorks
set_option linter.unusedVariables false
set_option linter.unusedSimpArgs false
namespace Go.Proofs.Ytjjobgolpedgeaa
open Go.RowKit

set_option maxRecDepth 100000 in
set_option maxHeartbeats 1600000 in
theorem tallyReaches_walk (f own : Int) (A : Option Addr) (n c : Nat) (L : List Ak) (B : Option Addr) (m d : Nat) (M : List Mk) (W : World) (wf : (Lit.int .i64 f).wf = true) (wo : (Lit.int .i64 own).wf = true) (h : RdC 4 Ak.cells W A n L) (y : n * 32 ≤ 140737488351232) (h2 : RdC 3 Mk.cells W B m M) :
    Calls Try.prog 9 #[.int .i64 f, .int .i64 own, .slice A n c, .slice B m d] W fun e w' => e = .returned (.bool true) ∧ Below W.heap.size W w' := by
  have H := Lib.hid h
  have HY := Lib.hid y
  have HWF := Lib.hid wf
  have HE := Lib.hid (reach_eq f own L)
  clear h y wf wo
  go_enter Try.func9, Try.ntmps9
  go_wp2_with fail
  refine (reached_any f own A n c L _ HWF.out H.out (by have := HY.out; omega)).mono ?_
  rintro e w1 ⟨rfl, hb1⟩
  have B1 := Lib.hid hb1
  clear hb1
  go_wp2_with fail
  refine (refReached_any f own A n c L _ (H.out.below B1.out) (by have := HY.out; omega)).mono ?_
  rintro e w2 ⟨rfl, rfl⟩
  rw [HE.out]
  go_wp2_with fail
  refine (marked_any f B m d _).mono ?_
  rintro e w2 ⟨rfl, rfl⟩
  go_wp2_with fail
  refine (refMarked_any f B m d _).mono ?_
  rintro e w2 ⟨rfl, rfl⟩
  generalize decide (f ≤ (m : Int)) = bb
  go_wp2_with fail
  refine (works_any _).mono ?_
  rintro e w3 ⟨rfl, hb3⟩
  have B3 : Hid (Below W.heap.size W w3) := B1.out.trans (hb3.mono B1.out.size)
  clear hb3
  go_wp2_with fail
  go_ret
  exact ⟨rfl, B3.out⟩
end Go.Proofs.Ytjjobgolpedgeaa
