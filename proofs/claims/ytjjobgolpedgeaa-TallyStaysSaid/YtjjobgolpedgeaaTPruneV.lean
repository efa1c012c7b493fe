/-
  Prune of votes with logs, as the votes read; what is kept of a good list, plain Lean.
-/
import Derived.Test.YtjjobgolpedgeaaTPruneBallot
import Derived.Test.YtjjobgolpedgeaaTPruneAnswer
import Derived.Test.YtjjobgolpedgeaaTLog2
set_option linter.unusedVariables false
set_option linter.unusedSimpArgs false
namespace Go.Proofs.Ytjjobgolpedgeaa
open Go.RowKit

abbrev Lt.over (V : List Dw) (x : Lt) : Bool := overV V x.n x.h x.l
theorem pruneF_map {α β : Type} {oA : α → Bool} {oB : β → Bool} {g : α → β} (h : ∀ x, oB (g x) = oA x) (L : List α) : (pruneF oA L).map g = pruneF oB (L.map g) := by
  unfold pruneF
  rw [List.filter_map]
  congr 1
  refine List.filter_congr fun x _ => ?_
  simp only [Function.comp, h]
theorem pruneBallot_w (A : Option Addr) (n c : Nat) (V : List Lt) (B : Option Addr) (m d : Nat) (U : List Dw) (w : World) (h : RdV w A n V) (hv : RdC 2 Dw.cells w B m U) (hsm : (n + 2) * 64 ≤ 140737488355328) (hsv : m ≤ 100000000000000) :
    Calls Try.prog 46 #[.slice A n c, .slice B m d] w (RetW w (pruneF (Lt.over U) V)) := by
  obtain ⟨R, h1, h2, h3⟩ := h.raws
  refine (pruneBallot_fn A n c R B m d U (lgAt w) w h1 h2 hv hsm hsv).mono fun e w' h => ?_
  have := retW_of h (fun r hr => h2 r (List.mem_filter.1 hr).1)
  rw [pruneF_map (oA := Bt.over U) (oB := Lt.over U) (g := Bt.abs (lgAt w)) (fun _ => rfl), h3] at this
  exact this
theorem pruneAnswer_w (A : Option Addr) (n c : Nat) (V : List Lt) (B : Option Addr) (m d : Nat) (U : List Dw) (w : World) (h : RdV w A n V) (hv : RdC 2 Dw.cells w B m U) (hsm : (n + 2) * 64 ≤ 140737488355328) (hsv : m ≤ 100000000000000) :
    Calls Try.prog 47 #[.slice A n c, .slice B m d] w (RetW w (pruneF (Lt.over U) V)) := by
  obtain ⟨R, h1, h2, h3⟩ := h.raws
  refine (pruneAnswer_fn A n c R B m d U (lgAt w) w h1 h2 hv hsm hsv).mono fun e w' h => ?_
  have := retW_of h (fun r hr => h2 r (List.mem_filter.1 hr).1)
  rw [pruneF_map (oA := Bt.over U) (oB := Lt.over U) (g := Bt.abs (lgAt w)) (fun _ => rfl), h3] at this
  exact this
end Go.Proofs.Ytjjobgolpedgeaa
