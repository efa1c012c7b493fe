/-
  The walks of nonce's Mixed, Compare, Next and works.
-/
import Derived.Test.YtgbjfmokfkdglaaNSrc
set_option linter.unusedVariables false
set_option linter.unusedSimpArgs false
namespace Go.Proofs.Ytgbjfmokfkdglaa
open Go.RowKit

/-- Mixed's state a word further, and the word of a state -/
def mS (s : Int) : Int := IntKind.u64.wrap (s + 11400714819323198485)
def mMix (z1 : Int) : Int :=
  bits BinOp.xor IntKind.u64 (IntKind.u64.wrap (bits BinOp.xor IntKind.u64 (IntKind.u64.wrap (bits BinOp.xor IntKind.u64 z1 (z1 / 1073741824) * 13787848793156543929)) (IntKind.u64.wrap (bits BinOp.xor IntKind.u64 z1 (z1 / 1073741824) * 13787848793156543929) / 134217728) * 10723151780598845931))
    (IntKind.u64.wrap (bits BinOp.xor IntKind.u64 (IntKind.u64.wrap (bits BinOp.xor IntKind.u64 z1 (z1 / 1073741824) * 13787848793156543929)) (IntKind.u64.wrap (bits BinOp.xor IntKind.u64 z1 (z1 / 1073741824) * 13787848793156543929) / 134217728) * 10723151780598845931) / 2147483648)
theorem word_any (q : Nat) (s : Int) (w : World) (h : Ob w q [.int .u64 s]) :
    Calls Try.prog 49 #[.pointer (some ⟨q, 0, none⟩)] w fun e w' => e = .returned (.int .u64 (mMix (mS s))) ∧ w.grownBy w' (some q) ∧ Ob w' q [.int .u64 (mS s)] := by
  have c0 := h.cell 0 rfl
  have f0 := h.fr 0 (by simp)
  have H := Lib.hid h
  clear h
  go_enter Try.func49, Try.ntmps49
  go_wp2
  go_ret
  exact ⟨rfl, grown_setCell _ _ _, H.out.set 0 (by simp) _⟩
theorem refWord_any (q : Nat) (s : Int) (w : World) (h : Ob w q [.int .u64 s]) :
    Calls Try.prog 60 #[.pointer (some ⟨q, 0, none⟩)] w fun e w' => e = .returned (.int .u64 (mMix (mS s))) ∧ w.grownBy w' (some q) ∧ Ob w' q [.int .u64 (mS s)] := by
  have c0 := h.cell 0 rfl
  have f0 := h.fr 0 (by simp)
  have H := Lib.hid h
  clear h
  go_enter Try.func60, Try.ntmps60
  go_wp2
  go_ret
  exact ⟨rfl, grown_setCell _ _ _, H.out.set 0 (by simp) _⟩
theorem mixed_any (q : Nat) (s : Int) (w : World) (h : Ob w q [.int .u64 s]) :
    Calls Try.prog 25 #[.pointer (some ⟨q, 0, none⟩)] w fun e w' => e = .returned (.tuple #[.agg #[.int .u64 (mMix (mS s)), .int .u64 (mMix (mS (mS s)))], .int .i64 0]) ∧ w.grownBy w' (some q) ∧ Ob w' q [.int .u64 (mS (mS s))] := by
  have H := Lib.hid h
  have lq := h.lt (by simp)
  clear h
  go_enter Try.func25, Try.ntmps25
  go_wp2_with fail
  refine (word_any q s _ (H.out.alloc _)).mono ?_
  rintro e w1 ⟨rfl, g1, o1⟩
  have k1 := Lib.hid g1
  have k2 := Lib.hid o1
  have r1 : Hid (Ob w1 w.heap.size [.int .u64 0, .int .u64 0]) := (Ob.fresh w _ _).kept g1 (by simp; omega)
  have z0 := r1.out.cell 0 rfl
  have z1 := r1.out.cell 1 rfl
  have z2 := r1.out.fr 0 (by simp)
  have z3 := r1.out.fr 1 (by simp)
  clear g1 o1
  go_wp2_with fail
  refine (word_any q (mS s) _ k2.out).mono ?_
  rintro e w2 ⟨rfl, g2, o2⟩
  have k3 := Lib.hid g2
  have k4 := Lib.hid o2
  have r2 : Hid (Ob w2 w.heap.size [.int .u64 0, .int .u64 0]) := r1.out.kept g2 (by simp; omega)
  clear g2 o2 z0 z1 z2 z3
  have z0 := r2.out.cell 0 rfl
  have z1 := r2.out.cell 1 rfl
  have z2 := r2.out.fr 0 (by simp)
  have z3 := r2.out.fr 1 (by simp)
  go_wp2
  (try simp only [Exit.inBlock, Exit.then])
  refine ret_draw Try.results25 w.heap.size _ _ _ rfl rfl ((r2.out.set 0 (by simp) _).set 1 (by simp) _) rfl ?_
  refine ⟨rfl, ?_, ?_⟩
  · refine gb_set (gb_set ?_ _ _ (.inr (Nat.le_refl _))) _ _ (.inr (Nat.le_refl _))
    exact (gb_alloc (World.grownBy.refl _ _) _).trans (k1.out.trans k3.out)
  · exact (k4.out.setOther _ (by simp; omega)).setOther _ (by simp; omega)
end Go.Proofs.Ytgbjfmokfkdglaa
