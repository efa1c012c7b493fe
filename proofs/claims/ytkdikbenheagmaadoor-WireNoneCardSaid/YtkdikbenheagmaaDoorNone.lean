/-
  The walk of the law WireNone.
-/
import Derived.Test.YtkdikbenheagmaaDoorAlive
import Derived.Test.YtkdikbenheagmaaDoorReader4
set_option linter.unusedVariables false
set_option linter.unusedSimpArgs false
namespace Go.Proofs.YtkdikbenheagmaaDoor
open Go.RowKit

theorem txt_nil : txt [] = ⟨#[]⟩ := rfl
theorem empty_zero (p : Nat) (n : Int) (w : World) (h : ZeroRd w p) :
    Calls Tryd.prog 44 #[.pointer (some ⟨p, 0, none⟩), .int .i64 n] w fun e w' => e = .returned (.bool true) ∧ w = w' := by
  go_enter Tryd.func44, Tryd.ntmps44
  go_wp2_with (first | (go_at_call 29; refine (znumber p w h).mono ?_; rintro e w' ⟨rfl, rfl⟩) | (go_at_call 34; refine (zint p w h n).mono ?_; rintro e w' ⟨rfl, rfl⟩) | (go_at_call 36; refine (zcount p w h n).mono ?_; rintro e w' ⟨rfl, rfl⟩) | (go_at_call 37; refine (ztext p w h n).mono ?_; rintro e w' ⟨rfl, rfl⟩; rw [txt_nil]) | (go_at_call 30; refine (zat p w h).mono ?_; rintro e w' ⟨rfl, rfl⟩) | (go_at_call 39; refine (zleft p w h).mono ?_; rintro e w' ⟨rfl, rfl⟩) | (go_at_call 31; refine (zend p w h).mono ?_; rintro e w' ⟨rfl, rfl⟩) | (go_at_call 22; refine (num_any _ _).mono ?_; rintro e w' ⟨rfl, rfl⟩))
  go_ret
  exact ⟨rfl, rfl⟩
theorem empty_nil (n : Int) (w : World) :
    Calls Tryd.prog 44 #[.pointer none, .int .i64 n] w fun e w' => e = .returned (.bool true) ∧ w = w' := by
  go_enter Tryd.func44, Tryd.ntmps44
  go_wp2_with (first | (go_at_call 29; refine (nnumber w).mono ?_; rintro e w' ⟨rfl, rfl⟩) | (go_at_call 34; refine (nint w n).mono ?_; rintro e w' ⟨rfl, rfl⟩) | (go_at_call 36; refine (ncount w n).mono ?_; rintro e w' ⟨rfl, rfl⟩) | (go_at_call 37; refine (ntext w n).mono ?_; rintro e w' ⟨rfl, rfl⟩; rw [txt_nil]) | (go_at_call 30; refine (nat_ w).mono ?_; rintro e w' ⟨rfl, rfl⟩) | (go_at_call 39; refine (nleft w).mono ?_; rintro e w' ⟨rfl, rfl⟩) | (go_at_call 31; refine (nend w).mono ?_; rintro e w' ⟨rfl, rfl⟩) | (go_at_call 22; refine (num_any _ _).mono ?_; rintro e w' ⟨rfl, rfl⟩))
  go_ret
  exact ⟨rfl, rfl⟩

set_option maxHeartbeats 400000 in
theorem wireNone_walk (v : Int) (n : Int) (s : ByteArray) (w : World) (hv : (Lit.int .u64 v).wf = true) (hn : (Lit.int .i64 n).wf = true) (hs : s.size ≤ 140737488351232) (ht : Tab w) :
    Calls Tryd.prog 11 #[.int .u64 v, .int .i64 n, .string s] w fun e w' => e = .returned (.bool true) ∧ Below w.heap.size w w' := by
  have HT := Lib.hid ht
  clear ht hv hn
  go_enter Tryd.func11, Tryd.ntmps11
  go_wp2_with fail
  refine (alive_any w HT.out).mono ?_
  rintro e w1 ⟨rfl, hb1⟩
  have B1 := Lib.hid hb1
  have hz1 : w.heap.size ≤ w1.heap.size := hb1.size
  clear hb1
  go_wp2_with fail
  refine (number_nil v w1).mono ?_
  rintro e w' ⟨rfl, rfl⟩
  go_wp2_with fail
  refine (int_nil n w1).mono ?_
  rintro e w' ⟨rfl, rfl⟩
  go_wp2_with fail
  refine (count_nil n n w1).mono ?_
  rintro e w' ⟨rfl, rfl⟩
  go_wp2_with fail
  refine (text_nil s _ w1).mono ?_
  rintro e w' ⟨rfl, rfl⟩
  go_wp2_with fail
  refine (bytes_nil w1).mono ?_
  rintro e w2 ⟨A, c, rfl, hb2, _⟩
  have B2 := Lib.hid (B1.out.trans (hb2.mono hz1))
  have hz2 : w.heap.size ≤ w2.heap.size := by have := hb2.size; omega
  clear hb2
  go_wp2_with fail
  refine (num_any _ _).mono ?_
  rintro e w' ⟨rfl, rfl⟩
  go_wp2_with fail
  refine (empty_nil n _).mono ?_
  rintro e w' ⟨rfl, rfl⟩
  go_wp2_with fail
  refine (empty_zero _ n _ (by unfold ZeroRd; simp)).mono ?_
  rintro e w' ⟨rfl, rfl⟩
  go_wp2
  go_ret
  exact ⟨rfl, B2.out.alloc hz2 _⟩
end Go.Proofs.YtkdikbenheagmaaDoor
