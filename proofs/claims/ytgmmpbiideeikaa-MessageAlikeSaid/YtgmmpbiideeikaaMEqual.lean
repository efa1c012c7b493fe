/-
  slices.Equal of entries and of draws: are they one? (printed by gen_mequal.py).
-/
import Derived.Test.YtgmmpbiideeikaaMVec
set_option linter.unusedVariables false
set_option linter.unusedSimpArgs false
namespace Go.Proofs.Ytgmmpbiideeikaa
open Go.RowKit

set_option maxHeartbeats 1600000 in
set_option maxRecDepth 100000 in
theorem equalE_any (A B : Option Addr) (n m c d : Nat) (L M : List Et) (w : World) (ha : RdC 5 Et.cells w A n L) (hb : RdC 5 Et.cells w B m M) :
    Calls Try.prog 13 #[.slice A n c, .slice B m d] w (SameOut L M w) := by
  have HA := Lib.hid ha
  have HB := Lib.hid hb
  have hn : (n : Int) ≤ 9223372036854775807 := by have := ha.le; omega
  clear ha hb
  by_cases hnm : n = m
  · subst hnm
    go_enter Try.func13, Try.ntmps13
    go_wp2
    go_loopw [13] (fun i wr => ∃ (k m : Nat), k ≤ n ∧ i = .int .i64 k ∧ Hid (wr = w.drewN m) ∧ Hid (∀ j, j < k → L[j]? = M[j]?)) (fun i _ => n - (intOf i).toNat)
    case atStart => exact ⟨0, 0, by omega, rfl, rfl, fun j hj => by omega⟩
    case round =>
      obtain ⟨k, m, hk, rfl, HR, HE⟩ := hrel
      by_cases hkn : k < n
      · obtain ⟨x, hx⟩ : ∃ x, L[k]? = some x := ⟨_, List.getElem?_eq_getElem (by have := HA.out.len; omega)⟩
        obtain ⟨y, hy⟩ : ∃ y, M[k]? = some y := ⟨_, List.getElem?_eq_getElem (by have := HB.out.len; omega)⟩
        have HA' : RdC 5 Et.cells wr A n L := by rw [HR.out]; exact HA.out.drewN m
        have HB' : RdC 5 Et.cells wr B n M := by rw [HR.out]; exact HB.out.drewN m
        obtain ⟨ad, rfl, g0, g1, g2, g3, g4⟩ := HA'.atEt hx
        obtain ⟨bd, rfl, p0, p1, p2, p3, p4⟩ := HB'.atEt hy
        have e1 : IntKind.i64.wrap ((k : Int) + 1) = (k : Int) + 1 := by rw [IntKind.wrap_i64]; omega
        have hki : (k : Int) < (n : Int) := by omega
        have HXX := Lib.hid hx
        have HYY := Lib.hid hy
        have HKN := Lib.hid hkn
        clear hx hy HA' HB' hkn hk
        go_upto_region 6 with fail
        have nope : ∀ z : x ≠ y, ¬ L = M := fun z e => by
          have h1 := HXX.out
          rw [e, HYY.out] at h1
          cases h1
          exact z rfl
        have NOPE := Lib.hid nope
        clear nope
        obtain ⟨x0, x1, x2, x3, x4⟩ := x
        obtain ⟨y0, y1, y2, y3, y4⟩ := y
        simp only at g0 g1 g2 g3 g4 p0 p1 p2 p3 p4
        by_cases q0 : x0 = y0
        case neg =>
          have hb : (x0 == y0) = false := beq_eq_false_iff_ne.2 q0
          have NO := Lib.hid (NOPE.out (fun e => by injection e with e; exact q0 e))
          clear q0
          go_quiet (fail)
          go_wp2_with fail
          go_ret
          exact ⟨⟨false, rfl, by simp [NO.out]⟩, _, by rw [HR.out, World.drewN_drewN]⟩
        subst q0
        by_cases q1 : x1 = y1
        case neg =>
          have hb : (x1 == y1) = false := beq_eq_false_iff_ne.2 q1
          have NO := Lib.hid (NOPE.out (fun e => by injection e with _ e; exact q1 e))
          clear q1
          go_quiet (fail)
          go_wp2_with fail
          go_ret
          exact ⟨⟨false, rfl, by simp [NO.out]⟩, _, by rw [HR.out, World.drewN_drewN]⟩
        subst q1
        by_cases q2 : x2 = y2
        case neg =>
          have hb : (x2 == y2) = false := beq_eq_false_iff_ne.2 q2
          have NO := Lib.hid (NOPE.out (fun e => by injection e with _ _ e; exact q2 e))
          clear q2
          go_quiet (fail)
          go_wp2_with fail
          go_ret
          exact ⟨⟨false, rfl, by simp [NO.out]⟩, _, by rw [HR.out, World.drewN_drewN]⟩
        subst q2
        by_cases q3 : x3 = y3
        case neg =>
          have hb : (x3 == y3) = false := beq_eq_false_iff_ne.2 q3
          have NO := Lib.hid (NOPE.out (fun e => by injection e with _ _ _ e; exact q3 e))
          clear q3
          go_quiet (fail)
          go_wp2_with fail
          go_ret
          exact ⟨⟨false, rfl, by simp [NO.out]⟩, _, by rw [HR.out, World.drewN_drewN]⟩
        subst q3
        by_cases q4 : x4 = y4
        case neg =>
          have hb : (x4.toList == y4.toList) = false := (ba_ne q4)
          have NO := Lib.hid (NOPE.out (fun e => by injection e with _ _ _ _ e; exact q4 e))
          clear q4
          go_quiet (fail)
          go_wp2_with fail
          go_ret
          exact ⟨⟨false, rfl, by simp [NO.out]⟩, _, by rw [HR.out, World.drewN_drewN]⟩
        subst q4
        go_quiet (fail)
        go_wp2_with fail
        go_roundw
        case rel => exact ⟨k + 1, m + nq, HKN.out, by go_num, by rw [HR.out, World.drewN_drewN]; exact rfl, fun j hj => by
          by_cases e : j = k
          · subst e; rw [HXX.out, HYY.out]
          · exact HE.out j (by omega)⟩
        case measure => have := HKN.out; simp [intOf]; omega
      · obtain rfl : k = n := by omega
        have hki : ¬ (k : Int) < (k : Int) := by omega
        clear hkn hk
        have HEQ : Hid (L = M) := List.ext_getElem? fun j => by
          by_cases hj : j < k
          · exact HE.out j hj
          · rw [List.getElem?_eq_none (by have := HA.out.len; omega), List.getElem?_eq_none (by have := HB.out.len; omega)]
        go_wp2_with fail
        go_ret
        exact ⟨⟨true, rfl, by simp [HEQ.out]⟩, m, HR.out⟩
  · have hb : ((n : Int) == (m : Int)) = false := beq_eq_false_iff_ne.2 (by omega)
    have NO : Hid (¬ L = M) := fun e => hnm (by rw [← HA.out.len, ← HB.out.len, e])
    clear hnm
    go_enter Try.func13, Try.ntmps13
    go_wp2
    go_ret
    exact ⟨⟨false, rfl, by simp [NO.out]⟩, 0, rfl⟩
set_option maxHeartbeats 1600000 in
set_option maxRecDepth 100000 in
theorem equalD_any (A B : Option Addr) (n m c d : Nat) (L M : List Dw) (w : World) (ha : RdC 2 Dw.cells w A n L) (hb : RdC 2 Dw.cells w B m M) :
    Calls Try.prog 14 #[.slice A n c, .slice B m d] w (SameOutD L M w) := by
  have HA := Lib.hid ha
  have HB := Lib.hid hb
  have hn : (n : Int) ≤ 9223372036854775807 := by have := ha.le; omega
  clear ha hb
  by_cases hnm : n = m
  · subst hnm
    go_enter Try.func14, Try.ntmps14
    go_wp2
    go_loopw [13] (fun i wr => ∃ (k m : Nat), k ≤ n ∧ i = .int .i64 k ∧ Hid (wr = w.drewN m) ∧ Hid (∀ j, j < k → L[j]? = M[j]?)) (fun i _ => n - (intOf i).toNat)
    case atStart => exact ⟨0, 0, by omega, rfl, rfl, fun j hj => by omega⟩
    case round =>
      obtain ⟨k, m, hk, rfl, HR, HE⟩ := hrel
      by_cases hkn : k < n
      · obtain ⟨x, hx⟩ : ∃ x, L[k]? = some x := ⟨_, List.getElem?_eq_getElem (by have := HA.out.len; omega)⟩
        obtain ⟨y, hy⟩ : ∃ y, M[k]? = some y := ⟨_, List.getElem?_eq_getElem (by have := HB.out.len; omega)⟩
        have HA' : RdC 2 Dw.cells wr A n L := by rw [HR.out]; exact HA.out.drewN m
        have HB' : RdC 2 Dw.cells wr B n M := by rw [HR.out]; exact HB.out.drewN m
        obtain ⟨ad, rfl, g0, g1⟩ := HA'.atDw hx
        obtain ⟨bd, rfl, p0, p1⟩ := HB'.atDw hy
        have e1 : IntKind.i64.wrap ((k : Int) + 1) = (k : Int) + 1 := by rw [IntKind.wrap_i64]; omega
        have hki : (k : Int) < (n : Int) := by omega
        have HXX := Lib.hid hx
        have HYY := Lib.hid hy
        have HKN := Lib.hid hkn
        clear hx hy HA' HB' hkn hk
        go_upto_region 6 with fail
        have nope : ∀ z : x ≠ y, ¬ L = M := fun z e => by
          have h1 := HXX.out
          rw [e, HYY.out] at h1
          cases h1
          exact z rfl
        have NOPE := Lib.hid nope
        clear nope
        obtain ⟨x0, x1⟩ := x
        obtain ⟨y0, y1⟩ := y
        simp only at g0 g1 p0 p1
        by_cases q0 : x0 = y0
        case neg =>
          have hb : (((x0 : Nat) : Int) == ((y0 : Nat) : Int)) = false := beq_eq_false_iff_ne.2 (fun e => q0 (by exact_mod_cast e))
          have NO := Lib.hid (NOPE.out (fun e => by injection e with e; exact q0 e))
          clear q0
          go_quiet (fail)
          go_wp2_with fail
          go_ret
          exact ⟨⟨false, rfl, by simp [NO.out]⟩, _, by rw [HR.out, World.drewN_drewN]⟩
        subst q0
        by_cases q1 : x1 = y1
        case neg =>
          have hb : (((x1 : Nat) : Int) == ((y1 : Nat) : Int)) = false := beq_eq_false_iff_ne.2 (fun e => q1 (by exact_mod_cast e))
          have NO := Lib.hid (NOPE.out (fun e => by injection e with _ e; exact q1 e))
          clear q1
          go_quiet (fail)
          go_wp2_with fail
          go_ret
          exact ⟨⟨false, rfl, by simp [NO.out]⟩, _, by rw [HR.out, World.drewN_drewN]⟩
        subst q1
        go_quiet (fail)
        go_wp2_with fail
        go_roundw
        case rel => exact ⟨k + 1, m + nq, HKN.out, by go_num, by rw [HR.out, World.drewN_drewN]; exact rfl, fun j hj => by
          by_cases e : j = k
          · subst e; rw [HXX.out, HYY.out]
          · exact HE.out j (by omega)⟩
        case measure => have := HKN.out; simp [intOf]; omega
      · obtain rfl : k = n := by omega
        have hki : ¬ (k : Int) < (k : Int) := by omega
        clear hkn hk
        have HEQ : Hid (L = M) := List.ext_getElem? fun j => by
          by_cases hj : j < k
          · exact HE.out j hj
          · rw [List.getElem?_eq_none (by have := HA.out.len; omega), List.getElem?_eq_none (by have := HB.out.len; omega)]
        go_wp2_with fail
        go_ret
        exact ⟨⟨true, rfl, by simp [HEQ.out]⟩, m, HR.out⟩
  · have hb : ((n : Int) == (m : Int)) = false := beq_eq_false_iff_ne.2 (by omega)
    have NO : Hid (¬ L = M) := fun e => hnm (by rw [← HA.out.len, ← HB.out.len, e])
    clear hnm
    go_enter Try.func14, Try.ntmps14
    go_wp2
    go_ret
    exact ⟨⟨false, rfl, by simp [NO.out]⟩, 0, rfl⟩
end Go.Proofs.Ytgmmpbiideeikaa
