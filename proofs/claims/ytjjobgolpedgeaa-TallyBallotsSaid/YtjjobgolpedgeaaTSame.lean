/-
  The walks of amnesiaplain.SameEntries, SameBallots, SameAnswers.
-/
import Derived.Test.YtjjobgolpedgeaaTLog
set_option linter.unusedVariables false
set_option linter.unusedSimpArgs false
namespace Go.Proofs.Ytjjobgolpedgeaa
open Go.RowKit

theorem RdC.atEt {w : World} {A : Option Addr} {n : Nat} {L : List Et} (h : RdC 5 Et.cells w A n L) {k : Nat} {x : Et} (hx : L[k]? = some x) :
    ∃ ad, A = some ad ∧ w.cell? (ad.add (k * 5)) = some (.int .i64 x.c) ∧ w.cell? ⟨(ad.add (k * 5)).block, (ad.add (k * 5)).off + 1, none⟩ = some (.int .i64 x.n) ∧ w.cell? ⟨(ad.add (k * 5)).block, (ad.add (k * 5)).off + 2, none⟩ = some (.int .i64 x.kd) ∧ w.cell? ⟨(ad.add (k * 5)).block, (ad.add (k * 5)).off + 3, none⟩ = some (.int .i64 x.sl) ∧ w.cell? ⟨(ad.add (k * 5)).block, (ad.add (k * 5)).off + 4, none⟩ = some (.string x.v) := by
  obtain ⟨ad, e, hc⟩ := h.cell k x hx
  refine ⟨ad, e, hc 0 _ rfl, ?_, ?_, ?_, ?_⟩
  · have := hc 1 _ rfl; rw [← add_add] at this; exact this
  · have := hc 2 _ rfl; rw [← add_add] at this; exact this
  · have := hc 3 _ rfl; rw [← add_add] at this; exact this
  · have := hc 4 _ rfl; rw [← add_add] at this; exact this
theorem ba_ne {a b : ByteArray} (h : a ≠ b) : (a.toList == b.toList) = false := by
  rw [beq_eq_false_iff_ne, ne_eq, ByteArray.toList_eq, ByteArray.toList_eq]
  exact fun e => h (ByteArray.ext (Array.toList_inj.mp e))
/-- of two lists as they read: are they one? -/
def SameOut (L M : List Et) (w : World) (e : Ending) (w' : World) : Prop := (∃ b, e = .returned (.bool b) ∧ (b = true ↔ L = M)) ∧ ∃ q, w' = w.drewN q
set_option maxHeartbeats 1600000 in
set_option maxRecDepth 100000 in
theorem sameEntries_any (A B : Option Addr) (n m c d : Nat) (L M : List Et) (w : World) (ha : RdC 5 Et.cells w A n L) (hb : RdC 5 Et.cells w B m M) :
    Calls Try.prog 31 #[.slice A n c, .slice B m d] w (SameOut L M w) := by
  have HA := Lib.hid ha
  have HB := Lib.hid hb
  have hn : (n : Int) ≤ 9223372036854775807 := by have := ha.le; omega
  clear ha hb
  by_cases hnm : n = m
  · subst hnm
    go_enter Try.func31, Try.ntmps31
    go_wp2
    go_loopw [5] (fun i wr => ∃ (k m : Nat), k ≤ n ∧ i = .int .i64 k ∧ Hid (wr = w.drewN m) ∧ Hid (∀ j, j < k → L[j]? = M[j]?)) (fun i _ => n - (intOf i).toNat)
    case atStart => exact ⟨0, 0, by omega, rfl, rfl, fun j hj => by omega⟩
    case round =>
      obtain ⟨k, m, hk, rfl, HR, HE⟩ := hrel
      by_cases hkn : k < n
      · obtain ⟨x, hx⟩ : ∃ x, L[k]? = some x := ⟨_, List.getElem?_eq_getElem (by have := HA.out.len; omega)⟩
        obtain ⟨y, hy⟩ : ∃ y, M[k]? = some y := ⟨_, List.getElem?_eq_getElem (by have := HB.out.len; omega)⟩
        have HA' : RdC 5 Et.cells wr A n L := by rw [HR.out]; exact HA.out.drewN m
        have HB' : RdC 5 Et.cells wr B n M := by rw [HR.out]; exact HB.out.drewN m
        obtain ⟨ad, rfl, g0, g1, g2, g3, g4⟩ := HA'.atEt hx
        obtain ⟨bd, rfl, p0, p1, p2, p3, p4⟩ := HB'.atEt hy
        have e1 : IntKind.i64.wrap ((k : Int) + 1) = (k : Int) + 1 := by rw [IntKind.wrap_i64]; omega
        have hki : (k : Int) < (n : Int) := by omega
        have HXX := Lib.hid hx
        have HYY := Lib.hid hy
        have HKN := Lib.hid hkn
        clear hx hy HA' HB' hkn hk
        go_upto_region 6 with fail
        have nope : ∀ z : x ≠ y, ¬ L = M := fun z e => by
          have h1 := HXX.out
          rw [e, HYY.out] at h1
          cases h1
          exact z rfl
        have NOPE := Lib.hid nope
        clear nope
        obtain ⟨x0, x1, x2, x3, x4⟩ := x
        obtain ⟨y0, y1, y2, y3, y4⟩ := y
        simp only at g0 g1 g2 g3 g4 p0 p1 p2 p3 p4
        by_cases q0 : x0 = y0
        case neg =>
          have hb : (x0 == y0) = false := beq_eq_false_iff_ne.2 q0
          have NO := Lib.hid (NOPE.out (fun e => by injection e with e; exact q0 e))
          clear q0
          go_quiet (fail)
          go_wp2_with fail
          go_ret
          exact ⟨⟨false, rfl, by simp [NO.out]⟩, _, by rw [HR.out, World.drewN_drewN]⟩
        subst q0
        by_cases q1 : x1 = y1
        case neg =>
          have hb : (x1 == y1) = false := beq_eq_false_iff_ne.2 q1
          have NO := Lib.hid (NOPE.out (fun e => by injection e with _ e; exact q1 e))
          clear q1
          go_quiet (fail)
          go_wp2_with fail
          go_ret
          exact ⟨⟨false, rfl, by simp [NO.out]⟩, _, by rw [HR.out, World.drewN_drewN]⟩
        subst q1
        by_cases q2 : x2 = y2
        case neg =>
          have hb : (x2 == y2) = false := beq_eq_false_iff_ne.2 q2
          have NO := Lib.hid (NOPE.out (fun e => by injection e with _ _ e; exact q2 e))
          clear q2
          go_quiet (fail)
          go_wp2_with fail
          go_ret
          exact ⟨⟨false, rfl, by simp [NO.out]⟩, _, by rw [HR.out, World.drewN_drewN]⟩
        subst q2
        by_cases q3 : x3 = y3
        case neg =>
          have hb : (x3 == y3) = false := beq_eq_false_iff_ne.2 q3
          have NO := Lib.hid (NOPE.out (fun e => by injection e with _ _ _ e; exact q3 e))
          clear q3
          go_quiet (fail)
          go_wp2_with fail
          go_ret
          exact ⟨⟨false, rfl, by simp [NO.out]⟩, _, by rw [HR.out, World.drewN_drewN]⟩
        subst q3
        by_cases q4 : x4 = y4
        case neg =>
          have hb : (x4.toList == y4.toList) = false := (ba_ne q4)
          have NO := Lib.hid (NOPE.out (fun e => by injection e with _ _ _ _ e; exact q4 e))
          clear q4
          go_quiet (fail)
          go_wp2_with fail
          go_ret
          exact ⟨⟨false, rfl, by simp [NO.out]⟩, _, by rw [HR.out, World.drewN_drewN]⟩
        subst q4
        go_quiet (fail)
        go_wp2_with fail
        go_roundw
        case rel => exact ⟨k + 1, m + nq, HKN.out, by go_num, by rw [HR.out, World.drewN_drewN]; exact rfl, fun j hj => by
          by_cases e : j = k
          · subst e; rw [HXX.out, HYY.out]
          · exact HE.out j (by omega)⟩
        case measure => have := HKN.out; simp [intOf]; omega
      · obtain rfl : k = n := by omega
        have hki : ¬ (k : Int) < (k : Int) := by omega
        clear hkn hk
        have HEQ : Hid (L = M) := List.ext_getElem? fun j => by
          by_cases hj : j < k
          · exact HE.out j hj
          · rw [List.getElem?_eq_none (by have := HA.out.len; omega), List.getElem?_eq_none (by have := HB.out.len; omega)]
        go_wp2_with fail
        go_ret
        exact ⟨⟨true, rfl, by simp [HEQ.out]⟩, m, HR.out⟩
  · have hb : ((n : Int) == (m : Int)) = false := beq_eq_false_iff_ne.2 (by omega)
    have NO : Hid (¬ L = M) := fun e => hnm (by rw [← HA.out.len, ← HB.out.len, e])
    clear hnm
    go_enter Try.func31, Try.ntmps31
    go_wp2
    go_ret
    exact ⟨⟨false, rfl, by simp [NO.out]⟩, 0, rfl⟩
theorem sameEntries_true (A B : Option Addr) (n c d : Nat) (L : List Et) (w : World) (ha : RdC 5 Et.cells w A n L) (hb : RdC 5 Et.cells w B n L) :
    Calls Try.prog 31 #[.slice A n c, .slice B n d] w fun e w' => e = .returned (.bool true) ∧ ∃ q, w' = w.drewN q :=
  (sameEntries_any A B n n c d L L w ha hb).mono fun e w' ⟨⟨b, he, hb⟩, hq⟩ => ⟨by rw [he, hb.2 rfl], hq⟩
set_option maxHeartbeats 1600000 in
set_option maxRecDepth 100000 in
theorem sameBallots_any (A B : Option Addr) (n c d : Nat) (V : List Lt) (w : World) (ha : RdV w A n V) (hb : RdV w B n V) :
    Calls Try.prog 29 #[.slice A n c, .slice B n d] w fun e w' => e = .returned (.bool true) ∧ ∃ m, w' = w.drewN m := by
  have HA := Lib.hid ha
  have HB := Lib.hid hb
  have hn : (n : Int) ≤ 9223372036854775807 := by have := ha.le; omega
  clear ha hb
  go_enter Try.func29, Try.ntmps29
  go_wp2
  go_loopw [5] (fun i wr => ∃ (k m : Nat), k ≤ n ∧ i = .int .i64 k ∧ Hid (wr = w.drewN m)) (fun i _ => n - (intOf i).toNat)
  case atStart => exact ⟨0, 0, by omega, rfl, rfl⟩
  case round =>
    obtain ⟨k, m, hk, rfl, HR⟩ := hrel
    by_cases hkn : k < n
    · obtain ⟨x, hx⟩ : ∃ x, V[k]? = some x := ⟨_, List.getElem?_eq_getElem (by have := HA.out.len; omega)⟩
      have HA' : RdV wr A n V := by rw [HR.out]; exact HA.out.drewN m
      have HB' : RdV wr B n V := by rw [HR.out]; exact HB.out.drewN m
      obtain ⟨ad, C, i, rfl, o1, g0, g1, g2, g3, g4, g5⟩ := HA'.atV hx
      obtain ⟨bd, D, j, rfl, o2, p0, p1, p2, p3, p4, p5⟩ := HB'.atV hx
      have Q := Lib.hid (fun q => Calls.quiet_of (sameEntries_true C D x.log.length i j x.log (wr.drewN q) (o1.rd.drewN q) (o2.rd.drewN q)))
      have e1 : IntKind.i64.wrap ((k : Int) + 1) = (k : Int) + 1 := by rw [IntKind.wrap_i64]; omega
      have hki : (k : Int) < (n : Int) := by omega
      have HKN := Lib.hid hkn
      obtain ⟨xn, xh, xl, xv, xc, xlog⟩ := x
      simp only at g0 g1 g2 g3 g4 g5 p0 p1 p2 p3 p4 p5 Q
      clear hx HA' HB' o1 o2 hkn hk
      go_upto_region 6 with fail
      go_quiet ((go_at_call 31; (with_reducible exact Q.out _)))
      go_wp2_with fail
      go_roundw
      case rel => exact ⟨k + 1, m + nq, HKN.out, by go_num, by rw [HR.out, World.drewN_drewN]; exact rfl⟩
      case measure => have := HKN.out; simp [intOf]; omega
    · obtain rfl : k = n := by omega
      have hki : ¬ (k : Int) < (k : Int) := by omega
      clear hkn hk
      go_wp2_with fail
      go_ret
      exact ⟨rfl, m, HR.out⟩
set_option maxHeartbeats 1600000 in
set_option maxRecDepth 100000 in
theorem sameAnswers_any (A B : Option Addr) (n c d : Nat) (V : List Lt) (w : World) (ha : RdV w A n V) (hb : RdV w B n V) :
    Calls Try.prog 25 #[.slice A n c, .slice B n d] w fun e w' => e = .returned (.bool true) ∧ ∃ m, w' = w.drewN m := by
  have HA := Lib.hid ha
  have HB := Lib.hid hb
  have hn : (n : Int) ≤ 9223372036854775807 := by have := ha.le; omega
  clear ha hb
  go_enter Try.func25, Try.ntmps25
  go_wp2
  go_loopw [5] (fun i wr => ∃ (k m : Nat), k ≤ n ∧ i = .int .i64 k ∧ Hid (wr = w.drewN m)) (fun i _ => n - (intOf i).toNat)
  case atStart => exact ⟨0, 0, by omega, rfl, rfl⟩
  case round =>
    obtain ⟨k, m, hk, rfl, HR⟩ := hrel
    by_cases hkn : k < n
    · obtain ⟨x, hx⟩ : ∃ x, V[k]? = some x := ⟨_, List.getElem?_eq_getElem (by have := HA.out.len; omega)⟩
      have HA' : RdV wr A n V := by rw [HR.out]; exact HA.out.drewN m
      have HB' : RdV wr B n V := by rw [HR.out]; exact HB.out.drewN m
      obtain ⟨ad, C, i, rfl, o1, g0, g1, g2, g3, g4, g5⟩ := HA'.atV hx
      obtain ⟨bd, D, j, rfl, o2, p0, p1, p2, p3, p4, p5⟩ := HB'.atV hx
      have Q := Lib.hid (fun q => Calls.quiet_of (sameEntries_true C D x.log.length i j x.log (wr.drewN q) (o1.rd.drewN q) (o2.rd.drewN q)))
      have e1 : IntKind.i64.wrap ((k : Int) + 1) = (k : Int) + 1 := by rw [IntKind.wrap_i64]; omega
      have hki : (k : Int) < (n : Int) := by omega
      have HKN := Lib.hid hkn
      obtain ⟨xn, xh, xl, xv, xc, xlog⟩ := x
      simp only at g0 g1 g2 g3 g4 g5 p0 p1 p2 p3 p4 p5 Q
      clear hx HA' HB' o1 o2 hkn hk
      go_upto_region 6 with fail
      go_quiet ((go_at_call 31; (with_reducible exact Q.out _)))
      go_wp2_with fail
      go_roundw
      case rel => exact ⟨k + 1, m + nq, HKN.out, by go_num, by rw [HR.out, World.drewN_drewN]; exact rfl⟩
      case measure => have := HKN.out; simp [intOf]; omega
    · obtain rfl : k = n := by omega
      have hki : ¬ (k : Int) < (k : Int) := by omega
      clear hkn hk
      go_wp2_with fail
      go_ret
      exact ⟨rfl, m, HR.out⟩
end Go.Proofs.Ytjjobgolpedgeaa
