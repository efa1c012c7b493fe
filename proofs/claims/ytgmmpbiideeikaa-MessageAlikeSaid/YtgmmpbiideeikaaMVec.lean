/-
  SameVector (of two vectors: are they one?); Given.Intact with any number of vectors and lists of entries (printed by gen_mvec.py).
-/
import Derived.Test.YtgmmpbiideeikaaMGivA
set_option linter.unusedVariables false
set_option linter.unusedSimpArgs false
namespace Go.Proofs.Ytgmmpbiideeikaa
open Go.RowKit

/-- of two vectors as they read: are they one? -/
def SameOutD (L M : List Dw) (w : World) (e : Ending) (w' : World) : Prop := (∃ b, e = .returned (.bool b) ∧ (b = true ↔ L = M)) ∧ ∃ q, w' = w.drewN q
set_option maxHeartbeats 1600000 in
set_option maxRecDepth 100000 in
theorem sameVector_iff (A B : Option Addr) (n m c d : Nat) (L M : List Dw) (w : World) (ha : RdC 2 Dw.cells w A n L) (hb : RdC 2 Dw.cells w B m M) :
    Calls Try.prog 16 #[.slice A n c, .slice B m d] w (SameOutD L M w) := by
  have HA := Lib.hid ha
  have HB := Lib.hid hb
  have hn : (n : Int) ≤ 9223372036854775807 := by have := ha.le; omega
  clear ha hb
  by_cases hnm : n = m
  · subst hnm
    go_enter Try.func16, Try.ntmps16
    go_wp2
    go_loopw [5] (fun i wr => ∃ (k m : Nat), k ≤ n ∧ i = .int .i64 k ∧ Hid (wr = w.drewN m) ∧ Hid (∀ j, j < k → L[j]? = M[j]?)) (fun i _ => n - (intOf i).toNat)
    case atStart => exact ⟨0, 0, by omega, rfl, rfl, fun j hj => by omega⟩
    case round =>
      obtain ⟨k, m, hk, rfl, HR, HE⟩ := hrel
      by_cases hkn : k < n
      · obtain ⟨x, hx⟩ : ∃ x, L[k]? = some x := ⟨_, List.getElem?_eq_getElem (by have := HA.out.len; omega)⟩
        obtain ⟨y, hy⟩ : ∃ y, M[k]? = some y := ⟨_, List.getElem?_eq_getElem (by have := HB.out.len; omega)⟩
        have HA' : RdC 2 Dw.cells wr A n L := by rw [HR.out]; exact HA.out.drewN m
        have HB' : RdC 2 Dw.cells wr B n M := by rw [HR.out]; exact HB.out.drewN m
        obtain ⟨ad, rfl, g0, g1⟩ := HA'.atDw hx
        obtain ⟨bd, rfl, p0, p1⟩ := HB'.atDw hy
        have e1 : IntKind.i64.wrap ((k : Int) + 1) = (k : Int) + 1 := by rw [IntKind.wrap_i64]; omega
        have hki : (k : Int) < (n : Int) := by omega
        have HXX := Lib.hid hx
        have HYY := Lib.hid hy
        have HKN := Lib.hid hkn
        clear hx hy HA' HB' hkn hk
        go_upto_region 6 with fail
        have nope : ∀ z : x ≠ y, ¬ L = M := fun z e => by
          have h1 := HXX.out
          rw [e, HYY.out] at h1
          cases h1
          exact z rfl
        have NOPE := Lib.hid nope
        clear nope
        obtain ⟨x0, x1⟩ := x
        obtain ⟨y0, y1⟩ := y
        simp only at g0 g1 p0 p1
        by_cases q0 : x0 = y0
        case neg =>
          have hb : (((x0 : Nat) : Int) == ((y0 : Nat) : Int)) = false := beq_eq_false_iff_ne.2 (fun e => q0 (by exact_mod_cast e))
          have NO := Lib.hid (NOPE.out (fun e => by injection e with e; exact q0 e))
          clear q0
          go_quiet (fail)
          go_wp2_with fail
          go_ret
          exact ⟨⟨false, rfl, by simp [NO.out]⟩, _, by rw [HR.out, World.drewN_drewN]⟩
        subst q0
        by_cases q1 : x1 = y1
        case neg =>
          have hb : (((x1 : Nat) : Int) == ((y1 : Nat) : Int)) = false := beq_eq_false_iff_ne.2 (fun e => q1 (by exact_mod_cast e))
          have NO := Lib.hid (NOPE.out (fun e => by injection e with _ e; exact q1 e))
          clear q1
          go_quiet (fail)
          go_wp2_with fail
          go_ret
          exact ⟨⟨false, rfl, by simp [NO.out]⟩, _, by rw [HR.out, World.drewN_drewN]⟩
        subst q1
        go_quiet (fail)
        go_wp2_with fail
        go_roundw
        case rel => exact ⟨k + 1, m + nq, HKN.out, by go_num, by rw [HR.out, World.drewN_drewN]; exact rfl, fun j hj => by
          by_cases e : j = k
          · subst e; rw [HXX.out, HYY.out]
          · exact HE.out j (by omega)⟩
        case measure => have := HKN.out; simp [intOf]; omega
      · obtain rfl : k = n := by omega
        have hki : ¬ (k : Int) < (k : Int) := by omega
        clear hkn hk
        have HEQ : Hid (L = M) := List.ext_getElem? fun j => by
          by_cases hj : j < k
          · exact HE.out j hj
          · rw [List.getElem?_eq_none (by have := HA.out.len; omega), List.getElem?_eq_none (by have := HB.out.len; omega)]
        go_wp2_with fail
        go_ret
        exact ⟨⟨true, rfl, by simp [HEQ.out]⟩, m, HR.out⟩
  · have hb : ((n : Int) == (m : Int)) = false := beq_eq_false_iff_ne.2 (by omega)
    have NO : Hid (¬ L = M) := fun e => hnm (by rw [← HA.out.len, ← HB.out.len, e])
    clear hnm
    go_enter Try.func16, Try.ntmps16
    go_wp2
    go_ret
    exact ⟨⟨false, rfl, by simp [NO.out]⟩, 0, rfl⟩
set_option maxHeartbeats 8000000 in
set_option maxRecDepth 100000 in
theorem intactB_any (g : Nat) (us vs : List GD) (xs ys : List GE) (w : World) (h : GvB w g us vs xs ys)
    (hlen : xs.length = ys.length) (hk : (xs.length : Int) ≤ 6000000000000) (hsame : ∀ (k : Nat) (x y : GE), xs[k]? = some x → ys[k]? = some y → x.bs = y.bs)
    (hlend : us.length = vs.length) (hkd : (us.length : Int) ≤ 6000000000000) (hsamed : ∀ (k : Nat) (x y : GD), us[k]? = some x → vs[k]? = some y → x.bs = y.bs) :
    Calls Try.prog 8 #[.pointer (some ⟨g, 0, none⟩)] w fun e w' => e = .returned (.bool true) ∧ ∃ q, w' = w.drewN q := by
  obtain ⟨G, c, G', c', K, d, K', d', hD, hE, _⟩ := h
  have HD := Lib.hid hD
  have HE := Lib.hid hE
  have HS := Lib.hid hsame
  have HLEN := Lib.hid hlen
  have HSD := Lib.hid hsamed
  have HLEND := Lib.hid hlend
  have HK := Lib.hid hk
  clear hD hE hsame hlen hsamed hlend hk
  have o0 := HD.out.ob.cell 0 rfl
  have o6 := HD.out.ob.cell 6 rfl
  have o8 := HD.out.ob.cell 8 rfl
  go_enter Try.func8, Try.ntmps8
  go_wp2
  refine wp_loop_rounds 1 ?_
  rw [rounds_succ]
  go_wp2
  refine wp_loop_rounds 1 ?_
  rw [rounds_succ]
  go_wp2
  refine wp_loop_rounds 1 ?_
  rw [rounds_succ]
  go_wp2
  clear o0 o6 o8
  go_loopw [6] (fun i wr => ∃ k : Nat, k ≤ us.length ∧ i = .int .i64 k ∧ Hid (∃ m, wr = w.drewN m)) (fun i _ => us.length - (intOf i).toNat)
  case atStart => exact ⟨0, Nat.zero_le _, rfl, ⟨0, rfl⟩⟩
  case round =>
    obtain ⟨k, hkx, rfl, HM⟩ := hrel
    have HG : Hid (GvD wr g (.slice K xs.length d) (.slice K' ys.length d') G c G' c' us vs) := by
      obtain ⟨m, hm⟩ := HM.out
      rw [hm]; exact HD.out.drewN m
    have c2 := HG.out.ob.cell 2 rfl
    have c3 := HG.out.ob.cell 3 rfl
    by_cases hlt : k < us.length
    · have hlt' : k < vs.length := by rw [← HLEND.out]; exact hlt
      have hxk := List.getElem?_eq_getElem hlt
      have hyk := List.getElem?_eq_getElem hlt'
      obtain ⟨g0, rfl, hcx⟩ := HG.out.cell0 hxk
      obtain ⟨g1, rfl, hcy⟩ := HG.out.cell1 hyk
      have OX := Lib.hid (HG.out.e0 _ (List.getElem_mem hlt)).1
      have OY := Lib.hid (HG.out.e1 _ (List.getElem_mem hlt')).1
      have hbs := HSD.out k _ _ hxk hyk
      generalize us[k] = x at hcx OX hbs
      generalize vs[k] = y at hcy OY hbs
      obtain ⟨xA, xn, xc, xb⟩ := x
      obtain ⟨yA, yn, yc, yb⟩ := y
      simp only [GD.v] at hcx hcy hbs OX OY
      obtain rfl := hbs
      have Q := Lib.hid (fun q => Calls.quiet_of ((sameVector_iff xA yA xn yn xc yc xb xb (wr.drewN q) (OX.out.drewN q) (OY.out.drewN q)).mono fun e w' (h9 : SameOutD xb xb (wr.drewN q) e w') => show e = .returned (.bool true) ∧ ∃ m, w' = (wr.drewN q).drewN m from by obtain ⟨⟨b, h1, h2⟩, h3⟩ := h9; exact ⟨by rw [h1, h2.2 rfl], h3⟩))
      have hkx' : (k : Int) < (us.length : Int) := by omega
      have hky' : (k : Int) < (vs.length : Int) := by omega
      clear hxk hyk OX OY
      go_upto_region 19 with fail
      go_quiet ((go_at_call 16; (with_reducible exact Q.out _)))
      clear c2 c3 hcx hcy
      go_wp2
      go_roundw
      case rel =>
        refine ⟨k + 1, by omega, by go_num, ?_⟩
        obtain ⟨m, hm⟩ := HM.out
        rw [hm]
        exact ⟨_, World.drewN_drewN _ _ _⟩
      case measure => simp [intOf]; omega
    · have hkx' : ¬ (k : Int) < (us.length : Int) := by omega
      have hk := HK.out
      clear hkx hlt
      go_wp2_with fail
      obtain ⟨w4, rfl⟩ : ∃ z, z = wr := ⟨_, rfl⟩
      go_loopw [7] (fun i wr => ∃ k : Nat, k ≤ xs.length ∧ i = .int .i64 k ∧ Hid (∃ m, wr = w.drewN m)) (fun i _ => xs.length - (intOf i).toNat)
      case atStart => exact ⟨0, Nat.zero_le _, rfl, HM.out⟩
      case round =>
        clear c2 c3 hkx'
        obtain ⟨k, hkx, rfl, HM⟩ := hrel
        have HG : Hid (GvE wr g (.slice G us.length c) (.slice G' vs.length c') K d K' d' xs ys) := by
          obtain ⟨m, hm⟩ := HM.out
          rw [hm]; exact HE.out.drewN m
        have c4 := HG.out.ob.cell 4 rfl
        have c5 := HG.out.ob.cell 5 rfl
        by_cases hlt : k < xs.length
        · have hlt' : k < ys.length := by rw [← HLEN.out]; exact hlt
          have hxk := List.getElem?_eq_getElem hlt
          have hyk := List.getElem?_eq_getElem hlt'
          obtain ⟨g0, rfl, hcx⟩ := HG.out.cell0 hxk
          obtain ⟨g1, rfl, hcy⟩ := HG.out.cell1 hyk
          have OX := Lib.hid (HG.out.e0 _ (List.getElem_mem hlt)).1
          have OY := Lib.hid (HG.out.e1 _ (List.getElem_mem hlt')).1
          have hbs := HS.out k _ _ hxk hyk
          generalize xs[k] = x at hcx OX hbs
          generalize ys[k] = y at hcy OY hbs
          obtain ⟨xA, xn, xc, xb⟩ := x
          obtain ⟨yA, yn, yc, yb⟩ := y
          simp only [GE.v] at hcx hcy hbs OX OY
          obtain rfl := hbs
          have Q := Lib.hid (fun q => Calls.quiet_of ((sameEntries_any xA yA xn yn xc yc xb xb (wr.drewN q) (OX.out.drewN q) (OY.out.drewN q)).mono fun e w' (h9 : SameOut xb xb (wr.drewN q) e w') => show e = .returned (.bool true) ∧ ∃ m, w' = (wr.drewN q).drewN m from by obtain ⟨⟨b, h1, h2⟩, h3⟩ := h9; exact ⟨by rw [h1, h2.2 rfl], h3⟩))
          have hkx' : (k : Int) < (xs.length : Int) := by omega
          have hky' : (k : Int) < (ys.length : Int) := by omega
          clear hxk hyk OX OY
          go_upto_region 24 with fail
          go_quiet ((go_at_call 15; (with_reducible exact Q.out _)))
          clear c4 c5 hcx hcy
          go_wp2
          go_roundw
          case rel =>
            refine ⟨k + 1, by omega, by go_num, ?_⟩
            obtain ⟨m, hm⟩ := HM.out
            rw [hm]
            exact ⟨_, World.drewN_drewN _ _ _⟩
          case measure => simp [intOf]; omega
        · have hkx' : ¬ (k : Int) < (xs.length : Int) := by omega
          go_wp2
          go_ret
          exact ⟨rfl, HM.out⟩
end Go.Proofs.Ytgmmpbiideeikaa
