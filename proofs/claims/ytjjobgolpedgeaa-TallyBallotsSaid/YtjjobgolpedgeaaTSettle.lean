/-
  The walk of tally.Settle.
-/
import Derived.Test.YtjjobgolpedgeaaTPutX
set_option linter.unusedVariables false
set_option linter.unusedSimpArgs false
namespace Go.Proofs.Ytjjobgolpedgeaa
open Go.RowKit

theorem tmod_in (k m : Int) (hm : 0 < m) : -m < k.tmod m ∧ k.tmod m < m := by
  rcases Int.le_total 0 k with h | h
  · rw [Int.tmod_eq_emod_of_nonneg h]
    have := Int.emod_nonneg k (show m ≠ 0 by omega); have := Int.emod_lt_of_pos k hm; omega
  · have e : k.tmod m = -((-k).tmod m) := by rw [Int.neg_tmod, Int.neg_neg]
    rw [e, Int.tmod_eq_emod_of_nonneg (by omega)]
    have := Int.emod_nonneg (-k) (show m ≠ 0 by omega); have := Int.emod_lt_of_pos (-k) hm; omega
theorem max_if (a b : Int) : (if a < b then b else a) = max a b := by omega
theorem find_at {α : Type} {p : α → Bool} {L : List α} {j : Nat} {x : α} (hx : L[j]? = some x) (hp : p x = true) (h : ∀ i y, i < j → L[i]? = some y → p y = false) : L.find? p = some x := by
  obtain ⟨hj, e⟩ := List.getElem?_eq_some_iff.1 hx
  rw [List.find?_eq_some_iff_getElem]
  exact ⟨hp, j, hj, e, fun i hi => by simpa using h i _ hi (List.getElem?_eq_getElem (by omega))⟩
/-- the greatest view of a list that begins so -/
def mxV (a : Int) (L : List Bt) : Int := L.foldl (fun m x => max m x.v) a
theorem mxV_push (a : Int) (L : List Bt) (x : Bt) : mxV a (L ++ [x]) = max (mxV a L) x.v := by simp [mxV]
def prim (f v : Int) : Int := v.tmod (2 * f + 1) % (2 * f + 1)
def setOk (f vw : Int) (x : Bt) : Bool := x.v == vw && x.n == prim f vw
def settleF (f : Int) (L : List Bt) : Option Bt := if f < 1 ∨ 3 < f ∨ (L.length : Int) < f + 1 then none else L.find? (setOk f (mxV (L.headD default).v L))
def Bt.zero : Bt := ⟨0, 0, 0, 0, 0, none, 0, 0⟩
/-- what Settle and Choose answer -/
def OneB (lg : Bt → List Et) (W : World) (r : Option Bt) (e : Ending) (w' : World) : Prop :=
  Below W.heap.size W w' ∧ ((r = none ∧ e = .returned (.tuple #[Bt.zero.agg, .int .i64 81])) ∨ ∃ x A k, r = some x ∧ e = .returned (.tuple #[({ x with A := A, k := k } : Bt).agg, .int .i64 0]) ∧ w'.ownsRow W.heap.size 156 5 (.slice A x.m k) x.m (CL Et.cells (lg x)))
set_option maxHeartbeats 1600000 in
set_option maxRecDepth 100000 in
theorem settle_any (f : Int) (A : Option Addr) (n c : Nat) (L : List Bt) (lg : Bt → List Et) (w : World) (wf : (Lit.int .i64 f).wf = true) (h : RdC 6 Bt.cells w A n L) (hlg : ∀ r, r ∈ L → LgOk lg w r) (hsm : n * 64 ≤ 140737488355328) :
    Calls Try.prog 24 #[.int .i64 f, .slice A n c] w (OneB lg w (settleF f L)) := by
  have H := Lib.hid h
  have HSM := Lib.hid hsm
  have HLG := Lib.hid hlg
  have HL := Lib.hid h.len
  have bf := bounds_i64 wf
  clear h hsm hlg
  by_cases hbad : f < 1 ∨ 3 < f ∨ (n : Int) < f + 1
  · have hs : settleF f L = none := by unfold settleF; rw [if_pos (by rw [HL.out]; exact hbad)]
    rw [hs]
    clear hs
    rcases hbad with h1 | h1 | h1
    · go_enter Try.func24, Try.ntmps24
      go_wp2
      go_returns
      exact ⟨by go_grown, .inl ⟨rfl, rfl⟩⟩
    · have h2 : ¬ f < 1 := by omega
      go_enter Try.func24, Try.ntmps24
      go_wp2
      go_returns
      exact ⟨by go_grown, .inl ⟨rfl, rfl⟩⟩
    · by_cases h2 : f < 1
      · go_enter Try.func24, Try.ntmps24
        go_wp2
        go_returns
        exact ⟨by go_grown, .inl ⟨rfl, rfl⟩⟩
      · by_cases h3 : 3 < f
        · go_enter Try.func24, Try.ntmps24
          go_wp2
          go_returns
          exact ⟨by go_grown, .inl ⟨rfl, rfl⟩⟩
        · go_enter Try.func24, Try.ntmps24
          go_wp2
          go_returns
          exact ⟨by go_grown, .inl ⟨rfl, rfl⟩⟩
  · have hs : settleF f L = L.find? (setOk f (mxV (L.headD default).v L)) := by unfold settleF; rw [if_neg (by rw [HL.out]; exact hbad)]
    have HS := Lib.hid hs
    clear hs
    obtain ⟨h1, h2, h3⟩ : 1 ≤ f ∧ f ≤ 3 ∧ f + 1 ≤ (n : Int) := by omega
    obtain ⟨x0, hx0⟩ : ∃ x, L[0]? = some x := ⟨_, List.getElem?_eq_getElem (by have := HL.out; omega)⟩
    have HH : Hid ((L.headD default).v = x0.v) := by cases L with | nil => simp at hx0 | cons y t => simp at hx0; subst hx0; rfl
    obtain ⟨ad, rfl, g0, g1, g2, g3, g4, g5⟩ := H.out.atBt hx0
    simp only [Nat.zero_mul, Addr.add_zero'] at g0 g1 g2 g3 g4 g5
    have HX0 := Lib.hid hx0
    have lad : ad.block < w.heap.size := World.block_lt_of_cell? _ _ g0
    clear hbad hx0
    go_enter Try.func24, Try.ntmps24
    go_wp2_with fail
    have OB := Lib.hid (Ob.fresh w #[.int .i64 0, .int .u64 0, .int .u64 0, .int .i64 0, .int .i64 0, .slice none 0 0] 38)
    have B1 : Hid (Below w.heap.size w (w.alloc (.cells #[.int .i64 0, .int .u64 0, .int .u64 0, .int .i64 0, .int .i64 0, .slice none 0 0] 38))) := (Below.refl _ _).alloc (Nat.le_refl _) _
    have Z1 : Hid (w.heap.size < (w.alloc (.cells #[.int .i64 0, .int .u64 0, .int .u64 0, .int .i64 0, .int .i64 0, .slice none 0 0] 38)).heap.size) := by simp only [Hid, World.size_alloc]; omega
    obtain ⟨b, hb⟩ : ∃ b, w.heap.size = b := ⟨_, rfl⟩
    rw [hb] at OB Z1 ⊢
    have HB := Lib.hid hb
    generalize w.alloc (.cells #[.int .i64 0, .int .u64 0, .int .u64 0, .int .i64 0, .int .i64 0, .slice none 0 0] 38) = w1 at OB B1 Z1 ⊢
    clear hb lad g0 g1 g2 g3 g4 g5
    go_loopw [6, 32] (fun vv iv wr => ∃ (k : Nat), k ≤ n ∧ iv = .int .i64 k ∧ vv = .int .i64 (mxV x0.v (L.take k)) ∧ Hid (Below w1.heap.size w1 wr)) (fun _ iv _ => n - (intOf iv).toNat)
    case atStart => exact ⟨0, by omega, rfl, rfl, Below.refl _ _⟩
    case round =>
      obtain ⟨k, hk, rfl, rfl, HR⟩ := hrel
      by_cases hkn : k < n
      · obtain ⟨x, hx⟩ : ∃ x, L[k]? = some x := ⟨_, List.getElem?_eq_getElem (by have := HL.out; omega)⟩
        obtain ⟨ad', e, g0, g1, g2, g3, g4, g5⟩ := (H.out.below (B1.out.trans (HR.out.mono B1.out.size))).atBt hx
        cases e
        have hki : (k : Int) < (n : Int) := by omega
        have hk2 : (k : Int) + 1 ≤ 6000000000000 := by have := HSM.out; omega
        have HXX := Lib.hid hx
        have HKN := Lib.hid hkn
        have HMX : Hid (mxV x0.v (L.take (k + 1)) = max (mxV x0.v (L.take k)) x.v) := by rw [take_next hx]; exact mxV_push _ _ _
        clear hx hkn hk
        go_wp2_with fail
        go_roundw
        case rel => exact ⟨k + 1, HKN.out, by go_num, by rw [HMX.out, ← max_if], HR.out.alloc HR.out.size _⟩
        case measure => have := HKN.out; simp [intOf]; omega
      · obtain rfl : k = n := by omega
        have hki : ¬ (k : Int) < (k : Int) := by omega
        have HV : Hid (mxV x0.v (L.take k) = mxV (L.headD default).v L) := by rw [HH.out, List.take_of_length_le (Nat.le_of_eq HL.out)]; exact rfl
        rw [HV.out]
        obtain ⟨vw, hvw⟩ : ∃ x, mxV (L.headD default).v L = x := ⟨_, rfl⟩
        have HS2 : Hid (settleF f L = L.find? (setOk f vw)) := by rw [HS.out, hvw]; exact rfl
        rw [hvw]
        clear hvw HS HV HH HX0 hkn hk
        have e1 : IntKind.i64.wrap (2 * f) = 2 * f := by rw [IntKind.wrap_i64]; omega
        go_wp2_with fail
        go_loopw [46] (fun iv wr2 => ∃ (j : Nat), j ≤ k ∧ iv = .int .i64 j ∧ Hid (Below w1.heap.size w1 wr2) ∧ Hid (∀ i x, i < j → L[i]? = some x → setOk f vw x = false)) (fun iv _ => k - (intOf iv).toNat)
        case atStart => exact ⟨0, by omega, rfl, HR.out, fun i x hi => by omega⟩
        case round =>
          obtain ⟨j, hj, rfl, HR2, HP⟩ := hrel
          clear HR
          by_cases hjk : j < k
          · obtain ⟨x, hx⟩ : ∃ x, L[j]? = some x := ⟨_, List.getElem?_eq_getElem (by have := HL.out; omega)⟩
            obtain ⟨ad', e, g0, g1, g2, g3, g4, g5⟩ := (H.out.below (B1.out.trans (HR2.out.mono B1.out.size))).atBt hx
            cases e
            have hji : (j : Int) < (k : Int) := by omega
            have hj2 : (j : Int) + 1 ≤ 6000000000000 := by have := HSM.out; omega
            have HXX := Lib.hid hx
            have HJK := Lib.hid hjk
            clear hx hjk hj
            go_wp2_with fail
            have OX := Lib.hid (Ob.fresh wr #[.int .i64 x.n, .int .u64 (x.h : Nat), .int .u64 (x.l : Nat), .int .i64 x.v, .int .i64 x.c, .slice x.A x.m x.k] 38)
            have BX : Hid (Below w1.heap.size w1 (wr.alloc (.cells #[.int .i64 x.n, .int .u64 (x.h : Nat), .int .u64 (x.l : Nat), .int .i64 x.v, .int .i64 x.c, .slice x.A x.m x.k] 38))) := HR2.out.alloc HR2.out.size _
            have HRB : Hid (w1.heap.size ≤ wr.heap.size) := HR2.out.size
            generalize wr.alloc (.cells #[.int .i64 x.n, .int .u64 (x.h : Nat), .int .u64 (x.l : Nat), .int .i64 x.v, .int .i64 x.c, .slice x.A x.m x.k] 38) = w3 at OX BX ⊢
            generalize wr.heap.size = r at OX HRB ⊢
            clear g0 g1 g2 g3 g4 g5 HR2
            obtain ⟨p0, p1, p2, p3, p4, p5⟩ := OX.out.all6
            obtain ⟨bb, hbb⟩ : ∃ bb, (x.v == vw) = bb := ⟨_, rfl⟩
            have hne : (2 * f + 1 == 0) = false := beq_eq_false_iff_ne.2 (by omega)
            have ht := tmod_in vw (2 * f + 1) (by omega)
            have e2 : IntKind.i64.wrap (vw.tmod (2 * f + 1) + (2 * f + 1)) = vw.tmod (2 * f + 1) + (2 * f + 1) := by rw [IntKind.wrap_i64]; omega
            cases bb with
            | false =>
              have HBB := Lib.hid hbb
              go_quiet (fail)
              go_wp2_with fail
              go_roundw
              case rel => exact ⟨j + 1, HJK.out, by go_num, Below.drewN BX.out _, fun i y hi hy => by
                by_cases e : i = j
                · subst e; rw [HXX.out] at hy; cases hy; simp only [setOk, HBB.out, Bool.false_and]
                · exact HP.out i y (by omega) hy⟩
              case measure => have := HJK.out; simp [intOf]; omega
            | true =>
              have HBB := Lib.hid hbb
              go_quiet (fail)
              have HY : Hid (Below w1.heap.size w1 (w3.drewN nq)) := Below.drewN BX.out _
              have OY := Lib.hid (OX.out.drewN nq)
              generalize w3.drewN nq = w4 at HY OY ⊢
              clear p0 p1 p2 p3 p4 p5 BX OX
              obtain ⟨cc, hcc⟩ : ∃ cc, (x.n == vw.tmod (2 * f + 1) % (2 * f + 1)) = cc := ⟨_, rfl⟩
              rw [hcc]
              cases cc with
              | false =>
                have HCC := Lib.hid hcc
                clear hcc
                go_wp2_with fail
                go_roundw
                case rel => exact ⟨j + 1, HJK.out, by go_num, HY.out, fun i y hi hy => by
                  by_cases e : i = j
                  · subst e; rw [HXX.out] at hy; cases hy; simp only [setOk, prim, HCC.out, Bool.and_false]
                  · exact HP.out i y (by omega) hy⟩
                case measure => have := HJK.out; simp [intOf]; omega
              | true =>
                have HCC : Hid (setOk f vw x = true) := by simp only [Hid, setOk, prim, hcc, HBB.out, Bool.and_true]
                clear hcc
                obtain ⟨p0, p1, p2, p3, p4, p5⟩ := OY.out.all6
                go_wp2_with fail
                have HFD : Hid (settleF f L = some x) := by rw [HS2.out]; exact find_at HXX.out HCC.out HP.out
                have HL0 := HLG.out x (List.mem_of_getElem? HXX.out)
                have B4 : Hid (Below w.heap.size w w4) := B1.out.trans (HY.out.mono B1.out.size)
                refine (freshAnswer_any x (lg x) _ (HL0.1.below B4.out) HL0.2.1 HL0.2.2).mono ?_
                rintro e x5 ⟨fA, fk, rfl, hb5, hof⟩
                have B5 : Hid (Below w.heap.size w x5) := B4.out.trans (hb5.mono B4.out.size)
                have OB5 := Lib.hid ((OB.out.below HY.out).below hb5)
                have HOF := Lib.hid hof
                have Z5 : Hid (b < w4.heap.size) := Nat.lt_of_lt_of_le Z1.out HY.out.size
                clear HL0 hb5 hof p0 p1 p2 p3 p4 p5
                obtain ⟨p0, p1, p2, p3, p4, p5⟩ := OB5.out.all6
                obtain ⟨f0, f1, f2, f3, f4, f5⟩ := OB5.out.fro6
                go_wp2_with fail
                have R0 := ((((((OB5.out.set 0 (by simp) (.int .i64 x.n)).set 1 (by simp) (.int .u64 (x.h : Nat))).set 2 (by simp) (.int .u64 (x.l : Nat))).set 3 (by simp) (.int .i64 x.v)).set 4 (by simp) (.int .i64 x.c)).set 5 (by simp) (.slice fA x.m fk))
                (try simp only [Exit.inBlock, Exit.then])
                refine ret_cells Try.results24 (b := b) Try.underlying38 (by kernel_rfl) rfl rfl R0 rfl ?_
                refine ⟨?_, .inr ⟨x, fA, fk, HFD.out, rfl, ?_⟩⟩
                · rw [HB.out] at B5 ⊢
                  exact ((((((B5.out.setCell (by simp) _).setCell (by simp) _).setCell (by simp) _).setCell (by simp) _).setCell (by simp) _).setCell (by simp) _)
                · have hlt := Z5.out
                  refine own_mono (B' := w4.heap.size) ?_ (by rw [HB.out]; omega)
                  exact (((((ownsRow_setCell_below HOF.out (by simp only; omega) _ |> (ownsRow_setCell_below · (by simp only; omega) _)) |> (ownsRow_setCell_below · (by simp only; omega) _)) |> (ownsRow_setCell_below · (by simp only; omega) _)) |> (ownsRow_setCell_below · (by simp only; omega) _)) |> (ownsRow_setCell_below · (by simp only; omega) _))
          · obtain rfl : j = k := by omega
            have hji : ¬ (j : Int) < (j : Int) := by omega
            have HFD : Hid (settleF f L = none) := by
              rw [HS2.out]
              exact List.find?_eq_none.2 fun x hx => by
                obtain ⟨i, hi⟩ := List.getElem?_of_mem hx
                have := HP.out i x (by have := (List.getElem?_eq_some_iff.1 hi).1; have := HL.out; omega) hi
                simp [this]
            have OBR := Lib.hid (OB.out.below HR2.out)
            obtain ⟨p0, p1, p2, p3, p4, p5⟩ := OBR.out.all6
            obtain ⟨f0, f1, f2, f3, f4, f5⟩ := OBR.out.fro6
            clear e1
            go_wp2_with fail
            have R0 := ((((((OBR.out.set 0 (by simp) (.int .i64 0)).set 1 (by simp) (.int .u64 0)).set 2 (by simp) (.int .u64 0)).set 3 (by simp) (.int .i64 0)).set 4 (by simp) (.int .i64 0)).set 5 (by simp) (.slice none 0 0))
            (try simp only [Exit.inBlock, Exit.then])
            refine ret_cells Try.results24 (b := b) Try.underlying38 (by kernel_rfl) rfl rfl R0 rfl ?_
            refine ⟨?_, .inl ⟨HFD.out, rfl⟩⟩
            have B5 : Hid (Below w.heap.size w wr) := B1.out.trans (HR2.out.mono B1.out.size)
            rw [HB.out] at B5 ⊢
            exact ((((((B5.out.setCell (by simp) _).setCell (by simp) _).setCell (by simp) _).setCell (by simp) _).setCell (by simp) _).setCell (by simp) _)
end Go.Proofs.Ytjjobgolpedgeaa
