/-
  The walk of oplog.fits: an entry behind others whose greatest numbers a map holds.
-/
import Derived.Test.YtjjobgolpedgeaaTOpA
import Derived.Test.YtjjobgolpedgeaaTRefCmp
import Derived.Maps.OwnOps
import Derived.Maps.OwnSet
import Derived.Maps.Views
set_option linter.unusedVariables false
set_option linter.unusedSimpArgs false
namespace Go.Proofs.Ytjjobgolpedgeaa
open Go.RowKit Go.Maps

noncomputable abbrev RI : Value → Option (DataW Unit × List MemPlace) := plainElem Try.prog 3
/-- the map of the clients' last numbers -/
def Mi (w : World) (b n : Nat) (f : Int → Option Int) : Prop := ∃ D : DataW Unit, w.ownsMap Try.prog 3 RI b n D ∧ ∀ i : Int, (f i = none → Maps.has D (.int .i64 i) = false) ∧ (∀ c, f i = some c → Maps.has D (.int .i64 i) = true ∧ D.atKey (.int .i64 i) (.lit (.int .i64 0)) = .lit (.int .i64 c))
theorem Mi.kept {w w' : World} {b n : Nat} {f : Int → Option Int} (h : Mi w b n f) {row : Option Nat} (hg : w.grownBy w' row) (hne : some b ≠ row) : Mi w' b n f := by
  obtain ⟨D, h1, h2⟩ := h
  exact ⟨D, h1.kept hg hne, h2⟩
theorem Mi.below {w w' : World} {b n : Nat} {f : Int → Option Int} (h : Mi w b n f) (hb : Below w.heap.size w w') : Mi w' b n f := h.kept (grown_of_below hb none) (by simp)
theorem intKey : Keyed Try.prog 3 := int_keyed Try.underlying3
theorem Mi.made (w : World) : Mi (w.alloc (.map #[] 0)) w.heap.size 0 (fun _ => none) := ⟨_, World.ownsMap_made w Try.prog 3 RI, fun i => ⟨fun _ => rfl, fun c h => by cases h⟩⟩
theorem Mi.look {w : World} {b n : Nat} {f : Int → Option Int} (h : Mi w b n f) (i : Int) (hw : (Lit.int .i64 i).wf = true) :
    ∃ c t, (Instr.lookup 217 (.map (some b)) (.int .i64 i) true).run Try.prog w = .ok (.tuple #[.int .i64 c, .bool t]) w ∧ ((f i = some c ∧ t = true) ∨ (f i = none ∧ t = false)) := by
  obtain ⟨D, h1, h2⟩ := h
  obtain ⟨v, ps, hr, hv⟩ := h1.look_ok (e := 3) intKey Try.underlying217 (Try.zeroValue3 w) (plainElem_int Try.underlying3 (by decide)) (keyOf_int_mk Try.underlying3 hw)
  obtain ⟨c, rfl, hc, _⟩ := plainElem_int_inv Try.underlying3 hv
  have hc' := congrArg Prod.fst hc
  simp only at hc'
  cases hf : f i with
  | none => exact ⟨c, false, by rw [hr, (h2 i).1 hf], .inr ⟨rfl, rfl⟩⟩
  | some m =>
    obtain ⟨e1, e2⟩ := (h2 i).2 m hf
    rw [e2] at hc'
    cases hc'
    exact ⟨c, true, by rw [hr, e1], .inl ⟨rfl, rfl⟩⟩
/-- why an entry may not stand behind others -/
def fitF (f : Int → Option Int) (x : Et) : Int :=
  if x.c < 0 ∨ 16 ≤ x.c then 62 else if x.n < 1 then 63 else if opF x.kd x.sl x.v.size ≠ 0 then opF x.kd x.sl x.v.size else match f x.c with
    | some m => if x.n ≤ m then 64 else 0
    | none => 0
abbrev Et.agg (x : Et) : Value := .agg #[.int .i64 x.c, .int .i64 x.n, .int .i64 x.kd, .int .i64 x.sl, .string x.v]
set_option maxHeartbeats 8000000 in
set_option maxRecDepth 100000 in
theorem fits_any (b n : Nat) (f : Int → Option Int) (x : Et) (w : World) (h : Mi w b n f) :
    Calls Try.prog 150 #[.map (some b), x.agg] w fun e w' => e = .returned (.int .i64 (fitF f x)) ∧ Below w.heap.size w w' := by
  obtain ⟨xc, xn, xk, xs, xv⟩ := x
  by_cases h1 : xc < 0
  · rw [show fitF f ⟨xc, xn, xk, xs, xv⟩ = 62 by unfold fitF; rw [if_pos (.inl h1)]]
    clear h
    go_enter Try.func150, Try.ntmps150
    go_wp2
    go_ret
    exact ⟨rfl, by go_grown⟩
  by_cases h2 : 16 ≤ xc
  · rw [show fitF f ⟨xc, xn, xk, xs, xv⟩ = 62 by unfold fitF; rw [if_pos (.inr h2)]]
    clear h
    go_enter Try.func150, Try.ntmps150
    go_wp2
    go_ret
    exact ⟨rfl, by go_grown⟩
  by_cases h3 : xn < 1
  · rw [show fitF f ⟨xc, xn, xk, xs, xv⟩ = 63 by unfold fitF; rw [if_neg (show ¬ (xc < 0 ∨ 16 ≤ xc) by omega), if_pos h3]]
    clear h
    go_enter Try.func150, Try.ntmps150
    go_wp2
    go_ret
    exact ⟨rfl, by go_grown⟩
  have hw : (Lit.int .i64 xc).wf = true := by
    have h9 := wrap64_wf xc
    rwa [show wrap64 xc = xc by unfold wrap64; omega] at h9
  have HM := Lib.hid h
  have HW := Lib.hid hw
  obtain ⟨R, hR⟩ : ∃ R, fitF f ⟨xc, xn, xk, xs, xv⟩ = R := ⟨_, rfl⟩
  have HR : Hid ((if opF xk xs xv.size ≠ 0 then opF xk xs xv.size else match f xc with
    | some m => if xn ≤ m then 64 else 0
    | none => 0) = R) := by rw [← hR]; unfold fitF; rw [if_neg (show ¬ (xc < 0 ∨ 16 ≤ xc) by omega), if_neg h3]; exact rfl
  rw [hR]
  clear hR h hw
  go_enter Try.func150, Try.ntmps150
  go_wp2_with fail
  refine (opCheck_any xk xs xv _).mono ?_
  rintro e w2 ⟨rfl, hb2⟩
  have OX := Lib.hid ((Ob.fresh w #[.int .i64 xc, .int .i64 xn, .int .i64 xk, .int .i64 xs, .string xv] 156).below hb2)
  have B2 : Hid (Below w.heap.size w w2) := (below_al _ _).trans (hb2.mono (by simp))
  have M2 := Lib.hid (HM.out.below B2.out)
  clear hb2
  generalize w.heap.size = r at OX ⊢
  obtain ⟨o, ho⟩ : ∃ o, opF xk xs xv.size = o := ⟨_, rfl⟩
  rw [ho] at HR ⊢
  clear ho
  by_cases h0 : o = 0
  case neg =>
    have HE : Hid (R = o) := by rw [← HR.out, if_pos h0]; exact rfl
    have b0 : (o == 0) = false := beq_eq_false_iff_ne.2 h0
    go_wp2_with fail
    go_ret
    exact ⟨by rw [HE.out]; exact rfl, B2.out⟩
  subst h0
  obtain ⟨c, t, hl, hf⟩ := M2.out.look xc HW.out
  have z0 := OX.out.cell 0 rfl
  have z1 := OX.out.cell 1 rfl
  have HF := Lib.hid hf
  clear hf
  rcases HF.out with ⟨hf, rfl⟩ | ⟨hf, rfl⟩
  · have HE : Hid (R = if xn ≤ c then 64 else 0) := by rw [← HR.out, if_neg (by simp), hf]; exact rfl
    clear hf
    by_cases hle : xn ≤ c
    · rw [if_pos hle] at HE
      go_wp2_with fail
      go_ret
      exact ⟨by rw [HE.out]; exact rfl, B2.out⟩
    · rw [if_neg hle] at HE
      go_wp2_with fail
      go_ret
      exact ⟨by rw [HE.out]; exact rfl, B2.out⟩
  · have HE : Hid (R = 0) := by rw [← HR.out, if_neg (by simp), hf]; exact rfl
    clear hf
    go_wp2_with fail
    go_ret
    exact ⟨by rw [HE.out]; exact rfl, B2.out⟩
end Go.Proofs.Ytjjobgolpedgeaa
