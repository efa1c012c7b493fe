/-
  The walk of Given.Intact: only lists of bytes were handed in, and they read as before.
-/
import Derived.Test.YtkdikbenheagmaaDoorGiven
set_option linter.unusedVariables false
set_option linter.unusedSimpArgs false
namespace Go.Proofs.YtkdikbenheagmaaDoor
open Go.RowKit

theorem Gv.start (w : World) (t : TypeId) : Gv (w.alloc (.cells #[.slice none 0 0, .slice none 0 0, .slice none 0 0, .slice none 0 0, .slice none 0 0, .slice none 0 0, .slice none 0 0, .slice none 0 0, .slice none 0 0, .slice none 0 0] t)) w.heap.size none 0 none 0 [] [] := by
  refine ⟨by simp, by simp, by simp, by simp, ?_, World.ownsRow_nil _ _ _ _, World.ownsRow_nil _ _ _ _, (fun b e _ => by cases e), fun x hx => by simp at hx, fun x hx => by simp at hx⟩
  intro j h2 h10
  obtain rfl | rfl | rfl | rfl | rfl | rfl | rfl | rfl : j = 2 ∨ j = 3 ∨ j = 4 ∨ j = 5 ∨ j = 6 ∨ j = 7 ∨ j = 8 ∨ j = 9 := by omega
  all_goals simp
theorem Gv.cell0 {w : World} {p : Nat} {G : Option Addr} {c : Nat} {G' : Option Addr} {c' : Nat} {xs ys : List GR} (h : Gv w p G c G' c' xs ys) {k : Nat} {x : GR} (hk : xs[k]? = some x) : ∃ g, G = some ⟨g, 0, none⟩ ∧ w.cell? ⟨g, k, none⟩ = some x.v ∧ k < c ∧ k < xs.length := by
  have hlt := (List.getElem?_eq_some_iff.1 hk).1
  obtain ⟨A', c1, hv, hle, hn, hat⟩ := own_shape h.o0
  cases hv
  cases hG : G with
  | none => have := (hn hG).1; omega
  | some ad =>
    obtain ⟨h1, h2, _⟩ := hat ad hG
    obtain ⟨g, o, s⟩ := ad
    simp only at h1 h2
    subst h1 h2
    refine ⟨g, rfl, ?_, by omega, hlt⟩
    have ho := h.o0
    rw [hG] at ho
    rw [ho.cellAt k (by omega), List.getElem?_map, hk]; rfl
theorem Gv.cell1 {w : World} {p : Nat} {G : Option Addr} {c : Nat} {G' : Option Addr} {c' : Nat} {xs ys : List GR} (h : Gv w p G c G' c' xs ys) {k : Nat} {x : GR} (hk : ys[k]? = some x) : ∃ g, G' = some ⟨g, 0, none⟩ ∧ w.cell? ⟨g, k, none⟩ = some x.v ∧ k < c' ∧ k < ys.length := by
  have hlt := (List.getElem?_eq_some_iff.1 hk).1
  obtain ⟨A', c1, hv, hle, hn, hat⟩ := own_shape h.o1
  cases hv
  cases hG : G' with
  | none => have := (hn hG).1; omega
  | some ad =>
    obtain ⟨h1, h2, _⟩ := hat ad hG
    obtain ⟨g, o, s⟩ := ad
    simp only at h1 h2
    subst h1 h2
    refine ⟨g, rfl, ?_, by omega, hlt⟩
    have ho := h.o1
    rw [hG] at ho
    rw [ho.cellAt k (by omega), List.getElem?_map, hk]; rfl

set_option maxRecDepth 100000 in
set_option maxHeartbeats 4000000 in
theorem gintact_any (p : Nat) (G : Option Addr) (c : Nat) (G' : Option Addr) (c' : Nat) (xs ys : List GR) (w : World) (h : Gv w p G c G' c' xs ys) (hlen : xs.length = ys.length) (hk : xs.length ≤ 1000)
    (hsame : ∀ (k : Nat) (x y : GR), xs[k]? = some x → ys[k]? = some y → x.bs = y.bs) :
    Calls Tryd.prog 24 #[.pointer (some ⟨p, 0, none⟩)] w fun e w' => e = .returned (.bool true) ∧ ∃ m, w' = w.drewN m := by
  have H := Lib.hid h
  have HS := Lib.hid hsame
  have c0 := h.c0
  have HLEN := Lib.hid hlen
  clear h hsame hlen
  go_enter Tryd.func24, Tryd.ntmps24
  go_wp2
  clear c0
  go_loopw [3] (fun i wr => ∃ k : Nat, k ≤ xs.length ∧ i = .int .i64 k ∧ Hid (∃ m, wr = w.drewN m)) (fun i _ => xs.length - (intOf i).toNat)
  case atStart => exact ⟨0, Nat.zero_le _, rfl, 0, rfl⟩
  case round =>
    obtain ⟨k, hkx, rfl, HM⟩ := hrel
    have HG : Hid (Gv wr p G c G' c' xs ys) := by
      obtain ⟨m, hm⟩ := HM.out
      show Gv _ _ _ _ _ _ _ _
      rw [hm]; exact H.out.drew m
    have c0 := HG.out.c0
    have c1 := HG.out.c1
    by_cases hlt : k < xs.length
    · have hlt' : k < ys.length := by rw [← HLEN.out]; exact hlt
      have hxk := List.getElem?_eq_getElem hlt
      have hyk := List.getElem?_eq_getElem hlt'
      obtain ⟨g, rfl, hcx, hkc, _⟩ := HG.out.cell0 hxk
      obtain ⟨g', rfl, hcy, hkc', _⟩ := HG.out.cell1 hyk
      have OX := Lib.hid (HG.out.e0 _ (List.getElem_mem hlt)).1
      have OY := Lib.hid (HG.out.e1 _ (List.getElem_mem hlt')).1
      have hbs := HS.out k _ _ hxk hyk
      generalize xs[k] = x at hcx OX hbs
      generalize ys[k] = y at hcy OY hbs
      obtain ⟨xA, xn, xc, xb⟩ := x
      obtain ⟨yA, yn, yc, yb⟩ := y
      simp only [GR.v] at hcx hcy hbs
      subst hbs
      have Q : Hid (∀ nq, Calls Tryd.prog 23 #[.slice xA xn xc, .slice yA yn yc] (wr.drewN nq) fun e w' => e = .returned (.bool true) ∧ w' = wr.drewN nq) := fun nq =>
        (sameBytes_any xA xn xc xb yA yn yc xb _ OX.out.drewN OY.out.drewN).mono fun e w' h => ⟨by rw [h.1, beq_self_eq_true], h.2.symm⟩
      have hkx' : (k : Int) < (xs.length : Int) := by omega
      have hky' : (k : Int) < (ys.length : Int) := by omega
      clear hxk hyk
      go_wp2
      go_quiet ((go_at_call 23; (with_reducible exact Calls.quiet_of_same (Q.out _))))
      go_wp2
      go_roundw
      case rel =>
        refine ⟨k + 1, by omega, by go_num, ?_⟩
        obtain ⟨m, hm⟩ := HM.out
        rw [hm]
        exact ⟨_, World.drewN_drewN _ _ _⟩
      case measure => simp [intOf]; omega
    · have c2 := HG.out.rest 2 (by omega) (by omega)
      have c4 := HG.out.rest 4 (by omega) (by omega)
      have c6 := HG.out.rest 6 (by omega) (by omega)
      have c8 := HG.out.rest 8 (by omega) (by omega)
      go_wp2
      refine wp_loop_rounds 1 ?_
      rw [rounds_succ]
      go_wp2
      refine wp_loop_rounds 1 ?_
      rw [rounds_succ]
      go_wp2
      refine wp_loop_rounds 1 ?_
      rw [rounds_succ]
      go_wp2
      refine wp_loop_rounds 1 ?_
      rw [rounds_succ]
      go_wp2
      go_ret
      exact ⟨rfl, HM.out⟩
end Go.Proofs.YtkdikbenheagmaaDoor
