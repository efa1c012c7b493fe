/-
  The walks of the document's Compare, takes, over, config, voter.
-/
import Derived.Test.YtjjobgolpedgeaaTPruneP
import Derived.Test.YtjjobgolpedgeaaTSmall
set_option linter.unusedVariables false
set_option linter.unusedSimpArgs false
namespace Go.Proofs.Ytjjobgolpedgeaa
open Go.RowKit

theorem below_al (w : World) (o : Obj) : Below w.heap.size w (w.alloc o) := (Below.refl _ _).alloc (Nat.le_refl _) _

/-- does a new vote take an old one's place? -/
def takesF (a b c d : Nat) (g : Bool) : Bool := decide (0 < dCmp a b c d) || (decide (dCmp a b c d = 0) && g)
set_option maxHeartbeats 1600000 in
theorem takes_any (a b c d : Nat) (g : Bool) (w : World) : Calls Try.prog 102 #[.agg #[.int .u64 (a : Nat), .int .u64 (b : Nat)], .agg #[.int .u64 (c : Nat), .int .u64 (d : Nat)], .bool g] w fun e w' => e = .returned (.bool (takesF a b c d g)) ∧ Below w.heap.size w w' := by
  have F := Lib.hid (refCompare_any a b c d)
  obtain ⟨k, hk⟩ : ∃ k, dCmp a b c d = k := ⟨_, rfl⟩
  have HK := Lib.hid hk
  clear hk
  by_cases h1 : 0 < k
  · rw [show takesF a b c d g = true by unfold takesF; rw [HK.out, decide_eq_true h1]; rfl]
    go_enter Try.func102, Try.ntmps102
    go_wp2_with fail
    refine (F.out _).mono ?_
    rintro e w2 ⟨rfl, hb⟩
    have BW : Hid (Below w.heap.size w w2) := ((below_al w _).alloc (by simp) _).trans (hb.mono (by simp; omega))
    clear hb F
    rw [HK.out]
    go_wp2_with fail
    go_ret
    exact ⟨rfl, BW.out⟩
  by_cases h2 : k = 0
  · subst h2
    rw [show takesF a b c d g = g by unfold takesF; rw [HK.out]; simp]
    go_enter Try.func102, Try.ntmps102
    go_wp2_with fail
    refine (F.out _).mono ?_
    rintro e w2 ⟨rfl, hb⟩
    have BW : Hid (Below w.heap.size w w2) := ((below_al w _).alloc (by simp) _).trans (hb.mono (by simp; omega))
    clear hb F
    rw [HK.out]
    go_wp2_with fail
    go_ret
    exact ⟨rfl, BW.out⟩
  · rw [show takesF a b c d g = false by unfold takesF; rw [HK.out, decide_eq_false h1, decide_eq_false h2]; rfl]
    have hq : (k == 0) = false := beq_eq_false_iff_ne.2 h2
    have d1 : decide (0 < k) = false := decide_eq_false h1
    go_enter Try.func102, Try.ntmps102
    go_wp2_with fail
    refine (F.out _).mono ?_
    rintro e w2 ⟨rfl, hb⟩
    have BW : Hid (Below w.heap.size w w2) := ((below_al w _).alloc (by simp) _).trans (hb.mono (by simp; omega))
    clear hb F
    rw [HK.out]
    go_wp2_with fail
    go_ret
    exact ⟨rfl, BW.out⟩

/-- a configuration as it lies in memory -/
structure Cg where
  f : Int
  r : Int
  p : Int
  u : Bool
abbrev Cg.agg (x : Cg) : Value := .agg #[.int .i64 x.f, .int .i64 x.r, .int .i64 x.p, .bool x.u]
/-- is a configuration bad? -/
def Cg.bad (x : Cg) : Prop := x.f < 1 ∨ 3 < x.f ∨ x.r < 1 ∨ 256 < x.r
instance (x : Cg) : Decidable x.bad := by unfold Cg.bad; exact inferInstance
set_option maxHeartbeats 1600000 in
theorem config_any (x : Cg) (w : World) : Calls Try.prog 99 #[x.agg] w fun e w' => e = .returned (.int .i64 (if x.bad then 1 else 0)) ∧ Below w.heap.size w w' := by
  obtain ⟨f, r, p, u⟩ := x
  by_cases h1 : f < 1
  · rw [if_pos (show Cg.bad ⟨f, r, p, u⟩ from .inl h1)]
    go_enter Try.func99, Try.ntmps99
    go_wp2
    go_ret
    exact ⟨rfl, by go_grown⟩
  by_cases h2 : 3 < f
  · rw [if_pos (show Cg.bad ⟨f, r, p, u⟩ from .inr (.inl h2))]
    go_enter Try.func99, Try.ntmps99
    go_wp2
    go_ret
    exact ⟨rfl, by go_grown⟩
  by_cases h3 : r < 1
  · rw [if_pos (show Cg.bad ⟨f, r, p, u⟩ from .inr (.inr (.inl h3)))]
    go_enter Try.func99, Try.ntmps99
    go_wp2
    go_ret
    exact ⟨rfl, by go_grown⟩
  by_cases h4 : 256 < r
  · rw [if_pos (show Cg.bad ⟨f, r, p, u⟩ from .inr (.inr (.inr h4)))]
    go_enter Try.func99, Try.ntmps99
    go_wp2
    go_ret
    exact ⟨rfl, by go_grown⟩
  · rw [if_neg (show ¬ Cg.bad ⟨f, r, p, u⟩ from fun h => by unfold Cg.bad at h; simp only at h; omega)]
    go_enter Try.func99, Try.ntmps99
    go_wp2
    go_ret
    exact ⟨rfl, by go_grown⟩
/-- may a node stand behind the one ahead? -/
def voterF (f self ahead node : Int) : Bool := decide (ahead < node) && (decide (0 ≤ node) && (decide (node < 2 * f + 1) && !(node == self)))
set_option maxHeartbeats 1600000 in
theorem voter_any (x : Cg) (self ahead node : Int) (w : World) (hf : 1 ≤ x.f ∧ x.f ≤ 3) : Calls Try.prog 100 #[x.agg, .int .i64 self, .int .i64 ahead, .int .i64 node] w fun e w' => e = .returned (.bool (voterF x.f self ahead node)) ∧ Below w.heap.size w w' := by
  obtain ⟨f, r, p, u⟩ := x
  obtain ⟨f1, f3⟩ := hf
  simp only at f1 f3 ⊢
  unfold voterF
  by_cases h1 : ahead < node
  case neg =>
    rw [decide_eq_false h1, Bool.false_and]
    go_enter Try.func100, Try.ntmps100
    go_wp2
    go_ret
    exact ⟨rfl, by go_grown⟩
  rw [decide_eq_true h1, Bool.true_and]
  by_cases h2 : 0 ≤ node
  case neg =>
    rw [decide_eq_false h2, Bool.false_and]
    go_enter Try.func100, Try.ntmps100
    go_wp2
    go_ret
    exact ⟨rfl, by go_grown⟩
  rw [decide_eq_true h2, Bool.true_and]
  by_cases h3 : node < 2 * f + 1
  case neg =>
    rw [decide_eq_false h3, Bool.false_and]
    go_enter Try.func100, Try.ntmps100
    go_wp2
    go_ret
    exact ⟨rfl, by go_grown⟩
  rw [decide_eq_true h3, Bool.true_and]
  by_cases h4 : node = self
  · subst h4
    rw [show (!(node == node)) = false by simp]
    go_enter Try.func100, Try.ntmps100
    go_wp2
    go_ret
    exact ⟨rfl, by go_grown⟩
  · have hb : (node == self) = false := beq_eq_false_iff_ne.2 h4
    rw [hb]
    have hb2 : (node != self) = true := by simpa using h4
    clear h4
    go_enter Try.func100, Try.ntmps100
    go_wp2
    go_ret
    exact ⟨rfl, by go_grown⟩
end Go.Proofs.Ytjjobgolpedgeaa
