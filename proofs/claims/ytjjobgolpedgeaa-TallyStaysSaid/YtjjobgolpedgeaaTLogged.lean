/-
  What a vote with a log may be: the walks of tally.logged and of the closures of CheckBallots and CheckAnswers.
-/
import Derived.Test.YtjjobgolpedgeaaTOplog
import Derived.Test.YtjjobgolpedgeaaTCheckAck
import Derived.Test.YtjjobgolpedgeaaTLog
set_option linter.unusedVariables false
set_option linter.unusedSimpArgs false
namespace Go.Proofs.Ytjjobgolpedgeaa
open Go.RowKit

def lgdF (r : Int) (L : List Et) (c : Int) : Bool := decide (chkL L r = 0) && (decide (0 ≤ c) && decide (c ≤ (L.length : Int)))
def Lt.may (r : Int) (x : Lt) : Bool := decide (0 ≤ x.v) && (decide (x.v ≤ 4294967296) && lgdF r x.log x.c)
def Lt.mayA (f r : Int) (x : Lt) : Bool := Lt.may r x && (decide (x.log.length = 0) || decide (x.n = x.v.tmod (2 * f + 1)))
theorem nodeBallot_l (x : Lt) (B : Option Addr) (k : Nat) (w : World) : Calls Try.prog 185 #[x.agg B k] w fun e w' => e = .returned (.int .i64 x.n) ∧ Below w.heap.size w w' := nodeBallot_any (x.raw B k) w
theorem nodeAnswer_l (x : Lt) (B : Option Addr) (k : Nat) (w : World) : Calls Try.prog 177 #[x.agg B k] w fun e w' => e = .returned (.int .i64 x.n) ∧ Below w.heap.size w w' := nodeAnswer_any (x.raw B k) w
theorem oplogCheck_l (A : Option Addr) (k : Nat) (L : List Et) (room : Int) (w : World) (h : OkL w A k L) (hw : ∀ y ∈ L, (Lit.int .i64 y.n).wf = true) :
    Calls Try.prog 147 #[.slice A L.length k, .int .i64 room] w fun e w' => (∃ p, e = .returned (.tuple #[.int .i64 (chkL L room), .int .i64 p])) ∧ Below w.heap.size w w' := by
  have e : (L.pmap (fun x hx => (⟨x, hx⟩ : EtW)) hw).map (·.1) = L := by rw [List.map_pmap]; simp
  have := oplogCheck_any A L.length k (L.pmap (fun x hx => (⟨x, hx⟩ : EtW)) hw) room w (by rw [e]; exact h.rd) h.non h.small
  rw [e] at this
  exact this
set_option maxHeartbeats 4000000 in
theorem logged_any (cf cr cpp : Int) (cu : Bool) (A : Option Addr) (k : Nat) (L : List Et) (cm : Int) (w : World) (h : OkL w A k L) (hw : ∀ y ∈ L, (Lit.int .i64 y.n).wf = true) :
    Calls Try.prog 126 #[.agg #[.int .i64 cf, .int .i64 cr, .int .i64 cpp, .bool cu], .slice A L.length k, .int .i64 cm] w fun e w' => e = .returned (.bool (lgdF cr L cm)) ∧ Below w.heap.size w w' := by
  have H := Lib.hid h
  have HW := Lib.hid hw
  obtain ⟨z, hz⟩ : ∃ z, chkL L cr = z := ⟨_, rfl⟩
  obtain ⟨R, hR⟩ : ∃ R, lgdF cr L cm = R := ⟨_, rfl⟩
  have HZ : Hid (R = (decide (z = 0) && (decide (0 ≤ cm) && decide (cm ≤ (L.length : Int))))) := by rw [← hR]; unfold lgdF; rw [hz]; exact rfl
  rw [hR]
  have F := Lib.hid (fun y (hy : Below w.heap.size w y) => (oplogCheck_l A k L cr y (h.below hy) hw).mono (fun e w' (q : (∃ p, e = .returned (.tuple #[.int .i64 (chkL L cr), .int .i64 p])) ∧ Below y.heap.size y w') => show (∃ p, e = .returned (.tuple #[.int .i64 z, .int .i64 p])) ∧ Below y.heap.size y w' from hz ▸ q))
  have hn : (L.length : Int) ≤ 6000000000000 := by have := h.small; omega
  obtain ⟨n, hln⟩ : ∃ n, L.length = n := ⟨_, rfl⟩
  rw [hln] at F hn ⊢
  rw [hln] at HZ
  clear h hw hz H hln hR
  go_enter Try.func126, Try.ntmps126
  go_wp2_with fail
  refine (F.out _ (below_al _ _)).mono ?_
  rintro e w2 ⟨⟨p, rfl⟩, hb2⟩
  have B2 : Hid (Below w.heap.size w w2) := (below_al _ _).trans (hb2.mono (by simp))
  clear hb2
  by_cases h0 : z = 0
  · subst h0
    by_cases h1 : 0 ≤ cm
    · by_cases h2 : cm ≤ (n : Int)
      · have HE : Hid (R = true) := by rw [HZ.out, decide_eq_true h1, decide_eq_true h2]; rfl
        go_wp2_with fail
        go_ret
        exact ⟨by rw [HE.out]; exact rfl, B2.out⟩
      · have HE : Hid (R = false) := by rw [HZ.out, decide_eq_false h2, Bool.and_false, Bool.and_false]; exact rfl
        have HD2 := Lib.hid (decide_eq_false h2)
        go_wp2_with fail
        go_ret
        exact ⟨by rw [HE.out, ← HD2.out]; exact rfl, B2.out⟩
    · have HE : Hid (R = false) := by rw [HZ.out, decide_eq_false h1, Bool.false_and, Bool.and_false]; exact rfl
      go_wp2_with fail
      go_ret
      exact ⟨by rw [HE.out]; exact rfl, B2.out⟩
  · have HE : Hid (R = false) := by rw [HZ.out, decide_eq_false h0, Bool.false_and]; exact rfl
    have b0 : (z == 0) = false := beq_eq_false_iff_ne.2 h0
    go_wp2_with fail
    go_ret
    exact ⟨by rw [HE.out]; exact rfl, B2.out⟩
set_option maxHeartbeats 4000000 in
theorem mayBallot_any (x : Lt) (A : Option Addr) (k : Nat) (cf cr cpp : Int) (cu : Bool) (rc : Nat) (w : World) (h : Ob w rc [.int .i64 cf, .int .i64 cr, .int .i64 cpp, .bool cu]) (hl : OkL w A k x.log) (hw : ∀ y ∈ x.log, (Lit.int .i64 y.n).wf = true) :
    Calls Try.prog 133 #[x.agg A k, .pointer (some ⟨rc, 0, none⟩)] w fun e w' => e = .returned (.bool (Lt.may cr x)) ∧ Below w.heap.size w w' := by
  obtain ⟨n, hh, l, v, c, log⟩ := x
  have HO := Lib.hid h
  obtain ⟨lb, hlb⟩ : ∃ lb, lgdF cr log c = lb := ⟨_, rfl⟩
  have HR : Hid (Lt.may cr ⟨n, hh, l, v, c, log⟩ = (decide (0 ≤ v) && (decide (v ≤ 4294967296) && lb))) := by unfold Lt.may; rw [hlb]; exact rfl
  rw [HR.out]
  have F := Lib.hid (fun y (hy : Below w.heap.size w y) => (logged_any cf cr cpp cu A k log c y (hl.below hy) hw).mono (fun e w' (q : e = .returned (.bool (lgdF cr log c)) ∧ Below y.heap.size y w') => show e = .returned (.bool lb) ∧ Below y.heap.size y w' from hlb ▸ q))
  have hn : (log.length : Int) ≤ 6000000000000 := by have := hl.small; simp only at this; omega
  simp only [Lt.agg]
  obtain ⟨m, hm⟩ : ∃ m, log.length = m := ⟨_, rfl⟩
  rw [hm] at F hn ⊢
  obtain ⟨p0, p1, p2, p3⟩ := h.all4
  have z' : Hid (rc < w.heap.size) := h.lt (by simp)
  have zz := z'.out
  clear h hl hw hlb HR hm
  by_cases h0 : 0 ≤ v
  · by_cases h1 : v ≤ 4294967296
    · rw [decide_eq_true h0, decide_eq_true h1]
      go_enter Try.func133, Try.ntmps133
      go_wp2_with fail
      refine (F.out _ (below_al _ _)).mono ?_
      rintro e w2 ⟨rfl, hb2⟩
      have B2 : Hid (Below w.heap.size w w2) := (below_al _ _).trans (hb2.mono (by simp))
      clear hb2
      go_wp2_with fail
      go_ret
      exact ⟨rfl, B2.out⟩
    · rw [decide_eq_false h1]
      go_enter Try.func133, Try.ntmps133
      go_wp2
      go_ret
      exact ⟨by first | rfl | simp, by go_grown⟩
  · rw [decide_eq_false h0]
    go_enter Try.func133, Try.ntmps133
    go_wp2
    go_ret
    exact ⟨by first | rfl | simp, by go_grown⟩
end Go.Proofs.Ytjjobgolpedgeaa
