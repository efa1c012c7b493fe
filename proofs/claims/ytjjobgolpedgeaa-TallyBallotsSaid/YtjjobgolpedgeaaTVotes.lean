/-
  The walks of what a vote is asked for: who, of which life, whether it is above another, a copy of its own.
-/
import Derived.Test.YtjjobgolpedgeaaTCmp
set_option linter.unusedVariables false
set_option linter.unusedSimpArgs false
namespace Go.Proofs.Ytjjobgolpedgeaa
open Go.RowKit

/-- an entry of a log -/
structure Et where
  c : Int
  n : Int
  kd : Int
  sl : Int
  v : ByteArray
instance : Inhabited Et := ⟨⟨0, 0, 0, 0, ByteArray.empty⟩⟩
abbrev Et.cells (x : Et) : List Value := [.int .i64 x.c, .int .i64 x.n, .int .i64 x.kd, .int .i64 x.sl, .string x.v]
theorem Et.one (x : Et) : ∀ u ∈ x.cells, u.oneCell' = true := by
  intro u hu
  simp [Et.cells] at hu
  rcases hu with rfl | rfl | rfl | rfl | rfl <;> rfl
theorem eltEntry : Elt Try.prog 36 156 (.agg #[.int .i64 0, .int .i64 0, .int .i64 0, .int .i64 0, .string ByteArray.empty]) 5 48 := ⟨Try.underlying36, by kernel_rfl, rfl, by decide⟩
def Ak.above (x y : Ak) : Bool := decide (y.p < x.p)
def Mk.above (x y : Mk) : Bool := false
def longer (n : Nat) (c : Int) (m : Nat) (d : Int) : Bool := decide ((m : Int) < n) || (decide ((n : Int) = m) && decide (d < c))
def Bt.above (x y : Bt) : Bool := if x.v = y.v then longer x.m x.c y.m y.c else decide (y.v < x.v)
theorem longer_any (A B : Option Addr) (n k m j : Nat) (c d : Int) (w : World) : Calls Try.prog 178 #[.slice A n k, .int .i64 c, .slice B m j, .int .i64 d] w fun e w' => e = .returned (.bool (longer n c m d)) ∧ w = w' := by
  unfold longer
  by_cases h1 : (m : Int) < n
  · have h2 : decide ((m : Int) < n) = true := decide_eq_true h1
    rw [h2, Bool.true_or]
    clear h2
    go_enter Try.func178, Try.ntmps178
    go_wp2
    go_ret
    exact ⟨rfl, rfl⟩
  · have h2 : decide ((m : Int) < n) = false := decide_eq_false h1
    rw [h2, Bool.false_or]
    by_cases h3 : n = m
    · subst h3
      rw [decide_eq_true rfl, Bool.true_and]
      clear h2
      go_enter Try.func178, Try.ntmps178
      go_wp2
      go_ret
      exact ⟨rfl, rfl⟩
    · have h4 : ((n : Int) == (m : Int)) = false := beq_eq_false_iff_ne.2 (by omega)
      have h5 : decide ((n : Int) = m) = false := decide_eq_false (by omega)
      rw [h5, Bool.false_and]
      clear h2 h5
      go_enter Try.func178, Try.ntmps178
      go_wp2
      go_ret
      exact ⟨rfl, rfl⟩
theorem nodeAck_any (x : Ak) (w : World) : Calls Try.prog 174 #[x.agg] w fun e w' => e = .returned (.int .i64 x.n) ∧ Below w.heap.size w w' := by
  go_enter Try.func174, Try.ntmps174
  go_wp2
  go_ret
  exact ⟨rfl, by go_grown⟩
theorem drawAck_any (x : Ak) (w : World) : Calls Try.prog 172 #[x.agg] w fun e w' => e = .returned (.agg #[.int .u64 (x.h : Nat), .int .u64 (x.l : Nat)]) ∧ Below w.heap.size w w' := by
  go_enter Try.func172, Try.ntmps172
  go_wp2
  go_returns
  exact ⟨rfl, by go_grown⟩
theorem aboveAck_any (x y : Ak) (w : World) : Calls Try.prog 171 #[x.agg, y.agg] w fun e w' => e = .returned (.bool (x.above y)) ∧ Below w.heap.size w w' := by
  unfold Ak.above
  go_enter Try.func171, Try.ntmps171
  go_wp2
  go_ret
  exact ⟨rfl, by go_grown⟩
theorem freshAck_any (x : Ak) (w : World) : Calls Try.prog 173 #[x.agg] w fun e w' => e = .returned x.agg ∧ Below w.heap.size w w' := by
  go_enter Try.func173, Try.ntmps173
  go_wp2
  go_returns
  exact ⟨rfl, by go_grown⟩
theorem nodeMark_any (x : Mk) (w : World) : Calls Try.prog 182 #[x.agg] w fun e w' => e = .returned (.int .i64 x.n) ∧ Below w.heap.size w w' := by
  go_enter Try.func182, Try.ntmps182
  go_wp2
  go_ret
  exact ⟨rfl, by go_grown⟩
theorem drawMark_any (x : Mk) (w : World) : Calls Try.prog 180 #[x.agg] w fun e w' => e = .returned (.agg #[.int .u64 (x.h : Nat), .int .u64 (x.l : Nat)]) ∧ Below w.heap.size w w' := by
  go_enter Try.func180, Try.ntmps180
  go_wp2
  go_returns
  exact ⟨rfl, by go_grown⟩
theorem aboveMark_any (x y : Mk) (w : World) : Calls Try.prog 179 #[x.agg, y.agg] w fun e w' => e = .returned (.bool (x.above y)) ∧ Below w.heap.size w w' := by
  unfold Mk.above
  go_enter Try.func179, Try.ntmps179
  go_wp2
  go_ret
  exact ⟨rfl, by go_grown⟩
theorem freshMark_any (x : Mk) (w : World) : Calls Try.prog 181 #[x.agg] w fun e w' => e = .returned x.agg ∧ Below w.heap.size w w' := by
  go_enter Try.func181, Try.ntmps181
  go_wp2
  go_returns
  exact ⟨rfl, by go_grown⟩
theorem nodeBallot_any (x : Bt) (w : World) : Calls Try.prog 185 #[x.agg] w fun e w' => e = .returned (.int .i64 x.n) ∧ Below w.heap.size w w' := by
  go_enter Try.func185, Try.ntmps185
  go_wp2
  go_ret
  exact ⟨rfl, by go_grown⟩
theorem drawBallot_any (x : Bt) (w : World) : Calls Try.prog 184 #[x.agg] w fun e w' => e = .returned (.agg #[.int .u64 (x.h : Nat), .int .u64 (x.l : Nat)]) ∧ Below w.heap.size w w' := by
  go_enter Try.func184, Try.ntmps184
  go_wp2
  go_returns
  exact ⟨rfl, by go_grown⟩
theorem aboveBallot_any (x y : Bt) (w : World) : Calls Try.prog 183 #[x.agg, y.agg] w fun e w' => e = .returned (.bool (x.above y)) ∧ Below w.heap.size w w' := by
  unfold Bt.above
  by_cases hv : x.v = y.v
  · have hb : (x.v != y.v) = false := by simp [hv]
    rw [if_pos hv]
    clear hv
    go_enter Try.func183, Try.ntmps183
    go_wp2_with fail
    refine (longer_any _ _ _ _ _ _ _ _ _).mono ?_
    rintro e w' ⟨rfl, rfl⟩
    go_wp2
    go_ret
    exact ⟨rfl, by go_grown⟩
  · have hb : (x.v != y.v) = true := by simp [hv]
    rw [if_neg hv]
    clear hv
    go_enter Try.func183, Try.ntmps183
    go_wp2
    go_ret
    exact ⟨rfl, by go_grown⟩
/-- a copy of its own -/
def FrBallot (x : Bt) (LG : List Et) (W : World) (e : Ending) (w' : World) : Prop := ∃ A' k', e = .returned ({ x with A := A', k := k' } : Bt).agg ∧ Below W.heap.size W w' ∧ w'.ownsRow W.heap.size 156 5 (.slice A' x.m k') x.m (CL Et.cells LG)
theorem freshBallot_any (x : Bt) (LG : List Et) (w : World) (h : RdC 5 Et.cells w x.A x.m LG) (hA : x.A = none → x.m = 0 ∧ x.k = 0) (hsm : x.m * 48 ≤ 140737488355328) : Calls Try.prog 94 #[x.agg] w (FrBallot x LG w) := by
  obtain ⟨xn, xh, xl, xv, xc, xA, xm, xk⟩ := x
  simp only at h hA hsm ⊢
  have H := Lib.hid h
  have HA := Lib.hid hA
  have HSM := Lib.hid hsm
  clear h hA hsm
  go_enter Try.func94, Try.ntmps94
  go_wp2_with (at_builtin; refine wpList_app rfl (.const (.slice none 0 0)) (.tmp 4) rfl eltEntry (w.heap.size + 2) (.slice none 0 0) 0 [] rfl (World.ownsRow_nil _ _ _ _) xA xm xk (CL Et.cells LG) rfl (by rw [CL_len (size := 5) (fun _ => rfl), H.out.len]) HA.out (rdc_news (size := 5) (by decide) (fun _ => rfl) (H.out.below (((Below.refl _ _).alloc (Nat.le_refl _) _).alloc (by simp) _))) (CL_one Et.one LG) ?d3 ?d4 ?d5 ?_)
  case d3 => have := HSM.out; simp only [maxLen]; omega
  case d4 => have := HSM.out; omega
  case d5 => simp
  intro A' c' w1 ho hg hb
  have O0 := Lib.hid ((Ob.fresh w #[.int .i64 xn, .int .u64 (xh : Nat), .int .u64 (xl : Nat), .int .i64 xv, .int .i64 xc, .slice xA xm xk] 144).alloc (.cells #[.int .i64 0, .int .u64 0, .int .u64 0, .int .i64 0, .int .i64 0, .slice none 0 0] 144) |>.kept hg (by simp [Value.ownBlock]))
  have O1 := Lib.hid ((Ob.fresh (w.alloc (.cells #[.int .i64 xn, .int .u64 (xh : Nat), .int .u64 (xl : Nat), .int .i64 xv, .int .i64 xc, .slice xA xm xk] 144)) #[.int .i64 0, .int .u64 0, .int .u64 0, .int .i64 0, .int .i64 0, .slice none 0 0] 144).kept hg (by simp [Value.ownBlock]))
  have B1 : Hid (Below w.heap.size w w1) := (((Below.refl _ _).alloc (Nat.le_refl _) _).alloc (by simp) _).trans (grown_below_drop hg (by simp; omega))
  have HO := Lib.hid ho
  have l1 : Hid (w.heap.size + 2 ≤ w1.heap.size) := by have := hg.size; simp only [World.size_alloc] at this; simp only [Hid]; omega
  rw [World.size_alloc] at O1
  clear ho hg hb
  generalize hwb : w.heap.size = b at *
  have HWB := Lib.hid hwb
  clear hwb
  have p0 := O0.out.cell 0 rfl
  have p1 := O0.out.cell 1 rfl
  have p2 := O0.out.cell 2 rfl
  have p3 := O0.out.cell 3 rfl
  have p4 := O0.out.cell 4 rfl
  have p5 := O0.out.cell 5 rfl
  have f0 := O0.out.fr 5 (by simp)
  have q0 := O1.out.cell 0 rfl
  have f10 := O1.out.fr 0 (by simp)
  have q1 := O1.out.cell 1 rfl
  have f11 := O1.out.fr 1 (by simp)
  have q2 := O1.out.cell 2 rfl
  have f12 := O1.out.fr 2 (by simp)
  have q3 := O1.out.cell 3 rfl
  have f13 := O1.out.fr 3 (by simp)
  have q4 := O1.out.cell 4 rfl
  have f14 := O1.out.fr 4 (by simp)
  have q5 := O1.out.cell 5 rfl
  have f15 := O1.out.fr 5 (by simp)
  go_wp2_with fail
  have R0 := (((((((O1.out.setOther (a := ⟨b, 5, none⟩) (.slice A' xm c') (by simp)).set 0 (by simp) (.int .i64 xn)).set 1 (by simp) (.int .u64 (xh : Nat))).set 2 (by simp) (.int .u64 (xl : Nat))).set 3 (by simp) (.int .i64 xv)).set 4 (by simp) (.int .i64 xc)).set 5 (by simp) (.slice A' xm c'))
  refine ret_cells1 Try.results94 (b := b + 1) Try.underlying144 (by kernel_rfl) rfl R0 rfl ?_
  refine ⟨A', c', rfl, ?_, ?_⟩ <;> rw [HWB.out]
  · exact ((((((B1.out.setCell (by simp) _).setCell (by simp) _).setCell (by simp) _).setCell (by simp) _).setCell (by simp) _).setCell (by simp) _).setCell (by simp) _
  · refine own_mono (B' := b + 2) ?_ (by omega)
    exact ((((((ownsRow_setCell_below HO.out (by simp) _ |> (ownsRow_setCell_below · (by simp) _)) |> (ownsRow_setCell_below · (by simp) _)) |> (ownsRow_setCell_below · (by simp) _)) |> (ownsRow_setCell_below · (by simp) _)) |> (ownsRow_setCell_below · (by simp) _)) |> (ownsRow_setCell_below · (by simp) _))
theorem nodeAnswer_any (x : Bt) (w : World) : Calls Try.prog 177 #[x.agg] w fun e w' => e = .returned (.int .i64 x.n) ∧ Below w.heap.size w w' := by
  go_enter Try.func177, Try.ntmps177
  go_wp2
  go_ret
  exact ⟨rfl, by go_grown⟩
theorem drawAnswer_any (x : Bt) (w : World) : Calls Try.prog 176 #[x.agg] w fun e w' => e = .returned (.agg #[.int .u64 (x.h : Nat), .int .u64 (x.l : Nat)]) ∧ Below w.heap.size w w' := by
  go_enter Try.func176, Try.ntmps176
  go_wp2
  go_returns
  exact ⟨rfl, by go_grown⟩
theorem aboveAnswer_any (x y : Bt) (w : World) : Calls Try.prog 175 #[x.agg, y.agg] w fun e w' => e = .returned (.bool (x.above y)) ∧ Below w.heap.size w w' := by
  unfold Bt.above
  by_cases hv : x.v = y.v
  · have hb : (x.v != y.v) = false := by simp [hv]
    rw [if_pos hv]
    clear hv
    go_enter Try.func175, Try.ntmps175
    go_wp2_with fail
    refine (longer_any _ _ _ _ _ _ _ _ _).mono ?_
    rintro e w' ⟨rfl, rfl⟩
    go_wp2
    go_ret
    exact ⟨rfl, by go_grown⟩
  · have hb : (x.v != y.v) = true := by simp [hv]
    rw [if_neg hv]
    clear hv
    go_enter Try.func175, Try.ntmps175
    go_wp2
    go_ret
    exact ⟨rfl, by go_grown⟩
/-- a copy of its own -/
theorem freshAnswer_any (x : Bt) (LG : List Et) (w : World) (h : RdC 5 Et.cells w x.A x.m LG) (hA : x.A = none → x.m = 0 ∧ x.k = 0) (hsm : x.m * 48 ≤ 140737488355328) : Calls Try.prog 83 #[x.agg] w (FrBallot x LG w) := by
  obtain ⟨xn, xh, xl, xv, xc, xA, xm, xk⟩ := x
  simp only at h hA hsm ⊢
  have H := Lib.hid h
  have HA := Lib.hid hA
  have HSM := Lib.hid hsm
  clear h hA hsm
  go_enter Try.func83, Try.ntmps83
  go_wp2_with (at_builtin; refine wpList_app rfl (.const (.slice none 0 0)) (.tmp 4) rfl eltEntry (w.heap.size + 2) (.slice none 0 0) 0 [] rfl (World.ownsRow_nil _ _ _ _) xA xm xk (CL Et.cells LG) rfl (by rw [CL_len (size := 5) (fun _ => rfl), H.out.len]) HA.out (rdc_news (size := 5) (by decide) (fun _ => rfl) (H.out.below (((Below.refl _ _).alloc (Nat.le_refl _) _).alloc (by simp) _))) (CL_one Et.one LG) ?d3 ?d4 ?d5 ?_)
  case d3 => have := HSM.out; simp only [maxLen]; omega
  case d4 => have := HSM.out; omega
  case d5 => simp
  intro A' c' w1 ho hg hb
  have O0 := Lib.hid ((Ob.fresh w #[.int .i64 xn, .int .u64 (xh : Nat), .int .u64 (xl : Nat), .int .i64 xv, .int .i64 xc, .slice xA xm xk] 125).alloc (.cells #[.int .i64 0, .int .u64 0, .int .u64 0, .int .i64 0, .int .i64 0, .slice none 0 0] 125) |>.kept hg (by simp [Value.ownBlock]))
  have O1 := Lib.hid ((Ob.fresh (w.alloc (.cells #[.int .i64 xn, .int .u64 (xh : Nat), .int .u64 (xl : Nat), .int .i64 xv, .int .i64 xc, .slice xA xm xk] 125)) #[.int .i64 0, .int .u64 0, .int .u64 0, .int .i64 0, .int .i64 0, .slice none 0 0] 125).kept hg (by simp [Value.ownBlock]))
  have B1 : Hid (Below w.heap.size w w1) := (((Below.refl _ _).alloc (Nat.le_refl _) _).alloc (by simp) _).trans (grown_below_drop hg (by simp; omega))
  have HO := Lib.hid ho
  have l1 : Hid (w.heap.size + 2 ≤ w1.heap.size) := by have := hg.size; simp only [World.size_alloc] at this; simp only [Hid]; omega
  rw [World.size_alloc] at O1
  clear ho hg hb
  generalize hwb : w.heap.size = b at *
  have HWB := Lib.hid hwb
  clear hwb
  have p0 := O0.out.cell 0 rfl
  have p1 := O0.out.cell 1 rfl
  have p2 := O0.out.cell 2 rfl
  have p3 := O0.out.cell 3 rfl
  have p4 := O0.out.cell 4 rfl
  have p5 := O0.out.cell 5 rfl
  have f0 := O0.out.fr 5 (by simp)
  have q0 := O1.out.cell 0 rfl
  have f10 := O1.out.fr 0 (by simp)
  have q1 := O1.out.cell 1 rfl
  have f11 := O1.out.fr 1 (by simp)
  have q2 := O1.out.cell 2 rfl
  have f12 := O1.out.fr 2 (by simp)
  have q3 := O1.out.cell 3 rfl
  have f13 := O1.out.fr 3 (by simp)
  have q4 := O1.out.cell 4 rfl
  have f14 := O1.out.fr 4 (by simp)
  have q5 := O1.out.cell 5 rfl
  have f15 := O1.out.fr 5 (by simp)
  go_wp2_with fail
  have R0 := (((((((O1.out.setOther (a := ⟨b, 5, none⟩) (.slice A' xm c') (by simp)).set 0 (by simp) (.int .i64 xn)).set 1 (by simp) (.int .u64 (xh : Nat))).set 2 (by simp) (.int .u64 (xl : Nat))).set 3 (by simp) (.int .i64 xv)).set 4 (by simp) (.int .i64 xc)).set 5 (by simp) (.slice A' xm c'))
  refine ret_cells1 Try.results83 (b := b + 1) Try.underlying125 (by kernel_rfl) rfl R0 rfl ?_
  refine ⟨A', c', rfl, ?_, ?_⟩ <;> rw [HWB.out]
  · exact ((((((B1.out.setCell (by simp) _).setCell (by simp) _).setCell (by simp) _).setCell (by simp) _).setCell (by simp) _).setCell (by simp) _).setCell (by simp) _
  · refine own_mono (B' := b + 2) ?_ (by omega)
    exact ((((((ownsRow_setCell_below HO.out (by simp) _ |> (ownsRow_setCell_below · (by simp) _)) |> (ownsRow_setCell_below · (by simp) _)) |> (ownsRow_setCell_below · (by simp) _)) |> (ownsRow_setCell_below · (by simp) _)) |> (ownsRow_setCell_below · (by simp) _)) |> (ownsRow_setCell_below · (by simp) _))
end Go.Proofs.Ytjjobgolpedgeaa
