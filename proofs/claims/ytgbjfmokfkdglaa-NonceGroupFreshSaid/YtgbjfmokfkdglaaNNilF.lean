/-
  The walks of nonce's functions at objects that are nil or zero.
-/
import Derived.Test.YtgbjfmokfkdglaaNAmong
set_option linter.unusedVariables false
set_option linter.unusedSimpArgs false
namespace Go.Proofs.Ytgbjfmokfkdglaa
open Go.RowKit

theorem eltStamp : Elt Try.prog 22 27 (.agg #[.int .i64 0, .int .u64 0, .int .u64 0]) 3 24 := ⟨Try.underlying22, by kernel_rfl, rfl, by decide⟩
set_option maxHeartbeats 400000 in
theorem clockSet_nil (x : Int) (w : World) : Calls Try.prog 45 #[.pointer none, .int .u64 x] w fun e w' => e = .returned (.int .i64 0) ∧ Below w.heap.size w w' := by
  go_enter Try.func45, Try.ntmps45
  go_wp2
  go_returns
  exact ⟨rfl, by go_grown⟩
set_option maxHeartbeats 400000 in
theorem clockPass_nil (x : Int) (w : World) : Calls Try.prog 18 #[.pointer none, .int .u64 x] w fun e w' => e = .returned (.int .i64 0) ∧ Below w.heap.size w w' := by
  go_enter Try.func18, Try.ntmps18
  go_wp2
  go_returns
  exact ⟨rfl, by go_grown⟩
set_option maxHeartbeats 400000 in
theorem streamLeft_nil (w : World) : Calls Try.prog 35 #[.pointer none] w fun e w' => e = .returned (.int .i64 0) ∧ Below w.heap.size w w' := by
  go_enter Try.func35, Try.ntmps35
  go_wp2
  go_returns
  exact ⟨rfl, by go_grown⟩
set_option maxHeartbeats 400000 in
theorem groupSet_nil (x : Int) (w : World) : Calls Try.prog 46 #[.pointer none, .int .u64 x] w fun e w' => e = .returned (.int .i64 0) ∧ Below w.heap.size w w' := by
  go_enter Try.func46, Try.ntmps46
  go_wp2
  go_returns
  exact ⟨rfl, by go_grown⟩
set_option maxHeartbeats 400000 in
theorem groupPass_nil (x : Int) (w : World) : Calls Try.prog 39 #[.pointer none, .int .u64 x] w fun e w' => e = .returned (.int .i64 0) ∧ Below w.heap.size w w' := by
  go_enter Try.func39, Try.ntmps39
  go_wp2
  go_returns
  exact ⟨rfl, by go_grown⟩
set_option maxHeartbeats 400000 in
theorem groupWipe_nil (x : Int) (w : World) : Calls Try.prog 40 #[.pointer none, .int .i64 x] w fun e w' => e = .returned (.int .i64 0) ∧ Below w.heap.size w w' := by
  go_enter Try.func40, Try.ntmps40
  go_wp2
  go_returns
  exact ⟨rfl, by go_grown⟩
set_option maxHeartbeats 400000 in
theorem groupDrawn_nil (w : World) : Calls Try.prog 42 #[.pointer none] w fun e w' => e = .returned (.slice none 0 0) ∧ Below w.heap.size w w' := by
  go_enter Try.func42, Try.ntmps42
  go_wp2
  go_returns
  exact ⟨rfl, by go_grown⟩
set_option maxHeartbeats 400000 in
theorem pairsWipe_nil (w : World) : Calls Try.prog 19 #[.pointer none] w fun e w' => e = .returned (.tuple #[]) ∧ Below w.heap.size w w' := by
  go_enter Try.func19, Try.ntmps19
  go_wp2
  go_end0
  exact ⟨rfl, by go_grown⟩
set_option maxHeartbeats 400000 in
theorem pairsDraw_nil (w : World) : Calls Try.prog 20 #[.pointer none] w fun e w' => e = .returned (.tuple #[.agg #[.int .u64 0, .int .u64 0], .int .i64 0]) ∧ Below w.heap.size w w' := by
  go_enter Try.func20, Try.ntmps20
  go_wp2
  go_returns
  exact ⟨rfl, by go_grown⟩
set_option maxHeartbeats 400000 in
theorem mixedDraw_nil (w : World) : Calls Try.prog 25 #[.pointer none] w fun e w' => e = .returned (.tuple #[.agg #[.int .u64 0, .int .u64 0], .int .i64 0]) ∧ Below w.heap.size w w' := by
  go_enter Try.func25, Try.ntmps25
  go_wp2
  go_returns
  exact ⟨rfl, by go_grown⟩
set_option maxHeartbeats 400000 in
theorem streamDraw_nil (w : World) : Calls Try.prog 47 #[.pointer none] w fun e w' => e = .returned (.tuple #[.agg #[.int .u64 0, .int .u64 0], .int .i64 0]) ∧ Below w.heap.size w w' := by
  go_enter Try.func47, Try.ntmps47
  go_wp2
  go_returns
  exact ⟨rfl, by go_grown⟩
set_option maxHeartbeats 400000 in
theorem groupDraw_nil (x : Int) (w : World) : Calls Try.prog 41 #[.pointer none, .int .i64 x] w fun e w' => e = .returned (.tuple #[.agg #[.int .u64 0, .int .u64 0], .int .i64 0]) ∧ Below w.heap.size w w' := by
  go_enter Try.func41, Try.ntmps41
  go_wp2
  go_returns
  exact ⟨rfl, by go_grown⟩
set_option maxHeartbeats 400000 in
theorem newPairs_nil (w : World) : Calls Try.prog 16 #[.pointer none] w fun e w' => e = .returned (.tuple #[.pointer none, .int .i64 3]) ∧ Below w.heap.size w w' := by
  go_enter Try.func16, Try.ntmps16
  go_wp2
  go_returns
  exact ⟨rfl, by go_grown⟩
set_option maxHeartbeats 400000 in
theorem take_nil (w : World) : Calls Try.prog 33 #[.nilIface, .int .i64 1] w fun e w' => e = .returned (.tuple #[.slice none 0 0, .int .i64 3]) ∧ Below w.heap.size w w' := by
  go_enter Try.func33, Try.ntmps33
  go_wp2
  go_returns
  exact ⟨rfl, by go_grown⟩
set_option maxHeartbeats 400000 in
theorem streamDraw_zero (b : Nat) (w : World) (h : Ob w b [.slice none 0 0]) : Calls Try.prog 47 #[.pointer (some ⟨b, 0, none⟩)] w fun e w' => e = .returned (.tuple #[.agg #[.int .u64 0, .int .u64 0], .int .i64 20]) ∧ Below w.heap.size w w' := by
  have c0 := h.cell 0 rfl
  have lb := h.lt (by simp)
  clear h
  go_enter Try.func47, Try.ntmps47
  go_wp2
  go_returns
  exact ⟨rfl, by go_grown⟩
set_option maxHeartbeats 400000 in
theorem streamLeft_zero (b : Nat) (w : World) (h : Ob w b [.slice none 0 0]) : Calls Try.prog 35 #[.pointer (some ⟨b, 0, none⟩)] w fun e w' => e = .returned (.int .i64 0) ∧ Below w.heap.size w w' := by
  have c0 := h.cell 0 rfl
  have lb := h.lt (by simp)
  clear h
  go_enter Try.func35, Try.ntmps35
  go_wp2
  go_returns
  exact ⟨rfl, by go_grown⟩
set_option maxHeartbeats 400000 in
theorem groupSet_zero (x : Int) (b : Nat) (w : World) (h : Ob w b [.pointer none, .slice none 0 0, .slice none 0 0, .slice none 0 0]) : Calls Try.prog 46 #[.pointer (some ⟨b, 0, none⟩), .int .u64 x] w fun e w' => e = .returned (.int .i64 0) ∧ Below w.heap.size w w' := by
  have c0 := h.cell 0 rfl
  have c1 := h.cell 1 rfl
  have c2 := h.cell 2 rfl
  have c3 := h.cell 3 rfl
  have lb := h.lt (by simp)
  clear h
  go_enter Try.func46, Try.ntmps46
  go_wp2_with fail
  refine (clockSet_nil x w).mono ?_
  rintro e w1 ⟨rfl, hb⟩
  have HB := Lib.hid hb
  clear hb c0 c1 c2 c3
  go_wp2
  go_returns
  exact ⟨rfl, HB.out⟩
set_option maxHeartbeats 400000 in
theorem groupPass_zero (x : Int) (b : Nat) (w : World) (h : Ob w b [.pointer none, .slice none 0 0, .slice none 0 0, .slice none 0 0]) : Calls Try.prog 39 #[.pointer (some ⟨b, 0, none⟩), .int .u64 x] w fun e w' => e = .returned (.int .i64 0) ∧ Below w.heap.size w w' := by
  have c0 := h.cell 0 rfl
  have c1 := h.cell 1 rfl
  have c2 := h.cell 2 rfl
  have c3 := h.cell 3 rfl
  have lb := h.lt (by simp)
  clear h
  go_enter Try.func39, Try.ntmps39
  go_wp2_with fail
  refine (clockPass_nil x w).mono ?_
  rintro e w1 ⟨rfl, hb⟩
  have HB := Lib.hid hb
  clear hb c0 c1 c2 c3
  go_wp2
  go_returns
  exact ⟨rfl, HB.out⟩
set_option maxHeartbeats 400000 in
theorem groupDraw_zero (b : Nat) (w : World) (h : Ob w b [.pointer none, .slice none 0 0, .slice none 0 0, .slice none 0 0]) : Calls Try.prog 41 #[.pointer (some ⟨b, 0, none⟩), .int .i64 0] w fun e w' => e = .returned (.tuple #[.agg #[.int .u64 0, .int .u64 0], .int .i64 3]) ∧ Below w.heap.size w w' := by
  have c0 := h.cell 0 rfl
  have c1 := h.cell 1 rfl
  have c2 := h.cell 2 rfl
  have c3 := h.cell 3 rfl
  have lb := h.lt (by simp)
  clear h
  go_enter Try.func41, Try.ntmps41
  go_wp2
  go_returns
  exact ⟨rfl, by go_grown⟩
set_option maxHeartbeats 400000 in
theorem groupWipe_zero (b : Nat) (w : World) (h : Ob w b [.pointer none, .slice none 0 0, .slice none 0 0, .slice none 0 0]) : Calls Try.prog 40 #[.pointer (some ⟨b, 0, none⟩), .int .i64 0] w fun e w' => e = .returned (.int .i64 3) ∧ Below w.heap.size w w' := by
  have c0 := h.cell 0 rfl
  have c1 := h.cell 1 rfl
  have c2 := h.cell 2 rfl
  have c3 := h.cell 3 rfl
  have lb := h.lt (by simp)
  clear h
  go_enter Try.func40, Try.ntmps40
  go_wp2
  go_returns
  exact ⟨rfl, by go_grown⟩
set_option maxHeartbeats 400000 in
theorem groupDrawn_zero (b : Nat) (w : World) (h : Ob w b [.pointer none, .slice none 0 0, .slice none 0 0, .slice none 0 0]) : Calls Try.prog 42 #[.pointer (some ⟨b, 0, none⟩)] w fun e w' => ∃ A c, e = .returned (.slice A 0 c) ∧ Below w.heap.size w w' := by
  have c0 := h.cell 0 rfl
  have c1 := h.cell 1 rfl
  have c2 := h.cell 2 rfl
  have c3 := h.cell 3 rfl
  have lb := h.lt (by simp)
  clear h
  go_enter Try.func42, Try.ntmps42
  go_wp2_with (at_builtin; refine wpList_app rfl (.const (.slice none 0 0)) (.tmp 8) rfl eltStamp w.heap.size (.slice none 0 0) 0 [] rfl (World.ownsRow_nil _ _ _ _) none 0 0 [] rfl rfl (fun _ => ⟨rfl, rfl⟩) (fun ad e => by cases e) (by simp) ?d3 ?d4 ?d5 ?_)
  case d3 => simp [maxLen]
  case d4 => omega
  case d5 => omega
  intro A' c' w1 ho hg _
  go_wp2
  go_ret
  exact ⟨A', c', rfl, grown_below_drop hg (Nat.le_refl _)⟩
/-- a Pairs without a clock -/
theorem pairsDraw_zero (b : Nat) (w : World) (h : Ob w b [.pointer none, .int .u64 0, .int .u64 0]) :
    Calls Try.prog 20 #[.pointer (some ⟨b, 0, none⟩)] w fun e w' => e = .returned (.tuple #[.agg #[.int .u64 0, .int .u64 1], .int .i64 0]) ∧ w.grownBy w' (some b) ∧ Ob w' b [.pointer none, .int .u64 0, .int .u64 1] := by
  have H := Lib.hid h
  have c0 := h.cell 0 rfl
  have c1 := h.cell 1 rfl
  have c2 := h.cell 2 rfl
  have f2 := h.fr 2 (by simp)
  have lb := h.lt (by simp)
  clear h
  go_enter Try.func20, Try.ntmps20
  go_wp2_with fail
  refine (now_nil _).mono ?_
  rintro e w' ⟨rfl, rfl⟩
  go_wp2
  go_returns
  refine ⟨rfl, ?_, ?_⟩
  · exact gb_alloc (gb_set (World.grownBy.refl _ _) _ _ (.inl rfl)) _
  · exact (H.out.set 2 (by simp) _).alloc _
theorem pairsWipe_zero (p : Nat) (x y : Value) (w : World) (h : Ob w p [.pointer none, x, y]) :
    Calls Try.prog 19 #[.pointer (some ⟨p, 0, none⟩)] w fun e w' => e = .returned (.tuple #[]) ∧ w.grownBy w' (some p) := by
  have c1 := h.cell 1 rfl
  have c2 := h.cell 2 rfl
  have f1 := h.fr 1 (by simp)
  have f2 := h.fr 2 (by simp)
  clear h
  go_enter Try.func19, Try.ntmps19
  go_wp2
  go_end0
  refine ⟨rfl, ?_⟩
  repeat (first | (with_reducible exact World.grownBy.refl _ _) | (with_reducible refine gb_set ?_ _ _ (.inl rfl)))
/-- what Set makes of a reading -/
def cSet (a b : Nat) : Nat × Nat := if b < a then (22, a) else (0, b)
theorem clockSet_any (c a b : Nat) (w : World) (h : Ob w c [.int .u64 (a : Nat)]) :
    Calls Try.prog 45 #[.pointer (some ⟨c, 0, none⟩), .int .u64 (b : Nat)] w fun e w' => e = .returned (.int .i64 ((cSet a b).1 : Nat)) ∧ w.grownBy w' (some c) ∧ w'.heap.size = w.heap.size ∧ Ob w' c [.int .u64 ((cSet a b).2 : Nat)] := by
  have c0 := h.cell 0 rfl
  have f0 := h.fr 0 (by simp)
  have H := Lib.hid h
  clear h
  by_cases hlt : b < a
  · have e1 : cSet a b = (22, a) := if_pos hlt
    rw [e1]
    have hx : (b : Int) < a := by omega
    clear e1 hlt
    go_enter Try.func45, Try.ntmps45
    go_wp2
    go_ret
    exact ⟨rfl, World.grownBy.refl _ _, rfl, H.out⟩
  · have e1 : cSet a b = (0, b) := if_neg hlt
    rw [e1]
    have hx : ¬ (b : Int) < a := by omega
    clear e1 hlt
    go_enter Try.func45, Try.ntmps45
    go_wp2
    go_ret
    exact ⟨rfl, grown_setCell _ _ _, by simp, H.out.set 0 (by simp) _⟩
end Go.Proofs.Ytgbjfmokfkdglaa
