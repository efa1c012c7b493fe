/-
  The walks of nonce's clock, Pairs and Mixed.
-/
import Derived.Test.YtgbjfmokfkdglaaNBase
set_option linter.unusedVariables false
set_option linter.unusedSimpArgs false
namespace Go.Proofs.Ytgbjfmokfkdglaa
open Go.RowKit

theorem drawInfo : (Try.prog.info? 25).map (·.size) = some 2 := by kernel_rfl
theorem ret_draw {fn : Func} {p u : Tmp} (h : fn.results = #[.cell p 25, .tmp u]) {R : Ending → World → Prop} {a : Act} {w : World} (b : Nat) (x y e : Value)
    (ht : a.tmps.getD p undef = .pointer (some ⟨b, 0, none⟩)) (he : a.tmps.getD u undef = e) (hc : Ob w b [x, y]) (hd : a.defers = [])
    (hR : R (.returned (.tuple #[.agg #[x, y], e])) w) : bodyPost Try.prog fn R .ret a w :=
  ret_cells h (cs := [x, y]) Try.underlying25 drawInfo ht he hc hd hR
theorem newClock_any (a : Int) (w : World) : Calls Try.prog 15 #[.int .u64 a] w fun e w' => e = .returned (.pointer (some ⟨w.heap.size, 0, none⟩)) ∧ w' = w.alloc (.cells #[.int .u64 a] 107) := by
  go_enter Try.func15, Try.ntmps15
  go_wp2
  go_ret
  exact ⟨rfl, rfl⟩
theorem newMixed_any (a : Int) (w : World) : Calls Try.prog 24 #[.int .u64 a] w fun e w' => e = .returned (.pointer (some ⟨w.heap.size, 0, none⟩)) ∧ w' = w.alloc (.cells #[.int .u64 a] 109) := by
  go_enter Try.func24, Try.ntmps24
  go_wp2
  go_ret
  exact ⟨rfl, rfl⟩
theorem newPairs_any (c : Addr) (w : World) : Calls Try.prog 16 #[.pointer (some c)] w fun e w' => e = .returned (.tuple #[.pointer (some ⟨w.heap.size, 0, none⟩), .int .i64 0]) ∧ w' = w.alloc (.cells #[.pointer (some c), .int .u64 0, .int .u64 0] 55) := by
  go_enter Try.func16, Try.ntmps16
  go_wp2
  go_ret2
  exact ⟨rfl, rfl⟩
theorem now_any (c : Nat) (a : Int) (w : World) (h : w.cell? ⟨c, 0, none⟩ = some (.int .u64 a)) : Calls Try.prog 21 #[.pointer (some ⟨c, 0, none⟩)] w fun e w' => e = .returned (.int .u64 a) ∧ w = w' := by
  go_enter Try.func21, Try.ntmps21
  go_wp2
  go_ret
  exact ⟨rfl, rfl⟩
theorem now_nil (w : World) : Calls Try.prog 21 #[.pointer none] w fun e w' => e = .returned (.int .u64 0) ∧ w = w' := by
  go_enter Try.func21, Try.ntmps21
  go_wp2
  go_ret
  exact ⟨rfl, rfl⟩
/-- what Pass makes of a reading: the error and the reading -/
def cPass (a b : Nat) : Nat × Nat := if 18446744073709551615 - a < b then (20, a) else (0, a + b)
theorem pass_any (c a b : Nat) (w : World) (h : Ob w c [.int .u64 a]) (ha : a < 18446744073709551616) (hb : b < 18446744073709551616) :
    Calls Try.prog 18 #[.pointer (some ⟨c, 0, none⟩), .int .u64 b] w fun e w' => e = .returned (.int .i64 ((cPass a b).1 : Nat)) ∧ w.grownBy w' (some c) ∧ w'.heap.size = w.heap.size ∧ Ob w' c [.int .u64 ((cPass a b).2 : Nat)] := by
  have c0 := h.cell 0 rfl
  have f0 := h.fr 0 (by simp)
  have H := Lib.hid h
  clear h
  by_cases hlt : 18446744073709551615 - a < b
  · have e1 : cPass a b = (20, a) := if_pos hlt
    rw [e1]
    have hx : (18446744073709551615 : Int) - a < b := by omega
    have hw : IntKind.u64.wrap (18446744073709551615 - (a : Int)) = 18446744073709551615 - a := by rw [IntKind.wrap_u64]; omega
    clear e1
    go_enter Try.func18, Try.ntmps18
    go_wp2
    go_ret
    exact ⟨rfl, World.grownBy.refl _ _, rfl, H.out⟩
  · have e1 : cPass a b = (0, a + b) := if_neg hlt
    rw [e1]
    have hx : ¬ (18446744073709551615 : Int) - a < b := by omega
    have hw : IntKind.u64.wrap (18446744073709551615 - (a : Int)) = 18446744073709551615 - a := by rw [IntKind.wrap_u64]; omega
    have hw2 : IntKind.u64.wrap ((a : Int) + b) = ((a + b : Nat) : Int) := by rw [IntKind.wrap_u64]; omega
    clear e1
    go_enter Try.func18, Try.ntmps18
    go_wp2
    go_ret
    exact ⟨rfl, grown_setCell _ _ _, by simp, by simpa using H.out.set 0 (by simp) _⟩
/-- what Draw of a Pairs at the reading a makes of its memory (m, n): the draw, the error, the count -/
def pDraw (a m n : Nat) : Nat × Nat × Nat × Nat := if (if m = a then n else 0) = 65535 then (0, 0, 20, 65535) else (a, (if m = a then n else 0) + 1, 0, (if m = a then n else 0) + 1)
set_option maxHeartbeats 400000 in
theorem draw_full (p c a m n : Nat) (w : World) (hc : Ob w c [.int .u64 a]) (hp : Ob w p [.pointer (some ⟨c, 0, none⟩), .int .u64 m, .int .u64 n]) (hpc : p ≠ c) (hm : m = a) (hn : n = 65535) :
    Calls Try.prog 20 #[.pointer (some ⟨p, 0, none⟩)] w fun e w' =>
      e = .returned (.tuple #[.agg #[.int .u64 0, .int .u64 0], .int .i64 20]) ∧ w.grownBy w' (some p) ∧
      Ob w' p [.pointer (some ⟨c, 0, none⟩), .int .u64 (a : Nat), .int .u64 (65535 : Nat)] := by
  have HC := Lib.hid hc
  have HP := Lib.hid hp
  have c0 := hc.cell 0 rfl
  have p0 := hp.cell 0 rfl
  have p1 := hp.cell 1 rfl
  have p2 := hp.cell 2 rfl
  have f1 := hp.fr 1 (by simp)
  have f2 := hp.fr 2 (by simp)
  have lc := hc.lt (by simp)
  have lp := hp.lt (by simp)
  subst hm hn
  have hx : ((65535 : Nat) : Int) = 65535 := rfl
  clear hc hp
  go_enter Try.func20, Try.ntmps20
  go_wp2_with fail
  refine (now_any c m _ (HC.out.alloc _ |>.cell 0 rfl)).mono ?_
  rintro e w' ⟨rfl, rfl⟩
  go_wp2
  go_returns
  exact ⟨rfl, gb_alloc (World.grownBy.refl _ _) _, HP.out.alloc _⟩
set_option maxHeartbeats 400000 in
theorem draw_next (p c a m n : Nat) (w : World) (hc : Ob w c [.int .u64 a]) (hp : Ob w p [.pointer (some ⟨c, 0, none⟩), .int .u64 m, .int .u64 n]) (hpc : p ≠ c) (hm : m = a) (hn : n < 65535) :
    Calls Try.prog 20 #[.pointer (some ⟨p, 0, none⟩)] w fun e w' =>
      e = .returned (.tuple #[.agg #[.int .u64 (a : Nat), .int .u64 (n + 1 : Nat)], .int .i64 0]) ∧ w.grownBy w' (some p) ∧
      Ob w' p [.pointer (some ⟨c, 0, none⟩), .int .u64 (a : Nat), .int .u64 (n + 1 : Nat)] := by
  have HC := Lib.hid hc
  have HP := Lib.hid hp
  have c0 := hc.cell 0 rfl
  have p0 := hp.cell 0 rfl
  have p1 := hp.cell 1 rfl
  have p2 := hp.cell 2 rfl
  have f1 := hp.fr 1 (by simp)
  have f2 := hp.fr 2 (by simp)
  have lc := hc.lt (by simp)
  have lp := hp.lt (by simp)
  subst hm
  have hx : ((n : Int) == 65535) = false := beq_eq_false_iff_ne.2 (by omega)
  have hw : IntKind.u64.wrap ((n : Int) + 1) = ((n + 1 : Nat) : Int) := by rw [IntKind.wrap_u64]; omega
  clear hc hp hn
  go_enter Try.func20, Try.ntmps20
  go_wp2_with fail
  refine (now_any c m _ (HC.out.alloc _ |>.cell 0 rfl)).mono ?_
  rintro e w' ⟨rfl, rfl⟩
  go_wp2
  go_returns
  refine ⟨rfl, ?_, ?_⟩
  · exact gb_alloc (gb_set (World.grownBy.refl _ _) _ _ (.inl rfl)) _
  · exact (HP.out.set 2 (by simp) _).alloc _
set_option maxHeartbeats 800000 in
theorem draw_new (p c a m n : Nat) (w : World) (hc : Ob w c [.int .u64 a]) (hp : Ob w p [.pointer (some ⟨c, 0, none⟩), .int .u64 m, .int .u64 n]) (hpc : p ≠ c) (hm : m ≠ a) :
    Calls Try.prog 20 #[.pointer (some ⟨p, 0, none⟩)] w fun e w' =>
      e = .returned (.tuple #[.agg #[.int .u64 (a : Nat), .int .u64 (1 : Nat)], .int .i64 0]) ∧ w.grownBy w' (some p) ∧
      Ob w' p [.pointer (some ⟨c, 0, none⟩), .int .u64 (a : Nat), .int .u64 (1 : Nat)] := by
  have HC := Lib.hid hc
  have HP := Lib.hid hp
  have c0 := hc.cell 0 rfl
  have p0 := hp.cell 0 rfl
  have p1 := hp.cell 1 rfl
  have p2 := hp.cell 2 rfl
  have f1 := hp.fr 1 (by simp)
  have f2 := hp.fr 2 (by simp)
  have lc := hc.lt (by simp)
  have lp := hp.lt (by simp)
  have hx : ((m : Int) == a) = false := beq_eq_false_iff_ne.2 (by omega)
  have hq : ∀ o, ((((w.setCell ⟨p, 1, none⟩ (.int .u64 a)).setCell ⟨p, 2, none⟩ (.int .u64 0)).setCell ⟨p, 2, none⟩ (.int .u64 1)).alloc o).cell? ⟨p, 2, none⟩ = some (.int .u64 1) := fun o =>
    ((((HP.out.set 1 (by simp) _).set 2 (by simp) _).set 2 (by simp) _).alloc o).cell 2 rfl
  clear hc hp hm
  go_enter Try.func20, Try.ntmps20
  go_wp2_with fail
  refine (now_any c a _ (HC.out.alloc _ |>.cell 0 rfl)).mono ?_
  rintro e w' ⟨rfl, rfl⟩
  go_wp2
  go_returns
  refine ⟨rfl, ?_, ?_⟩
  · repeat (first | (with_reducible exact World.grownBy.refl _ _) | (with_reducible refine gb_alloc ?_ _) | (with_reducible refine gb_set ?_ _ _ (.inl rfl)))
  · refine Ob.alloc ?_ _
    have h3 := ((HP.out.set 1 (by simp) (.int .u64 a)).set 2 (by simp) (.int .u64 0)).set 2 (by simp) (.int .u64 1)
    exact h3
theorem draw_any (p c a m n : Nat) (w : World) (hc : Ob w c [.int .u64 a]) (hp : Ob w p [.pointer (some ⟨c, 0, none⟩), .int .u64 m, .int .u64 n]) (hpc : p ≠ c) (hn : n ≤ 65535) :
    Calls Try.prog 20 #[.pointer (some ⟨p, 0, none⟩)] w fun e w' =>
      e = .returned (.tuple #[.agg #[.int .u64 ((pDraw a m n).1 : Nat), .int .u64 ((pDraw a m n).2.1 : Nat)], .int .i64 ((pDraw a m n).2.2.1 : Nat)]) ∧ w.grownBy w' (some p) ∧
      Ob w' p [.pointer (some ⟨c, 0, none⟩), .int .u64 (a : Nat), .int .u64 ((pDraw a m n).2.2.2 : Nat)] := by
  by_cases hm : m = a
  · by_cases h6 : n = 65535
    · have e1 : pDraw a m n = (0, 0, 20, 65535) := by unfold pDraw; rw [if_pos hm, if_pos h6]
      rw [e1]
      exact draw_full p c a m n w hc hp hpc hm h6
    · have e1 : pDraw a m n = (a, n + 1, 0, n + 1) := by unfold pDraw; rw [if_pos hm, if_neg h6]
      rw [e1]
      exact draw_next p c a m n w hc hp hpc hm (by omega)
  · have e1 : pDraw a m n = (a, 1, 0, 1) := by unfold pDraw; rw [if_neg hm, if_neg (by decide)]
    rw [e1]
    exact draw_new p c a m n w hc hp hpc hm
end Go.Proofs.Ytgbjfmokfkdglaa
