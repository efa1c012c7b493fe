/-
  The walk of 'does' at the kinds 4, 7, 2 and of all others.
-/
import Derived.Test.YtgbjfmokfkdglaaNDoes
set_option linter.unusedVariables false
set_option linter.unusedSimpArgs false
namespace Go.Proofs.Ytgbjfmokfkdglaa
open Go.RowKit

set_option maxRecDepth 100000 in
set_option maxHeartbeats 1600000 in
theorem does4t (W : World) (b : Bk) (L : List (Nat × Nat)) (Al : Option Addr) (cl : Nat) (w : World) (v : Vs) (N : Nat) (h : Sr W b L Al cl w v) (hb : b.Ok W) :
    Calls Try.prog 32 #[P0 b.T, .agg #[.int .i64 4, .bool true, .int .u64 (N : Nat)]] w (DoesOut W b L Al cl) := by
  have HP := Lib.hid (pro_of w 4 true N)
  have HBK := Lib.hid hb
  have H := Lib.hid h
  have hrB : Hid (b.B ≤ w.heap.size) := h.sz
  have hlt : Hid (b.p < b.B ∧ b.x < b.B ∧ b.T < b.B ∧ b.c < b.B ∧ b.d < b.B ∧ b.p ≠ b.x ∧ b.p ≠ b.T ∧ b.x ≠ b.T ∧ b.p ≠ b.c ∧ b.p ≠ b.d ∧ b.x ≠ b.d) := by
    obtain ⟨i0, i1, i2, i3, i4, i5, i6, i7, i8, i9, i10, i11, i12, isg⟩ := hb
    simp only [Hid]; omega
  obtain ⟨Mx, cx, My, cy, hx, hy, hxy⟩ := h.rxy
  have HX := Lib.hid hx
  have HY := Lib.hid hy
  have HXY := Lib.hid hxy
  clear h hb hx hy hxy
  go_enter Try.func32, Try.ntmps32
  go_upto_region 5 with fail
  generalize ((w.alloc (.cells #[.int .i64 4, .bool true, .int .u64 (N : Nat)] 80)).alloc (.cells #[.int .u64 0, .int .u64 0] 25)).alloc (.cells #[.int .u64 0, .int .u64 0] 25) = w3 at HP ⊢
  generalize hr : w.heap.size = r at HP hrB ⊢
  have HRR : Hid (w.heap.size ≤ r ∧ r ≤ w.heap.size) := ⟨Nat.le_of_eq hr, Nat.le_of_eq hr.symm⟩
  clear hr
  have y0 := (H.out.ot.chg HP.out.chg (by omega)).cell 1 rfl
  have y1 := HP.out.op.cell 1 rfl
  have l0 := HP.out.hi
  go_wp2_with fail
  refine (wipe_any b.p b.c _ _ w3 (H.out.op.chg HP.out.chg (by omega))).mono ?_
  rintro e w4 ⟨rfl, g4, _, o4⟩
  have HO4 := Lib.hid o4
  have A4 : Hid (Ob w4 (r + 1) [.int .u64 0, .int .u64 0]) := HP.out.oa.kept g4 (by have := hlt.out; have := hrB.out; simp; omega)
  have B4 : Hid (Ob w4 (r + 1 + 1) [.int .u64 0, .int .u64 0]) := HP.out.ob.kept g4 (by have := hlt.out; have := hrB.out; simp; omega)
  have C4 : Hid (Chg (fun k => k = b.p) w w4) := ((HP.out.chg.mono (fun k hk => by omega)).grown g4 (fun j e => by cases e; exact .inl rfl))
  have R4 : Hid (Rp w4 b.x b.d b.B Mx cx v.pm v.pn) := HX.out.chg C4.out (by have := hlt.out; omega) (fun j hj _ _ => by have := hlt.out; omega)
  have y0 := ((H.out.ot.chg HP.out.chg (by omega)).kept g4 (by have := hlt.out; simp; omega)).cell 6 rfl
  clear g4 o4 y1 l0
  go_wp2_with fail
  refine (refWipe_any b.x _ _ w4 R4.out.ob).mono ?_
  rintro e w5 ⟨rfl, g5, _, o5⟩
  have A5 : Hid (Ob w5 (r + 1) [.int .u64 0, .int .u64 0]) := A4.out.kept g5 (by have := hlt.out; have := hrB.out; simp; omega)
  have B5 : Hid (Ob w5 (r + 1 + 1) [.int .u64 0, .int .u64 0]) := B4.out.kept g5 (by have := hlt.out; have := hrB.out; simp; omega)
  have hf := H.out.finX HBK.out (m' := 0) (n' := 0) (by omega) (M := Mx) (cc := cx) (M' := none) (c' := 0) ⟨My, cy, HX.out, HY.out, HXY.out⟩ ((C4.out.mono (fun k e => .inl e)).grown g5 (fun j e => by cases e; exact .inl (.inr (.inl rfl)))) (HO4.out.kept g5 (by have := hlt.out; simp; omega)) ⟨o5, World.ownsRow_nil _ _ _ _, HX.out.xB⟩ (fun j e => by cases e)
  have HF := Lib.hid hf
  clear hf g5 o5 y0
  have b0 := B5.out.cell 0 rfl
  have b1 := B5.out.cell 1 rfl
  have a0 := A5.out.cell 0 rfl
  have a1 := A5.out.cell 1 rfl
  go_wp2
  go_ret
  exact ⟨_, rfl, HF.out⟩
set_option maxRecDepth 100000 in
set_option maxHeartbeats 1600000 in
theorem does4f (W : World) (b : Bk) (L : List (Nat × Nat)) (Al : Option Addr) (cl : Nat) (w : World) (v : Vs) (N : Nat) (h : Sr W b L Al cl w v) (hb : b.Ok W) :
    Calls Try.prog 32 #[P0 b.T, .agg #[.int .i64 4, .bool false, .int .u64 (N : Nat)]] w (DoesOut W b L Al cl) := by
  have HP := Lib.hid (pro_of w 4 false N)
  have HBK := Lib.hid hb
  have H := Lib.hid h
  have hrB : Hid (b.B ≤ w.heap.size) := h.sz
  have hlt : Hid (b.q < b.B ∧ b.y < b.B ∧ b.T < b.B ∧ b.c < b.B ∧ b.d < b.B ∧ b.q ≠ b.y ∧ b.q ≠ b.T ∧ b.y ≠ b.T ∧ b.q ≠ b.c ∧ b.q ≠ b.d ∧ b.y ≠ b.d) := by
    obtain ⟨i0, i1, i2, i3, i4, i5, i6, i7, i8, i9, i10, i11, i12, isg⟩ := hb
    simp only [Hid]; omega
  obtain ⟨Mx, cx, My, cy, hx, hy, hxy⟩ := h.rxy
  have HX := Lib.hid hx
  have HY := Lib.hid hy
  have HXY := Lib.hid hxy
  clear h hb hx hy hxy
  go_enter Try.func32, Try.ntmps32
  go_upto_region 5 with fail
  generalize ((w.alloc (.cells #[.int .i64 4, .bool false, .int .u64 (N : Nat)] 80)).alloc (.cells #[.int .u64 0, .int .u64 0] 25)).alloc (.cells #[.int .u64 0, .int .u64 0] 25) = w3 at HP ⊢
  generalize hr : w.heap.size = r at HP hrB ⊢
  have HRR : Hid (w.heap.size ≤ r ∧ r ≤ w.heap.size) := ⟨Nat.le_of_eq hr, Nat.le_of_eq hr.symm⟩
  clear hr
  have y0 := (H.out.ot.chg HP.out.chg (by omega)).cell 2 rfl
  have y1 := HP.out.op.cell 1 rfl
  have l0 := HP.out.hi
  go_wp2_with fail
  refine (wipe_any b.q b.c _ _ w3 (H.out.oq.chg HP.out.chg (by omega))).mono ?_
  rintro e w4 ⟨rfl, g4, _, o4⟩
  have HO4 := Lib.hid o4
  have A4 : Hid (Ob w4 (r + 1) [.int .u64 0, .int .u64 0]) := HP.out.oa.kept g4 (by have := hlt.out; have := hrB.out; simp; omega)
  have B4 : Hid (Ob w4 (r + 1 + 1) [.int .u64 0, .int .u64 0]) := HP.out.ob.kept g4 (by have := hlt.out; have := hrB.out; simp; omega)
  have C4 : Hid (Chg (fun k => k = b.q) w w4) := ((HP.out.chg.mono (fun k hk => by omega)).grown g4 (fun j e => by cases e; exact .inl rfl))
  have R4 : Hid (Rp w4 b.y b.d b.B My cy v.qm v.qn) := HY.out.chg C4.out (by have := hlt.out; omega) (fun j hj _ _ => by have := hlt.out; omega)
  have y0 := ((H.out.ot.chg HP.out.chg (by omega)).kept g4 (by have := hlt.out; simp; omega)).cell 7 rfl
  clear g4 o4 y1 l0
  go_wp2_with fail
  refine (refWipe_any b.y _ _ w4 R4.out.ob).mono ?_
  rintro e w5 ⟨rfl, g5, _, o5⟩
  have A5 : Hid (Ob w5 (r + 1) [.int .u64 0, .int .u64 0]) := A4.out.kept g5 (by have := hlt.out; have := hrB.out; simp; omega)
  have B5 : Hid (Ob w5 (r + 1 + 1) [.int .u64 0, .int .u64 0]) := B4.out.kept g5 (by have := hlt.out; have := hrB.out; simp; omega)
  have hf := H.out.finY HBK.out (m' := 0) (n' := 0) (by omega) (M := My) (cc := cy) (M' := none) (c' := 0) ⟨Mx, cx, HY.out, HX.out, fun j e1 e2 => HXY.out j e2 e1⟩ ((C4.out.mono (fun k e => .inl e)).grown g5 (fun j e => by cases e; exact .inl (.inr (.inl rfl)))) (HO4.out.kept g5 (by have := hlt.out; simp; omega)) ⟨o5, World.ownsRow_nil _ _ _ _, HY.out.xB⟩ (fun j e => by cases e)
  have HF := Lib.hid hf
  clear hf g5 o5 y0
  have b0 := B5.out.cell 0 rfl
  have b1 := B5.out.cell 1 rfl
  have a0 := A5.out.cell 0 rfl
  have a1 := A5.out.cell 1 rfl
  go_wp2
  go_ret
  exact ⟨_, rfl, HF.out⟩
set_option maxRecDepth 100000 in
set_option maxHeartbeats 1600000 in
theorem doesN (W : World) (b : Bk) (L : List (Nat × Nat)) (Al : Option Addr) (cl : Nat) (w : World) (v : Vs) (k : Int) (who : Bool) (N : Nat) (h0 : k ≠ 0) (h1 : k ≠ 1) (h2 : k ≠ 2) (h3 : k ≠ 3) (h4 : k ≠ 4) (h5 : k ≠ 5) (h6 : k ≠ 6) (h7 : k ≠ 7) (h : Sr W b L Al cl w v) (hb : b.Ok W) :
    Calls Try.prog 32 #[P0 b.T, .agg #[.int .i64 k, .bool who, .int .u64 (N : Nat)]] w (DoesOut W b L Al cl) := by
  have HP := Lib.hid (pro_of w k who N)
  have HBK := Lib.hid hb
  have H := Lib.hid h
  have hrB : Hid (b.B ≤ w.heap.size) := h.sz
  clear h hb
  have e0 : (k == 0) = false := beq_eq_false_iff_ne.2 h0
  have e1 : (k == 1) = false := beq_eq_false_iff_ne.2 h1
  have e2 : (k == 2) = false := beq_eq_false_iff_ne.2 h2
  have e3 : (k == 3) = false := beq_eq_false_iff_ne.2 h3
  have e4 : (k == 4) = false := beq_eq_false_iff_ne.2 h4
  have e5 : (k == 5) = false := beq_eq_false_iff_ne.2 h5
  have e6 : (k == 6) = false := beq_eq_false_iff_ne.2 h6
  have e7 : (k == 7) = false := beq_eq_false_iff_ne.2 h7
  clear h0 h1 h2 h3 h4 h5 h6 h7
  go_enter Try.func32, Try.ntmps32
  go_upto_region 5 with fail
  generalize ((w.alloc (.cells #[.int .i64 k, .bool who, .int .u64 (N : Nat)] 80)).alloc (.cells #[.int .u64 0, .int .u64 0] 25)).alloc (.cells #[.int .u64 0, .int .u64 0] 25) = w3 at HP ⊢
  generalize hr : w.heap.size = r at HP hrB ⊢
  have HRR : Hid (w.heap.size ≤ r ∧ r ≤ w.heap.size) := ⟨Nat.le_of_eq hr, Nat.le_of_eq hr.symm⟩
  clear hr
  have l0 := HP.out.hi
  have b0 := HP.out.ob.cell 0 rfl
  have b1 := HP.out.ob.cell 1 rfl
  have a0 := HP.out.oa.cell 0 rfl
  have a1 := HP.out.oa.cell 1 rfl
  have HF := Lib.hid (H.out.fin0 HBK.out HP.out.chg)
  go_wp2
  go_ret
  exact ⟨_, rfl, HF.out⟩
set_option maxRecDepth 100000 in
set_option maxHeartbeats 1600000 in
theorem does7 (W : World) (b : Bk) (L : List (Nat × Nat)) (Al : Option Addr) (cl : Nat) (w : World) (v : Vs) (who : Bool) (N : Nat) (HLB : (L.length : Int) ≤ 9223372036854775807) (h : Sr W b L Al cl w v) (hb : b.Ok W) :
    Calls Try.prog 32 #[P0 b.T, .agg #[.int .i64 7, .bool who, .int .u64 (N : Nat)]] w (DoesOut W b L Al cl) := by
  have HP := Lib.hid (pro_of w 7 who N)
  have HBK := Lib.hid hb
  have H := Lib.hid h
  have hrB : Hid (b.B ≤ w.heap.size) := h.sz
  clear h hb
  go_enter Try.func32, Try.ntmps32
  go_upto_region 5 with fail
  generalize ((w.alloc (.cells #[.int .i64 7, .bool who, .int .u64 (N : Nat)] 80)).alloc (.cells #[.int .u64 0, .int .u64 0] 25)).alloc (.cells #[.int .u64 0, .int .u64 0] 25) = w3 at HP ⊢
  generalize hr : w.heap.size = r at HP hrB ⊢
  have HRR : Hid (w.heap.size ≤ r ∧ r ≤ w.heap.size) := ⟨Nat.le_of_eq hr, Nat.le_of_eq hr.symm⟩
  clear hr
  have l0 := HP.out.hi
  have HF := Lib.hid (H.out.fin0 HBK.out HP.out.chg)
  obtain ⟨As, cs, hs⟩ := HF.out.ss
  have Q : Hid (∀ nq, Calls Try.prog 35 #[P0 b.s] (w3.drewN nq) fun e w' => e = .returned (.int .i64 ((L.drop v.k).length : Nat)) ∧ w' = w3.drewN nq) := fun nq =>
    (streamLeft_any b.s b.g As cs (L.drop v.k) (w3.drewN nq) (hs.kept (grown_drewN (World.grownBy.refl _ none) nq) (by simp) (fun _ _ => by simp))).mono fun e w' h => ⟨h.1, h.2.symm⟩
  have hll : (L.drop v.k).length = L.length - v.k := List.length_drop
  rw [hll] at Q
  have hLB : (L.length : Int) ≤ 9223372036854775807 := HLB
  have hkL := H.out.hk
  have hw : IntKind.i64.wrap ((L.length : Int) - (v.k : Int)) = ((L.length - v.k : Nat) : Int) := by rw [IntKind.wrap_i64]; omega
  have y0 := HF.out.ot.cell 4 rfl
  have y1 := HF.out.ot.cell 9 rfl
  have y2 := HF.out.ot.cell 10 rfl
  clear hs hll hkL hLB
  go_wp2_with fail
  go_quiet ((go_at_call 35; (with_reducible exact Calls.quiet_of_same (Q.out _))))
  have HF2 := Lib.hid (HF.out.grow HBK.out (grown_drewN (World.grownBy.refl _ none) nq))
  go_wp2
  go_ret
  exact ⟨_, rfl, HF2.out⟩
set_option maxRecDepth 100000 in
set_option maxHeartbeats 1600000 in
theorem does2 (W : World) (b : Bk) (L : List (Nat × Nat)) (Al : Option Addr) (cl : Nat) (w : World) (v : Vs) (who : Bool) (N : Nat) (h : Sr W b L Al cl w v) (hb : b.Ok W) :
    Calls Try.prog 32 #[P0 b.T, .agg #[.int .i64 2, .bool who, .int .u64 (N : Nat)]] w (DoesOut W b L Al cl) := by
  have HP := Lib.hid (pro_of w 2 who N)
  have HBK := Lib.hid hb
  have H := Lib.hid h
  have hrB : Hid (b.B ≤ w.heap.size) := h.sz
  clear h hb
  go_enter Try.func32, Try.ntmps32
  go_upto_region 5 with fail
  generalize ((w.alloc (.cells #[.int .i64 2, .bool who, .int .u64 (N : Nat)] 80)).alloc (.cells #[.int .u64 0, .int .u64 0] 25)).alloc (.cells #[.int .u64 0, .int .u64 0] 25) = w3 at HP ⊢
  generalize hr : w.heap.size = r at HP hrB ⊢
  have HRR : Hid (w.heap.size ≤ r ∧ r ≤ w.heap.size) := ⟨Nat.le_of_eq hr, Nat.le_of_eq hr.symm⟩
  clear hr
  have l0 := HP.out.hi
  have HF := Lib.hid (H.out.fin0 HBK.out HP.out.chg)
  have Q : Hid (∀ nq, Calls Try.prog 21 #[P0 b.c] (w3.drewN nq) fun e w' => e = .returned (.int .u64 (v.a : Nat)) ∧ w' = w3.drewN nq) := fun nq =>
    (now_any b.c (v.a : Nat) (w3.drewN nq) (HF.out.oc.cell 0 rfl)).mono fun e w' h => ⟨h.1, h.2.symm⟩
  have y0 := HF.out.ot.cell 0 rfl
  have y1 := HF.out.ot.cell 1 rfl
  have y2 := HF.out.ot.cell 2 rfl
  have y5 := HF.out.ot.cell 5 rfl
  have p0 := HF.out.op.cell 0 rfl
  have q0 := HF.out.oq.cell 0 rfl
  have d0 := HF.out.od.cell 0 rfl
  go_wp2_with fail
  go_quiet ((go_at_call 21; (with_reducible exact Calls.quiet_of_same (Q.out _))))
  have HF2 := Lib.hid (HF.out.grow HBK.out (grown_drewN (World.grownBy.refl _ none) nq))
  go_wp2
  go_ret
  exact ⟨_, rfl, HF2.out⟩
end Go.Proofs.Ytgbjfmokfkdglaa
