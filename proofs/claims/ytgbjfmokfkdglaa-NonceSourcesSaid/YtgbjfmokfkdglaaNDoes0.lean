/-
  The walk of 'does' at the kinds 0 and 1.
-/
import Derived.Test.YtgbjfmokfkdglaaNDoes
import Derived.Deep.RegionHeld3
set_option linter.unusedVariables false
set_option linter.unusedSimpArgs false
namespace Go.Proofs.Ytgbjfmokfkdglaa
open Go.RowKit

/-- the state between the two clocks' calls -/
structure Cs (b : Bk) (L : List (Nat × Nat)) (Al : Option Addr) (cl : Nat) (v : Vs) (kind : Int) (who : Bool) (N r : Nat) (w0 w' : World) (uc ud : Nat) : Prop where
  chg : Chg (fun k => k = b.c ∨ k = b.d) w0 w'
  oc : Ob w' b.c [.int .u64 (uc : Nat)]
  od : Ob w' b.d [.int .u64 (ud : Nat)]
  op : Ob w' r [.int .i64 kind, .bool who, .int .u64 (N : Nat)]
  oa : Ob w' (r + 1) [.int .u64 0, .int .u64 0]
  ob : Ob w' (r + 1 + 1) [.int .u64 0, .int .u64 0]
  ot : Ob w' b.T [P0 b.c, P0 b.p, P0 b.q, P0 b.m, P0 b.s, P0 b.d, P0 b.x, P0 b.y, P0 b.z, .slice Al L.length cl, .int .i64 (v.k : Nat)]
  opp : Ob w' b.p [P0 b.c, .int .u64 (v.pm : Nat), .int .u64 (v.pn : Nat)]
  oqq : Ob w' b.q [P0 b.c, .int .u64 (v.qm : Nat), .int .u64 (v.qn : Nat)]
theorem Cs.onC {b : Bk} {W : World} {L : List (Nat × Nat)} {Al : Option Addr} {cl : Nat} {v : Vs} {kind : Int} {who : Bool} {N r : Nat} {w0 w' w'' : World} {uc ud : Nat} (h : Cs b L Al cl v kind who N r w0 w' uc ud) (hb : b.Ok W) (hr : b.B ≤ r) {u : Nat} (g : w'.grownBy w'' (some b.c)) (o : Ob w'' b.c [.int .u64 (u : Nat)]) : Cs b L Al cl v kind who N r w0 w'' u ud := by
  obtain ⟨i0, i1, i2, i3, i4, i5, i6, i7, i8, i9, i10, i11, i12, isg⟩ := hb
  exact ⟨h.chg.grown g (fun j e => by cases e; exact .inl (.inl rfl)), o, h.od.kept g (by simp; omega), h.op.kept g (by simp; omega), h.oa.kept g (by simp; omega), h.ob.kept g (by simp; omega), h.ot.kept g (by simp; omega), h.opp.kept g (by simp; omega), h.oqq.kept g (by simp; omega)⟩
theorem Cs.onD {b : Bk} {W : World} {L : List (Nat × Nat)} {Al : Option Addr} {cl : Nat} {v : Vs} {kind : Int} {who : Bool} {N r : Nat} {w0 w' w'' : World} {uc ud : Nat} (h : Cs b L Al cl v kind who N r w0 w' uc ud) (hb : b.Ok W) (hr : b.B ≤ r) {u : Nat} (g : w'.grownBy w'' (some b.d)) (o : Ob w'' b.d [.int .u64 (u : Nat)]) : Cs b L Al cl v kind who N r w0 w'' uc u := by
  obtain ⟨i0, i1, i2, i3, i4, i5, i6, i7, i8, i9, i10, i11, i12, isg⟩ := hb
  exact ⟨h.chg.grown g (fun j e => by cases e; exact .inl (.inr rfl)), h.oc.kept g (by simp; omega), o, h.op.kept g (by simp; omega), h.oa.kept g (by simp; omega), h.ob.kept g (by simp; omega), h.ot.kept g (by simp; omega), h.opp.kept g (by simp; omega), h.oqq.kept g (by simp; omega)⟩
theorem Cs.drew {b : Bk} {L : List (Nat × Nat)} {Al : Option Addr} {cl : Nat} {v : Vs} {kind : Int} {who : Bool} {N r : Nat} {w0 w' : World} {uc ud : Nat} (h : Cs b L Al cl v kind who N r w0 w' uc ud) : Cs b L Al cl v kind who N r w0 w'.drew uc ud :=
  ⟨h.chg.grown (grown_drewN (World.grownBy.refl _ none) 1) (fun j e => by cases e), h.oc.drewN 1, h.od.drewN 1, h.op.drewN 1, h.oa.drewN 1, h.ob.drewN 1, h.ot.drewN 1, h.opp.drewN 1, h.oqq.drewN 1⟩
theorem Sr.finCs {W : World} {b : Bk} {L : List (Nat × Nat)} {Al : Option Addr} {cl : Nat} {w w' : World} {v : Vs} (h : Sr W b L Al cl w v) (hb : b.Ok W) {kind : Int} {who : Bool} {N r a' : Nat} (ha' : a' < 18446744073709551616) (hc : Cs b L Al cl v kind who N r w w' a' a') : Sr W b L Al cl w' { v with a := a' } :=
  h.finC hb hc.chg ha' hc.oc hc.od
theorem cSet_lt (a b : Nat) (ha : a < 18446744073709551616) (hb : b < 18446744073709551616) : (cSet a b).2 < 18446744073709551616 := by
  unfold cSet; split <;> assumption

set_option maxRecDepth 100000 in
set_option maxHeartbeats 1600000 in
theorem does0t (W : World) (b : Bk) (L : List (Nat × Nat)) (Al : Option Addr) (cl : Nat) (w : World) (v : Vs) (N : Nat) (hN : N < 18446744073709551616) (h : Sr W b L Al cl w v) (hb : b.Ok W) :
    Calls Try.prog 32 #[P0 b.T, .agg #[.int .i64 0, .bool true, .int .u64 (N : Nat)]] w (DoesOut W b L Al cl) := by
  have HP := Lib.hid (pro_of w 0 true N)
  have HBK := Lib.hid hb
  have H := Lib.hid h
  have HN := Lib.hid hN
  have HA := Lib.hid h.ha
  have hrB : Hid (b.B ≤ w.heap.size) := h.sz
  clear h hb hN
  go_enter Try.func32, Try.ntmps32
  go_upto_region 5 with fail
  generalize ((w.alloc (.cells #[.int .i64 0, .bool true, .int .u64 (N : Nat)] 80)).alloc (.cells #[.int .u64 0, .int .u64 0] 25)).alloc (.cells #[.int .u64 0, .int .u64 0] 25) = w3 at HP ⊢
  generalize hr : w.heap.size = r at HP hrB ⊢
  clear hr
  have S3 : Hid (Cs b L Al cl v 0 true N r w w3 v.a v.a) := by
    have hc := HP.out.chg
    obtain ⟨i0, i1, i2, i3, i4, i5, i6, i7, i8, i9, i10, i11, i12, isg⟩ := HBK.out
    exact ⟨hc.mono (fun k hk => by omega), H.out.oc.chg hc (by omega), H.out.od.chg hc (by omega), HP.out.op, HP.out.oa, HP.out.ob, H.out.ot.chg hc (by omega), H.out.op.chg hc (by omega), H.out.oq.chg hc (by omega)⟩
  have FR : Hid (∀ W' uc ud, Hid (Cs b L Al cl v 0 true N r w W' uc ud) → Hid (uc = v.a) → Calls Try.prog 45 #[.pointer (some ⟨b.c, 0, none⟩), .int .u64 (N : Nat)] W' fun e w' => e = .returned (.int .i64 ((cSet v.a N).1 : Nat)) ∧ (w'.cell? ⟨b.T, 1, none⟩ = some (P0 b.p) ∧ w'.cell? ⟨b.T, 5, none⟩ = some (P0 b.d) ∧ w'.cell? ⟨r, 2, none⟩ = some (.int .u64 (N : Nat)) ∧ w'.cell? ⟨b.p, 0, none⟩ = some (P0 b.c)) ∧ Hid (Cs b L Al cl v 0 true N r w w' (cSet v.a N).2 ud)) := by
    intro W' uc ud h e
    have e' := e.out
    subst e'
    refine (clockSet_any b.c v.a N W' h.out.oc).mono ?_
    rintro e w' ⟨h1, h2, _, h4⟩
    have h3 := h.out.onC HBK.out hrB.out h2 h4
    exact ⟨h1, ⟨h3.ot.cell 1 rfl, h3.ot.cell 5 rfl, h3.op.cell 2 rfl, h3.opp.cell 0 rfl⟩, h3⟩
  have FQ : Hid (∀ W' uc ud, Hid (Cs b L Al cl v 0 true N r w W' uc ud) → Hid (ud = v.a) → Calls Try.prog 50 #[.pointer (some ⟨b.d, 0, none⟩), .int .u64 (N : Nat)] W' fun e w' => e = .returned (.int .i64 ((cSet v.a N).1 : Nat)) ∧ (w'.cell? ⟨b.T, 1, none⟩ = some (P0 b.p) ∧ w'.cell? ⟨b.T, 5, none⟩ = some (P0 b.d) ∧ w'.cell? ⟨r, 2, none⟩ = some (.int .u64 (N : Nat)) ∧ w'.cell? ⟨b.p, 0, none⟩ = some (P0 b.c)) ∧ Hid (Cs b L Al cl v 0 true N r w w' uc (cSet v.a N).2)) := by
    intro W' uc ud h e
    have e' := e.out
    subst e'
    refine (refSet_any b.d v.a N W' h.out.od).mono ?_
    rintro e w' ⟨h1, h2, _, h4⟩
    have h3 := h.out.onD HBK.out hrB.out h2 h4
    exact ⟨h1, ⟨h3.ot.cell 1 rfl, h3.ot.cell 5 rfl, h3.op.cell 2 rfl, h3.opp.cell 0 rfl⟩, h3⟩
  have HLT : Hid ((cSet v.a N).2 < 18446744073709551616) := cSet_lt _ _ HA.out HN.out
  generalize (cSet v.a N).1 = u1 at FR FQ
  generalize (cSet v.a N).2 = u2 at FR FQ HLT
  have c0 := S3.out.ot.cell 1 rfl
  have c5 := S3.out.ot.cell 5 rfl
  have r1 := S3.out.op.cell 1 rfl
  have r2 := S3.out.op.cell 2 rfl
  have p0 := S3.out.opp.cell 0 rfl
  have S0 : Hid (Cs b L Al cl v 0 true N r w w3.drew v.a v.a) := S3.out.drew
  have lr : r + 1 + 1 < w3.heap.size := HP.out.hi
  have u1r : ((u1 : Nat) : Int) == (u1 : Nat) := beq_self_eq_true _
  clear HP
  go_wp2_with fail
  go_region_held3 (fun x => x.cell? ⟨b.T, 1, none⟩ = some (P0 b.p) ∧ x.cell? ⟨b.T, 5, none⟩ = some (P0 b.d) ∧ x.cell? ⟨r, 2, none⟩ = some (.int .u64 (N : Nat)) ∧ x.cell? ⟨b.p, 0, none⟩ = some (P0 b.c)) (first | exact ⟨S0.out.ot.cell 1 rfl, S0.out.ot.cell 5 rfl, S0.out.op.cell 2 rfl, S0.out.opp.cell 0 rfl⟩ | assumption | go_keep)
    (first | (go_at_call 45; first | (refine (FR.out _ _ _ S0 (Lib.hid rfl)).mono ?_; rintro e w5 ⟨rfl, hx5, S5⟩) | (refine (FR.out _ _ _ S6 (Lib.hid rfl)).mono ?_; rintro e w5 ⟨rfl, hx5, S5⟩)) | (go_at_call 50; first | (refine (FQ.out _ _ _ S0 (Lib.hid rfl)).mono ?_; rintro e w6 ⟨rfl, hx6, S6⟩) | (refine (FQ.out _ _ _ S5 (Lib.hid rfl)).mono ?_; rintro e w6 ⟨rfl, hx6, S6⟩)))
  all_goals
    clear hx5 hx6
    first
      | (have SL : Hid (Cs b L Al cl v 0 true N r w w6 u2 u2) := S6
         have b0 := SL.out.ob.cell 0 rfl
         have b1 := SL.out.ob.cell 1 rfl
         have a0 := SL.out.oa.cell 0 rfl
         have a1 := SL.out.oa.cell 1 rfl
         have HF := Lib.hid (H.out.finCs HBK.out HLT.out SL.out)
         go_wp2
         go_ret
         exact ⟨_, rfl, HF.out⟩)
      | (have SL : Hid (Cs b L Al cl v 0 true N r w w5 u2 u2) := S5
         have b0 := SL.out.ob.cell 0 rfl
         have b1 := SL.out.ob.cell 1 rfl
         have a0 := SL.out.oa.cell 0 rfl
         have a1 := SL.out.oa.cell 1 rfl
         have HF := Lib.hid (H.out.finCs HBK.out HLT.out SL.out)
         go_wp2
         go_ret
         exact ⟨_, rfl, HF.out⟩)
set_option maxRecDepth 100000 in
set_option maxHeartbeats 1600000 in
theorem does0f (W : World) (b : Bk) (L : List (Nat × Nat)) (Al : Option Addr) (cl : Nat) (w : World) (v : Vs) (N : Nat) (hN : N < 18446744073709551616) (h : Sr W b L Al cl w v) (hb : b.Ok W) :
    Calls Try.prog 32 #[P0 b.T, .agg #[.int .i64 0, .bool false, .int .u64 (N : Nat)]] w (DoesOut W b L Al cl) := by
  have HP := Lib.hid (pro_of w 0 false N)
  have HBK := Lib.hid hb
  have H := Lib.hid h
  have HN := Lib.hid hN
  have HA := Lib.hid h.ha
  have hrB : Hid (b.B ≤ w.heap.size) := h.sz
  clear h hb hN
  go_enter Try.func32, Try.ntmps32
  go_upto_region 5 with fail
  generalize ((w.alloc (.cells #[.int .i64 0, .bool false, .int .u64 (N : Nat)] 80)).alloc (.cells #[.int .u64 0, .int .u64 0] 25)).alloc (.cells #[.int .u64 0, .int .u64 0] 25) = w3 at HP ⊢
  generalize hr : w.heap.size = r at HP hrB ⊢
  clear hr
  have S3 : Hid (Cs b L Al cl v 0 false N r w w3 v.a v.a) := by
    have hc := HP.out.chg
    obtain ⟨i0, i1, i2, i3, i4, i5, i6, i7, i8, i9, i10, i11, i12, isg⟩ := HBK.out
    exact ⟨hc.mono (fun k hk => by omega), H.out.oc.chg hc (by omega), H.out.od.chg hc (by omega), HP.out.op, HP.out.oa, HP.out.ob, H.out.ot.chg hc (by omega), H.out.op.chg hc (by omega), H.out.oq.chg hc (by omega)⟩
  have FR : Hid (∀ W' uc ud, Hid (Cs b L Al cl v 0 false N r w W' uc ud) → Hid (uc = v.a) → Calls Try.prog 45 #[.pointer (some ⟨b.c, 0, none⟩), .int .u64 (N : Nat)] W' fun e w' => e = .returned (.int .i64 ((cSet v.a N).1 : Nat)) ∧ (w'.cell? ⟨b.T, 0, none⟩ = some (P0 b.c) ∧ w'.cell? ⟨b.T, 5, none⟩ = some (P0 b.d) ∧ w'.cell? ⟨r, 2, none⟩ = some (.int .u64 (N : Nat))) ∧ Hid (Cs b L Al cl v 0 false N r w w' (cSet v.a N).2 ud)) := by
    intro W' uc ud h e
    have e' := e.out
    subst e'
    refine (clockSet_any b.c v.a N W' h.out.oc).mono ?_
    rintro e w' ⟨h1, h2, _, h4⟩
    have h3 := h.out.onC HBK.out hrB.out h2 h4
    exact ⟨h1, ⟨h3.ot.cell 0 rfl, h3.ot.cell 5 rfl, h3.op.cell 2 rfl⟩, h3⟩
  have FQ : Hid (∀ W' uc ud, Hid (Cs b L Al cl v 0 false N r w W' uc ud) → Hid (ud = v.a) → Calls Try.prog 50 #[.pointer (some ⟨b.d, 0, none⟩), .int .u64 (N : Nat)] W' fun e w' => e = .returned (.int .i64 ((cSet v.a N).1 : Nat)) ∧ (w'.cell? ⟨b.T, 0, none⟩ = some (P0 b.c) ∧ w'.cell? ⟨b.T, 5, none⟩ = some (P0 b.d) ∧ w'.cell? ⟨r, 2, none⟩ = some (.int .u64 (N : Nat))) ∧ Hid (Cs b L Al cl v 0 false N r w w' uc (cSet v.a N).2)) := by
    intro W' uc ud h e
    have e' := e.out
    subst e'
    refine (refSet_any b.d v.a N W' h.out.od).mono ?_
    rintro e w' ⟨h1, h2, _, h4⟩
    have h3 := h.out.onD HBK.out hrB.out h2 h4
    exact ⟨h1, ⟨h3.ot.cell 0 rfl, h3.ot.cell 5 rfl, h3.op.cell 2 rfl⟩, h3⟩
  have HLT : Hid ((cSet v.a N).2 < 18446744073709551616) := cSet_lt _ _ HA.out HN.out
  generalize (cSet v.a N).1 = u1 at FR FQ
  generalize (cSet v.a N).2 = u2 at FR FQ HLT
  have c0 := S3.out.ot.cell 0 rfl
  have c5 := S3.out.ot.cell 5 rfl
  have r1 := S3.out.op.cell 1 rfl
  have r2 := S3.out.op.cell 2 rfl
  have S0 : Hid (Cs b L Al cl v 0 false N r w w3.drew v.a v.a) := S3.out.drew
  have lr : r + 1 + 1 < w3.heap.size := HP.out.hi
  have u1r : ((u1 : Nat) : Int) == (u1 : Nat) := beq_self_eq_true _
  clear HP
  go_wp2_with fail
  go_region_held3 (fun x => x.cell? ⟨b.T, 0, none⟩ = some (P0 b.c) ∧ x.cell? ⟨b.T, 5, none⟩ = some (P0 b.d) ∧ x.cell? ⟨r, 2, none⟩ = some (.int .u64 (N : Nat))) (first | exact ⟨S0.out.ot.cell 0 rfl, S0.out.ot.cell 5 rfl, S0.out.op.cell 2 rfl⟩ | assumption | go_keep)
    (first | (go_at_call 45; first | (refine (FR.out _ _ _ S0 (Lib.hid rfl)).mono ?_; rintro e w5 ⟨rfl, hx5, S5⟩) | (refine (FR.out _ _ _ S6 (Lib.hid rfl)).mono ?_; rintro e w5 ⟨rfl, hx5, S5⟩)) | (go_at_call 50; first | (refine (FQ.out _ _ _ S0 (Lib.hid rfl)).mono ?_; rintro e w6 ⟨rfl, hx6, S6⟩) | (refine (FQ.out _ _ _ S5 (Lib.hid rfl)).mono ?_; rintro e w6 ⟨rfl, hx6, S6⟩)))
  all_goals
    clear hx5 hx6
    first
      | (have SL : Hid (Cs b L Al cl v 0 false N r w w6 u2 u2) := S6
         have b0 := SL.out.ob.cell 0 rfl
         have b1 := SL.out.ob.cell 1 rfl
         have a0 := SL.out.oa.cell 0 rfl
         have a1 := SL.out.oa.cell 1 rfl
         have HF := Lib.hid (H.out.finCs HBK.out HLT.out SL.out)
         go_wp2
         go_ret
         exact ⟨_, rfl, HF.out⟩)
      | (have SL : Hid (Cs b L Al cl v 0 false N r w w5 u2 u2) := S5
         have b0 := SL.out.ob.cell 0 rfl
         have b1 := SL.out.ob.cell 1 rfl
         have a0 := SL.out.oa.cell 0 rfl
         have a1 := SL.out.oa.cell 1 rfl
         have HF := Lib.hid (H.out.finCs HBK.out HLT.out SL.out)
         go_wp2
         go_ret
         exact ⟨_, rfl, HF.out⟩)
set_option maxRecDepth 100000 in
set_option maxHeartbeats 1600000 in
theorem does1t (W : World) (b : Bk) (L : List (Nat × Nat)) (Al : Option Addr) (cl : Nat) (w : World) (v : Vs) (N : Nat) (hN : N < 18446744073709551616) (h : Sr W b L Al cl w v) (hb : b.Ok W) :
    Calls Try.prog 32 #[P0 b.T, .agg #[.int .i64 1, .bool true, .int .u64 (N : Nat)]] w (DoesOut W b L Al cl) := by
  have HP := Lib.hid (pro_of w 1 true N)
  have HBK := Lib.hid hb
  have H := Lib.hid h
  have HN := Lib.hid hN
  have HA := Lib.hid h.ha
  have hrB : Hid (b.B ≤ w.heap.size) := h.sz
  clear h hb hN
  go_enter Try.func32, Try.ntmps32
  go_upto_region 5 with fail
  generalize ((w.alloc (.cells #[.int .i64 1, .bool true, .int .u64 (N : Nat)] 80)).alloc (.cells #[.int .u64 0, .int .u64 0] 25)).alloc (.cells #[.int .u64 0, .int .u64 0] 25) = w3 at HP ⊢
  generalize hr : w.heap.size = r at HP hrB ⊢
  clear hr
  have S3 : Hid (Cs b L Al cl v 1 true N r w w3 v.a v.a) := by
    have hc := HP.out.chg
    obtain ⟨i0, i1, i2, i3, i4, i5, i6, i7, i8, i9, i10, i11, i12, isg⟩ := HBK.out
    exact ⟨hc.mono (fun k hk => by omega), H.out.oc.chg hc (by omega), H.out.od.chg hc (by omega), HP.out.op, HP.out.oa, HP.out.ob, H.out.ot.chg hc (by omega), H.out.op.chg hc (by omega), H.out.oq.chg hc (by omega)⟩
  have FR : Hid (∀ W' uc ud, Hid (Cs b L Al cl v 1 true N r w W' uc ud) → Hid (uc = v.a) → Calls Try.prog 18 #[.pointer (some ⟨b.c, 0, none⟩), .int .u64 (N : Nat)] W' fun e w' => e = .returned (.int .i64 ((cPass v.a N).1 : Nat)) ∧ (w'.cell? ⟨b.T, 2, none⟩ = some (P0 b.q) ∧ w'.cell? ⟨b.T, 5, none⟩ = some (P0 b.d) ∧ w'.cell? ⟨r, 2, none⟩ = some (.int .u64 (N : Nat)) ∧ w'.cell? ⟨b.q, 0, none⟩ = some (P0 b.c)) ∧ Hid (Cs b L Al cl v 1 true N r w w' (cPass v.a N).2 ud)) := by
    intro W' uc ud h e
    have e' := e.out
    subst e'
    refine (pass_any b.c v.a N W' h.out.oc HA.out HN.out).mono ?_
    rintro e w' ⟨h1, h2, _, h4⟩
    have h3 := h.out.onC HBK.out hrB.out h2 h4
    exact ⟨h1, ⟨h3.ot.cell 2 rfl, h3.ot.cell 5 rfl, h3.op.cell 2 rfl, h3.oqq.cell 0 rfl⟩, h3⟩
  have FQ : Hid (∀ W' uc ud, Hid (Cs b L Al cl v 1 true N r w W' uc ud) → Hid (ud = v.a) → Calls Try.prog 51 #[.pointer (some ⟨b.d, 0, none⟩), .int .u64 (N : Nat)] W' fun e w' => e = .returned (.int .i64 ((cPass v.a N).1 : Nat)) ∧ (w'.cell? ⟨b.T, 2, none⟩ = some (P0 b.q) ∧ w'.cell? ⟨b.T, 5, none⟩ = some (P0 b.d) ∧ w'.cell? ⟨r, 2, none⟩ = some (.int .u64 (N : Nat)) ∧ w'.cell? ⟨b.q, 0, none⟩ = some (P0 b.c)) ∧ Hid (Cs b L Al cl v 1 true N r w w' uc (cPass v.a N).2)) := by
    intro W' uc ud h e
    have e' := e.out
    subst e'
    refine (refPass_any b.d v.a N W' h.out.od HA.out HN.out).mono ?_
    rintro e w' ⟨h1, h2, _, h4⟩
    have h3 := h.out.onD HBK.out hrB.out h2 h4
    exact ⟨h1, ⟨h3.ot.cell 2 rfl, h3.ot.cell 5 rfl, h3.op.cell 2 rfl, h3.oqq.cell 0 rfl⟩, h3⟩
  have HLT : Hid ((cPass v.a N).2 < 18446744073709551616) := cPass_lt _ _ HA.out
  generalize (cPass v.a N).1 = u1 at FR FQ
  generalize (cPass v.a N).2 = u2 at FR FQ HLT
  have c0 := S3.out.ot.cell 2 rfl
  have c5 := S3.out.ot.cell 5 rfl
  have r1 := S3.out.op.cell 1 rfl
  have r2 := S3.out.op.cell 2 rfl
  have p0 := S3.out.oqq.cell 0 rfl
  have S0 : Hid (Cs b L Al cl v 1 true N r w w3.drew v.a v.a) := S3.out.drew
  have lr : r + 1 + 1 < w3.heap.size := HP.out.hi
  have u1r : ((u1 : Nat) : Int) == (u1 : Nat) := beq_self_eq_true _
  clear HP
  go_wp2_with fail
  go_region_held3 (fun x => x.cell? ⟨b.T, 2, none⟩ = some (P0 b.q) ∧ x.cell? ⟨b.T, 5, none⟩ = some (P0 b.d) ∧ x.cell? ⟨r, 2, none⟩ = some (.int .u64 (N : Nat)) ∧ x.cell? ⟨b.q, 0, none⟩ = some (P0 b.c)) (first | exact ⟨S0.out.ot.cell 2 rfl, S0.out.ot.cell 5 rfl, S0.out.op.cell 2 rfl, S0.out.oqq.cell 0 rfl⟩ | assumption | go_keep)
    (first | (go_at_call 18; first | (refine (FR.out _ _ _ S0 (Lib.hid rfl)).mono ?_; rintro e w5 ⟨rfl, hx5, S5⟩) | (refine (FR.out _ _ _ S6 (Lib.hid rfl)).mono ?_; rintro e w5 ⟨rfl, hx5, S5⟩)) | (go_at_call 51; first | (refine (FQ.out _ _ _ S0 (Lib.hid rfl)).mono ?_; rintro e w6 ⟨rfl, hx6, S6⟩) | (refine (FQ.out _ _ _ S5 (Lib.hid rfl)).mono ?_; rintro e w6 ⟨rfl, hx6, S6⟩)))
  all_goals
    clear hx5 hx6
    first
      | (have SL : Hid (Cs b L Al cl v 1 true N r w w6 u2 u2) := S6
         have b0 := SL.out.ob.cell 0 rfl
         have b1 := SL.out.ob.cell 1 rfl
         have a0 := SL.out.oa.cell 0 rfl
         have a1 := SL.out.oa.cell 1 rfl
         have HF := Lib.hid (H.out.finCs HBK.out HLT.out SL.out)
         go_wp2
         go_ret
         exact ⟨_, rfl, HF.out⟩)
      | (have SL : Hid (Cs b L Al cl v 1 true N r w w5 u2 u2) := S5
         have b0 := SL.out.ob.cell 0 rfl
         have b1 := SL.out.ob.cell 1 rfl
         have a0 := SL.out.oa.cell 0 rfl
         have a1 := SL.out.oa.cell 1 rfl
         have HF := Lib.hid (H.out.finCs HBK.out HLT.out SL.out)
         go_wp2
         go_ret
         exact ⟨_, rfl, HF.out⟩)
set_option maxRecDepth 100000 in
set_option maxHeartbeats 1600000 in
theorem does1f (W : World) (b : Bk) (L : List (Nat × Nat)) (Al : Option Addr) (cl : Nat) (w : World) (v : Vs) (N : Nat) (hN : N < 18446744073709551616) (h : Sr W b L Al cl w v) (hb : b.Ok W) :
    Calls Try.prog 32 #[P0 b.T, .agg #[.int .i64 1, .bool false, .int .u64 (N : Nat)]] w (DoesOut W b L Al cl) := by
  have HP := Lib.hid (pro_of w 1 false N)
  have HBK := Lib.hid hb
  have H := Lib.hid h
  have HN := Lib.hid hN
  have HA := Lib.hid h.ha
  have hrB : Hid (b.B ≤ w.heap.size) := h.sz
  clear h hb hN
  go_enter Try.func32, Try.ntmps32
  go_upto_region 5 with fail
  generalize ((w.alloc (.cells #[.int .i64 1, .bool false, .int .u64 (N : Nat)] 80)).alloc (.cells #[.int .u64 0, .int .u64 0] 25)).alloc (.cells #[.int .u64 0, .int .u64 0] 25) = w3 at HP ⊢
  generalize hr : w.heap.size = r at HP hrB ⊢
  clear hr
  have S3 : Hid (Cs b L Al cl v 1 false N r w w3 v.a v.a) := by
    have hc := HP.out.chg
    obtain ⟨i0, i1, i2, i3, i4, i5, i6, i7, i8, i9, i10, i11, i12, isg⟩ := HBK.out
    exact ⟨hc.mono (fun k hk => by omega), H.out.oc.chg hc (by omega), H.out.od.chg hc (by omega), HP.out.op, HP.out.oa, HP.out.ob, H.out.ot.chg hc (by omega), H.out.op.chg hc (by omega), H.out.oq.chg hc (by omega)⟩
  have FR : Hid (∀ W' uc ud, Hid (Cs b L Al cl v 1 false N r w W' uc ud) → Hid (uc = v.a) → Calls Try.prog 18 #[.pointer (some ⟨b.c, 0, none⟩), .int .u64 (N : Nat)] W' fun e w' => e = .returned (.int .i64 ((cPass v.a N).1 : Nat)) ∧ (w'.cell? ⟨b.T, 0, none⟩ = some (P0 b.c) ∧ w'.cell? ⟨b.T, 5, none⟩ = some (P0 b.d) ∧ w'.cell? ⟨r, 2, none⟩ = some (.int .u64 (N : Nat))) ∧ Hid (Cs b L Al cl v 1 false N r w w' (cPass v.a N).2 ud)) := by
    intro W' uc ud h e
    have e' := e.out
    subst e'
    refine (pass_any b.c v.a N W' h.out.oc HA.out HN.out).mono ?_
    rintro e w' ⟨h1, h2, _, h4⟩
    have h3 := h.out.onC HBK.out hrB.out h2 h4
    exact ⟨h1, ⟨h3.ot.cell 0 rfl, h3.ot.cell 5 rfl, h3.op.cell 2 rfl⟩, h3⟩
  have FQ : Hid (∀ W' uc ud, Hid (Cs b L Al cl v 1 false N r w W' uc ud) → Hid (ud = v.a) → Calls Try.prog 51 #[.pointer (some ⟨b.d, 0, none⟩), .int .u64 (N : Nat)] W' fun e w' => e = .returned (.int .i64 ((cPass v.a N).1 : Nat)) ∧ (w'.cell? ⟨b.T, 0, none⟩ = some (P0 b.c) ∧ w'.cell? ⟨b.T, 5, none⟩ = some (P0 b.d) ∧ w'.cell? ⟨r, 2, none⟩ = some (.int .u64 (N : Nat))) ∧ Hid (Cs b L Al cl v 1 false N r w w' uc (cPass v.a N).2)) := by
    intro W' uc ud h e
    have e' := e.out
    subst e'
    refine (refPass_any b.d v.a N W' h.out.od HA.out HN.out).mono ?_
    rintro e w' ⟨h1, h2, _, h4⟩
    have h3 := h.out.onD HBK.out hrB.out h2 h4
    exact ⟨h1, ⟨h3.ot.cell 0 rfl, h3.ot.cell 5 rfl, h3.op.cell 2 rfl⟩, h3⟩
  have HLT : Hid ((cPass v.a N).2 < 18446744073709551616) := cPass_lt _ _ HA.out
  generalize (cPass v.a N).1 = u1 at FR FQ
  generalize (cPass v.a N).2 = u2 at FR FQ HLT
  have c0 := S3.out.ot.cell 0 rfl
  have c5 := S3.out.ot.cell 5 rfl
  have r1 := S3.out.op.cell 1 rfl
  have r2 := S3.out.op.cell 2 rfl
  have S0 : Hid (Cs b L Al cl v 1 false N r w w3.drew v.a v.a) := S3.out.drew
  have lr : r + 1 + 1 < w3.heap.size := HP.out.hi
  have u1r : ((u1 : Nat) : Int) == (u1 : Nat) := beq_self_eq_true _
  clear HP
  go_wp2_with fail
  go_region_held3 (fun x => x.cell? ⟨b.T, 0, none⟩ = some (P0 b.c) ∧ x.cell? ⟨b.T, 5, none⟩ = some (P0 b.d) ∧ x.cell? ⟨r, 2, none⟩ = some (.int .u64 (N : Nat))) (first | exact ⟨S0.out.ot.cell 0 rfl, S0.out.ot.cell 5 rfl, S0.out.op.cell 2 rfl⟩ | assumption | go_keep)
    (first | (go_at_call 18; first | (refine (FR.out _ _ _ S0 (Lib.hid rfl)).mono ?_; rintro e w5 ⟨rfl, hx5, S5⟩) | (refine (FR.out _ _ _ S6 (Lib.hid rfl)).mono ?_; rintro e w5 ⟨rfl, hx5, S5⟩)) | (go_at_call 51; first | (refine (FQ.out _ _ _ S0 (Lib.hid rfl)).mono ?_; rintro e w6 ⟨rfl, hx6, S6⟩) | (refine (FQ.out _ _ _ S5 (Lib.hid rfl)).mono ?_; rintro e w6 ⟨rfl, hx6, S6⟩)))
  all_goals
    clear hx5 hx6
    first
      | (have SL : Hid (Cs b L Al cl v 1 false N r w w6 u2 u2) := S6
         have b0 := SL.out.ob.cell 0 rfl
         have b1 := SL.out.ob.cell 1 rfl
         have a0 := SL.out.oa.cell 0 rfl
         have a1 := SL.out.oa.cell 1 rfl
         have HF := Lib.hid (H.out.finCs HBK.out HLT.out SL.out)
         go_wp2
         go_ret
         exact ⟨_, rfl, HF.out⟩)
      | (have SL : Hid (Cs b L Al cl v 1 false N r w w5 u2 u2) := S5
         have b0 := SL.out.ob.cell 0 rfl
         have b1 := SL.out.ob.cell 1 rfl
         have a0 := SL.out.oa.cell 0 rfl
         have a1 := SL.out.oa.cell 1 rfl
         have HF := Lib.hid (H.out.finCs HBK.out HLT.out SL.out)
         go_wp2
         go_ret
         exact ⟨_, rfl, HF.out⟩)
end Go.Proofs.Ytgbjfmokfkdglaa
