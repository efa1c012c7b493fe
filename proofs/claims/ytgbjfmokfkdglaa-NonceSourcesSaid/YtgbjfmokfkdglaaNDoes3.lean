/-
  The walk of 'does' at the kinds 3 and 4.
-/
import Derived.Test.YtgbjfmokfkdglaaNDoes
set_option linter.unusedVariables false
set_option linter.unusedSimpArgs false
namespace Go.Proofs.Ytgbjfmokfkdglaa
open Go.RowKit

set_option maxRecDepth 100000 in
set_option maxHeartbeats 1600000 in
theorem does3t (W : World) (b : Bk) (L : List (Nat × Nat)) (Al : Option Addr) (cl : Nat) (w : World) (v : Vs) (N : Nat) (h : Sr W b L Al cl w v) (hb : b.Ok W) :
    Calls Try.prog 32 #[P0 b.T, .agg #[.int .i64 3, .bool true, .int .u64 (N : Nat)]] w (DoesOut W b L Al cl) := by
  have HP := Lib.hid (pro_of w 3 true N)
  have HBK := Lib.hid hb
  have H := Lib.hid h
  have hrB : Hid (b.B ≤ w.heap.size) := h.sz
  have hlt : Hid (b.p < b.B ∧ b.x < b.B ∧ b.T < b.B ∧ b.c < b.B ∧ b.d < b.B ∧ b.p ≠ b.x ∧ b.p ≠ b.T ∧ b.x ≠ b.T ∧ b.p ≠ b.c ∧ b.p ≠ b.d ∧ b.x ≠ b.d) := by
    obtain ⟨i0, i1, i2, i3, i4, i5, i6, i7, i8, i9, i10, i11, i12, isg⟩ := hb
    simp only [Hid]; omega
  obtain ⟨Mx, cx, My, cy, hx, hy, hxy⟩ := h.rxy
  have HX := Lib.hid hx
  have HY := Lib.hid hy
  have HXY := Lib.hid hxy
  clear h hb hx hy hxy
  go_enter Try.func32, Try.ntmps32
  go_upto_region 5 with fail
  generalize ((w.alloc (.cells #[.int .i64 3, .bool true, .int .u64 (N : Nat)] 80)).alloc (.cells #[.int .u64 0, .int .u64 0] 25)).alloc (.cells #[.int .u64 0, .int .u64 0] 25) = w3 at HP ⊢
  generalize hr : w.heap.size = r at HP hrB ⊢
  have HRR : Hid (w.heap.size ≤ r ∧ r ≤ w.heap.size) := ⟨Nat.le_of_eq hr, Nat.le_of_eq hr.symm⟩
  clear hr
  have y0 := (H.out.ot.chg HP.out.chg (by omega)).cell 1 rfl
  have y1 := HP.out.op.cell 1 rfl
  have l0 := HP.out.hi
  go_wp2_with fail
  obtain ⟨⟨d1, d2, d3, d4⟩, hpd⟩ : ∃ pd, pDraw v.a v.pm v.pn = pd := ⟨_, rfl⟩
  have HPD := Lib.hid hpd
  have F := draw_any b.p b.c v.a v.pm v.pn w3 (H.out.oc.chg HP.out.chg (by omega)) (H.out.op.chg HP.out.chg (by omega)) (by have := hlt.out; omega) H.out.hp
  rw [hpd] at F
  refine F.mono ?_
  clear F hpd
  rintro e w4 ⟨rfl, g4, o4⟩
  have HO4 := Lib.hid o4
  have A4 : Hid (Ob w4 (r + 1) [.int .u64 0, .int .u64 0]) := HP.out.oa.kept g4 (by have := hlt.out; have := hrB.out; simp; omega)
  have B4 : Hid (Ob w4 (r + 1 + 1) [.int .u64 0, .int .u64 0]) := HP.out.ob.kept g4 (by have := hlt.out; have := hrB.out; simp; omega)
  have T4 : Hid (Ob w4 b.T _) := (H.out.ot.chg HP.out.chg (by omega)).kept g4 (by have := hlt.out; simp; omega)
  have C4 : Hid (Chg (fun k => k = b.p) w w4) := ((HP.out.chg.mono (fun k hk => by omega)).grown g4 (fun j e => by cases e; exact .inl rfl))
  clear g4 o4 y0 l0 y1
  have a0 := A4.out.cell 0 rfl
  have a1 := A4.out.cell 1 rfl
  have af0 := A4.out.fr 0 (by simp)
  have af1 := A4.out.fr 1 (by simp)
  have lt4 : r + 1 + 1 < w4.heap.size := B4.out.lt (by simp)
  go_upto_region 18 with fail
  have A5 := Lib.hid (two_set A4.out (.int .u64 (d1 : Nat)) (.int .u64 (d2 : Nat)))
  generalize (w4.setCell ⟨r + 1, 0, none⟩ (.int .u64 (d1 : Nat))).setCell ⟨r + 1, 1, none⟩ (.int .u64 (d2 : Nat)) = w5 at A5 ⊢
  have B5 : Hid (Ob w5 (r + 1 + 1) [.int .u64 0, .int .u64 0]) := B4.out.kept A5.out.2 (by simp)
  have y0 := (T4.out.kept A5.out.2 (by have := hlt.out; have := hrB.out; simp; omega)).cell 6 rfl
  have O5 : Hid (Ob w5 b.p [P0 b.c, .int .u64 (v.a : Nat), .int .u64 (d4 : Nat)]) := HO4.out.kept A5.out.2 (by have := hlt.out; have := hrB.out; simp; omega)
  have C5 : Hid (Chg (fun k => k = b.p) w w5) := C4.out.grown A5.out.2 (fun j e => by cases e; have := HRR.out; exact .inr (by omega))
  have R5 : Hid (Rp w5 b.x b.d b.B Mx cx v.pm v.pn) := HX.out.chg C5.out (by have := hlt.out; omega) (fun j hj _ _ => by have := hlt.out; omega)
  have D5 : Hid (Ob w5 b.d [.int .u64 (v.a : Nat)]) := H.out.od.chg C5.out (by have := hlt.out; omega)
  clear a0 a1 af0 af1 lt4
  have F := Lib.hid (refDraw_any v.a b.d b.x b.B Mx cx v.pm v.pn w5 R5.out D5.out H.out.hp (Nat.le_trans H.out.sz C5.out.size) (by have := hlt.out; omega) (by have := hlt.out; omega))
  go_wp2_with fail
  refine F.out.mono ?_
  clear F
  rintro e w6 ⟨M6, c6, rfl, hr6, hc6, hn6⟩
  rw [HPD.out] at hr6 hn6 ⊢
  have hML : ∀ j, (Value.slice Mx v.pn cx).ownBlock = some j → j < w.heap.size := fun j e => (HX.out.own.lt j e).2
  have hMB : ∀ j, (Value.slice Mx v.pn cx).ownBlock = some j → b.B ≤ j := fun j e => (HX.out.own.lt j e).1
  have hS6 : ∀ k, k ≠ b.x → (k < b.B ∨ w.heap.size ≤ k) → ¬ (k = b.x ∨ (Value.slice Mx v.pn cx).ownBlock = some k) := fun k h1 h2 e => by
    rcases e with e | e
    · exact h1 e
    · have := hML k e; have := hMB k e; omega
  have HR6 := Lib.hid hr6
  have HN6 := Lib.hid hn6
  have O6 : Hid (Ob w6 b.p [P0 b.c, .int .u64 (v.a : Nat), .int .u64 (d4 : Nat)]) := O5.out.chg hc6 (hS6 _ (by have := hlt.out; omega) (by have := hlt.out; omega))
  have A6 : Hid (Ob w6 (r + 1) [.int .u64 (d1 : Nat), .int .u64 (d2 : Nat)]) := A5.out.1.chg hc6 (hS6 _ (by have := hlt.out; have := hrB.out; omega) (by have := HRR.out; omega))
  have B6 : Hid (Ob w6 (r + 1 + 1) [.int .u64 0, .int .u64 0]) := B5.out.chg hc6 (hS6 _ (by have := hlt.out; have := hrB.out; omega) (by have := HRR.out; omega))
  have C6 : Hid (Chg (fun k => k = b.p ∨ k = b.x ∨ (Value.slice Mx v.pn cx).ownBlock = some k) w w6) := (C5.out.mono (fun k e => .inl e)).trans (hc6.mono (fun k e => .inl (.inr e)))
  have S56 : Hid (w.heap.size ≤ w5.heap.size) := C5.out.size
  clear hr6 hn6 hc6 y0 hS6 hML hMB
  have b0 := B6.out.cell 0 rfl
  have b1 := B6.out.cell 1 rfl
  have bf0 := B6.out.fr 0 (by simp)
  have bf1 := B6.out.fr 1 (by simp)
  have a0 := A6.out.cell 0 rfl
  have a1 := A6.out.cell 1 rfl
  have lt6 : r + 1 + 1 < w6.heap.size := B6.out.lt (by simp)
  go_upto_region 39 with fail
  have B7 := Lib.hid (two_set B6.out (.int .u64 (d1 : Nat)) (.int .u64 (d2 : Nat)))
  generalize (w6.setCell ⟨r + 1 + 1, 0, none⟩ (.int .u64 (d1 : Nat))).setCell ⟨r + 1 + 1, 1, none⟩ (.int .u64 (d2 : Nat)) = w7 at B7 ⊢
  clear b0 b1 bf0 bf1 a0 a1 lt6
  have A7 : Hid (Ob w7 (r + 1) [.int .u64 (d1 : Nat), .int .u64 (d2 : Nat)]) := A6.out.kept B7.out.2 (by simp)
  have b0 := B7.out.1.cell 0 rfl
  have b1 := B7.out.1.cell 1 rfl
  have a0 := A7.out.cell 0 rfl
  have a1 := A7.out.cell 1 rfl
  have hd4 : d4 ≤ 65535 := by
    have := pDraw_le v.a v.pm v.pn H.out.hp
    rw [HPD.out] at this
    exact this
  have hrow : ∀ j, (Value.slice M6 d4 c6).ownBlock = some j → j ≠ r + 1 + 1 := fun j e e2 => by
    rcases HN6.out j e with h1 | h1
    · have := (HX.out.own.lt j h1).2; have := HRR.out; omega
    · have := (B5.out.lt (by simp)); omega
  have hr7 : Rp w7 b.x b.d b.B M6 c6 v.a d4 := HR6.out.chg (chg_grown B7.out.2) (by have := hlt.out; have := hrB.out; omega) (fun j _ _ e => hrow j e)
  have hf := H.out.finX HBK.out hd4 (M := Mx) (cc := cx) ⟨My, cy, HX.out, HY.out, HXY.out⟩ (C6.out.grown B7.out.2 (fun j e => by cases e; have := HRR.out; exact .inr (by omega))) (O6.out.kept B7.out.2 (by have := hlt.out; have := hrB.out; simp; omega)) hr7 (fun j e => by
    rcases HN6.out j e with h1 | h1
    · exact .inl h1
    · exact .inr (by have := S56.out; omega))
  have HF := Lib.hid hf
  clear hf hrow hr7 hd4
  go_wp2
  go_ret
  exact ⟨_, rfl, HF.out⟩
set_option maxRecDepth 100000 in
set_option maxHeartbeats 1600000 in
theorem does3f (W : World) (b : Bk) (L : List (Nat × Nat)) (Al : Option Addr) (cl : Nat) (w : World) (v : Vs) (N : Nat) (h : Sr W b L Al cl w v) (hb : b.Ok W) :
    Calls Try.prog 32 #[P0 b.T, .agg #[.int .i64 3, .bool false, .int .u64 (N : Nat)]] w (DoesOut W b L Al cl) := by
  have HP := Lib.hid (pro_of w 3 false N)
  have HBK := Lib.hid hb
  have H := Lib.hid h
  have hrB : Hid (b.B ≤ w.heap.size) := h.sz
  have hlt : Hid (b.q < b.B ∧ b.y < b.B ∧ b.T < b.B ∧ b.c < b.B ∧ b.d < b.B ∧ b.q ≠ b.y ∧ b.q ≠ b.T ∧ b.y ≠ b.T ∧ b.q ≠ b.c ∧ b.q ≠ b.d ∧ b.y ≠ b.d) := by
    obtain ⟨i0, i1, i2, i3, i4, i5, i6, i7, i8, i9, i10, i11, i12, isg⟩ := hb
    simp only [Hid]; omega
  obtain ⟨Mx, cx, My, cy, hx, hy, hxy⟩ := h.rxy
  have HX := Lib.hid hx
  have HY := Lib.hid hy
  have HXY := Lib.hid hxy
  clear h hb hx hy hxy
  go_enter Try.func32, Try.ntmps32
  go_upto_region 5 with fail
  generalize ((w.alloc (.cells #[.int .i64 3, .bool false, .int .u64 (N : Nat)] 80)).alloc (.cells #[.int .u64 0, .int .u64 0] 25)).alloc (.cells #[.int .u64 0, .int .u64 0] 25) = w3 at HP ⊢
  generalize hr : w.heap.size = r at HP hrB ⊢
  have HRR : Hid (w.heap.size ≤ r ∧ r ≤ w.heap.size) := ⟨Nat.le_of_eq hr, Nat.le_of_eq hr.symm⟩
  clear hr
  have y0 := (H.out.ot.chg HP.out.chg (by omega)).cell 2 rfl
  have y1 := HP.out.op.cell 1 rfl
  have l0 := HP.out.hi
  go_wp2_with fail
  obtain ⟨⟨d1, d2, d3, d4⟩, hpd⟩ : ∃ pd, pDraw v.a v.qm v.qn = pd := ⟨_, rfl⟩
  have HPD := Lib.hid hpd
  have F := draw_any b.q b.c v.a v.qm v.qn w3 (H.out.oc.chg HP.out.chg (by omega)) (H.out.oq.chg HP.out.chg (by omega)) (by have := hlt.out; omega) H.out.hq
  rw [hpd] at F
  refine F.mono ?_
  clear F hpd
  rintro e w4 ⟨rfl, g4, o4⟩
  have HO4 := Lib.hid o4
  have A4 : Hid (Ob w4 (r + 1) [.int .u64 0, .int .u64 0]) := HP.out.oa.kept g4 (by have := hlt.out; have := hrB.out; simp; omega)
  have B4 : Hid (Ob w4 (r + 1 + 1) [.int .u64 0, .int .u64 0]) := HP.out.ob.kept g4 (by have := hlt.out; have := hrB.out; simp; omega)
  have T4 : Hid (Ob w4 b.T _) := (H.out.ot.chg HP.out.chg (by omega)).kept g4 (by have := hlt.out; simp; omega)
  have C4 : Hid (Chg (fun k => k = b.q) w w4) := ((HP.out.chg.mono (fun k hk => by omega)).grown g4 (fun j e => by cases e; exact .inl rfl))
  clear g4 o4 y0 l0 y1
  have a0 := A4.out.cell 0 rfl
  have a1 := A4.out.cell 1 rfl
  have af0 := A4.out.fr 0 (by simp)
  have af1 := A4.out.fr 1 (by simp)
  have lt4 : r + 1 + 1 < w4.heap.size := B4.out.lt (by simp)
  go_upto_region 20 with fail
  have A5 := Lib.hid (two_set A4.out (.int .u64 (d1 : Nat)) (.int .u64 (d2 : Nat)))
  generalize (w4.setCell ⟨r + 1, 0, none⟩ (.int .u64 (d1 : Nat))).setCell ⟨r + 1, 1, none⟩ (.int .u64 (d2 : Nat)) = w5 at A5 ⊢
  have B5 : Hid (Ob w5 (r + 1 + 1) [.int .u64 0, .int .u64 0]) := B4.out.kept A5.out.2 (by simp)
  have y0 := (T4.out.kept A5.out.2 (by have := hlt.out; have := hrB.out; simp; omega)).cell 7 rfl
  have O5 : Hid (Ob w5 b.q [P0 b.c, .int .u64 (v.a : Nat), .int .u64 (d4 : Nat)]) := HO4.out.kept A5.out.2 (by have := hlt.out; have := hrB.out; simp; omega)
  have C5 : Hid (Chg (fun k => k = b.q) w w5) := C4.out.grown A5.out.2 (fun j e => by cases e; have := HRR.out; exact .inr (by omega))
  have R5 : Hid (Rp w5 b.y b.d b.B My cy v.qm v.qn) := HY.out.chg C5.out (by have := hlt.out; omega) (fun j hj _ _ => by have := hlt.out; omega)
  have D5 : Hid (Ob w5 b.d [.int .u64 (v.a : Nat)]) := H.out.od.chg C5.out (by have := hlt.out; omega)
  clear a0 a1 af0 af1 lt4
  have F := Lib.hid (refDraw_any v.a b.d b.y b.B My cy v.qm v.qn w5 R5.out D5.out H.out.hq (Nat.le_trans H.out.sz C5.out.size) (by have := hlt.out; omega) (by have := hlt.out; omega))
  go_wp2_with fail
  refine F.out.mono ?_
  clear F
  rintro e w6 ⟨M6, c6, rfl, hr6, hc6, hn6⟩
  rw [HPD.out] at hr6 hn6 ⊢
  have hML : ∀ j, (Value.slice My v.qn cy).ownBlock = some j → j < w.heap.size := fun j e => (HY.out.own.lt j e).2
  have hMB : ∀ j, (Value.slice My v.qn cy).ownBlock = some j → b.B ≤ j := fun j e => (HY.out.own.lt j e).1
  have hS6 : ∀ k, k ≠ b.y → (k < b.B ∨ w.heap.size ≤ k) → ¬ (k = b.y ∨ (Value.slice My v.qn cy).ownBlock = some k) := fun k h1 h2 e => by
    rcases e with e | e
    · exact h1 e
    · have := hML k e; have := hMB k e; omega
  have HR6 := Lib.hid hr6
  have HN6 := Lib.hid hn6
  have O6 : Hid (Ob w6 b.q [P0 b.c, .int .u64 (v.a : Nat), .int .u64 (d4 : Nat)]) := O5.out.chg hc6 (hS6 _ (by have := hlt.out; omega) (by have := hlt.out; omega))
  have A6 : Hid (Ob w6 (r + 1) [.int .u64 (d1 : Nat), .int .u64 (d2 : Nat)]) := A5.out.1.chg hc6 (hS6 _ (by have := hlt.out; have := hrB.out; omega) (by have := HRR.out; omega))
  have B6 : Hid (Ob w6 (r + 1 + 1) [.int .u64 0, .int .u64 0]) := B5.out.chg hc6 (hS6 _ (by have := hlt.out; have := hrB.out; omega) (by have := HRR.out; omega))
  have C6 : Hid (Chg (fun k => k = b.q ∨ k = b.y ∨ (Value.slice My v.qn cy).ownBlock = some k) w w6) := (C5.out.mono (fun k e => .inl e)).trans (hc6.mono (fun k e => .inl (.inr e)))
  have S56 : Hid (w.heap.size ≤ w5.heap.size) := C5.out.size
  clear hr6 hn6 hc6 y0 hS6 hML hMB
  have b0 := B6.out.cell 0 rfl
  have b1 := B6.out.cell 1 rfl
  have bf0 := B6.out.fr 0 (by simp)
  have bf1 := B6.out.fr 1 (by simp)
  have a0 := A6.out.cell 0 rfl
  have a1 := A6.out.cell 1 rfl
  have lt6 : r + 1 + 1 < w6.heap.size := B6.out.lt (by simp)
  go_upto_region 39 with fail
  have B7 := Lib.hid (two_set B6.out (.int .u64 (d1 : Nat)) (.int .u64 (d2 : Nat)))
  generalize (w6.setCell ⟨r + 1 + 1, 0, none⟩ (.int .u64 (d1 : Nat))).setCell ⟨r + 1 + 1, 1, none⟩ (.int .u64 (d2 : Nat)) = w7 at B7 ⊢
  clear b0 b1 bf0 bf1 a0 a1 lt6
  have A7 : Hid (Ob w7 (r + 1) [.int .u64 (d1 : Nat), .int .u64 (d2 : Nat)]) := A6.out.kept B7.out.2 (by simp)
  have b0 := B7.out.1.cell 0 rfl
  have b1 := B7.out.1.cell 1 rfl
  have a0 := A7.out.cell 0 rfl
  have a1 := A7.out.cell 1 rfl
  have hd4 : d4 ≤ 65535 := by
    have := pDraw_le v.a v.qm v.qn H.out.hq
    rw [HPD.out] at this
    exact this
  have hrow : ∀ j, (Value.slice M6 d4 c6).ownBlock = some j → j ≠ r + 1 + 1 := fun j e e2 => by
    rcases HN6.out j e with h1 | h1
    · have := (HY.out.own.lt j h1).2; have := HRR.out; omega
    · have := (B5.out.lt (by simp)); omega
  have hr7 : Rp w7 b.y b.d b.B M6 c6 v.a d4 := HR6.out.chg (chg_grown B7.out.2) (by have := hlt.out; have := hrB.out; omega) (fun j _ _ e => hrow j e)
  have hf := H.out.finY HBK.out hd4 (M := My) (cc := cy) ⟨Mx, cx, HY.out, HX.out, fun j e1 e2 => HXY.out j e2 e1⟩ (C6.out.grown B7.out.2 (fun j e => by cases e; have := HRR.out; exact .inr (by omega))) (O6.out.kept B7.out.2 (by have := hlt.out; have := hrB.out; simp; omega)) hr7 (fun j e => by
    rcases HN6.out j e with h1 | h1
    · exact .inl h1
    · exact .inr (by have := S56.out; omega))
  have HF := Lib.hid hf
  clear hf hrow hr7 hd4
  go_wp2
  go_ret
  exact ⟨_, rfl, HF.out⟩
end Go.Proofs.Ytgbjfmokfkdglaa
