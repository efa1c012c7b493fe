/-
  The walk of 'does', kind by kind.
-/
import Derived.Test.YtgbjfmokfkdglaaNFin
set_option linter.unusedVariables false
set_option linter.unusedSimpArgs false
namespace Go.Proofs.Ytgbjfmokfkdglaa
open Go.RowKit

def DoesOut (W : World) (b : Bk) (L : List (Nat × Nat)) (Al : Option Addr) (cl : Nat) (e : Ending) (w' : World) : Prop := ∃ v', e = .returned (.bool true) ∧ Sr W b L Al cl w' v'
structure Pro (w w3 : World) (r : Nat) (kind : Int) (who : Bool) (N : Nat) : Prop where
  chg : Chg (fun k => k < 0) w w3
  op : Ob w3 r [.int .i64 kind, .bool who, .int .u64 (N : Nat)]
  oa : Ob w3 (r + 1) [.int .u64 0, .int .u64 0]
  ob : Ob w3 (r + 1 + 1) [.int .u64 0, .int .u64 0]
  hi : r + 1 + 1 < w3.heap.size
theorem pro_of (w : World) (kind : Int) (who : Bool) (N : Nat) : Pro w (((w.alloc (.cells #[.int .i64 kind, .bool who, .int .u64 (N : Nat)] 80)).alloc (.cells #[.int .u64 0, .int .u64 0] 25)).alloc (.cells #[.int .u64 0, .int .u64 0] 25)) w.heap.size kind who N := by
  refine ⟨?_, ?_, ?_, ?_, ?_⟩
  · exact (((Chg.refl _ w).grown (World.grownBy_alloc _ _ none) (fun j e => by cases e)).grown (World.grownBy_alloc _ _ none) (fun j e => by cases e)).grown (World.grownBy_alloc _ _ none) (fun j e => by cases e)
  · exact ((Ob.fresh w _ _).alloc _).alloc _
  · have := Ob.fresh (w.alloc (.cells #[.int .i64 kind, .bool who, .int .u64 (N : Nat)] 80)) #[.int .u64 0, .int .u64 0] 25
    rw [World.size_alloc] at this
    exact this.alloc _
  · have := Ob.fresh ((w.alloc (.cells #[.int .i64 kind, .bool who, .int .u64 (N : Nat)] 80)).alloc (.cells #[.int .u64 0, .int .u64 0] 25)) #[.int .u64 0, .int .u64 0] 25
    rw [World.size_alloc, World.size_alloc] at this
    exact this
  · simp
/-- two cells stored -/
theorem two_set {w : World} {r : Nat} {x y : Value} (h : Ob w r [x, y]) (u v : Value) : Ob ((w.setCell ⟨r, 0, none⟩ u).setCell ⟨r, 1, none⟩ v) r [u, v] ∧ w.grownBy ((w.setCell ⟨r, 0, none⟩ u).setCell ⟨r, 1, none⟩ v) (some r) :=
  ⟨(h.set 0 (by simp) u).set 1 (by simp) v, gb_set (gb_set (World.grownBy.refl _ _) _ _ (.inl rfl)) _ _ (.inl rfl)⟩
set_option maxRecDepth 100000 in
set_option maxHeartbeats 1600000 in
theorem does5 (W : World) (b : Bk) (L : List (Nat × Nat)) (Al : Option Addr) (cl : Nat) (w : World) (v : Vs) (who : Bool) (N : Nat) (h : Sr W b L Al cl w v) (hb : b.Ok W) :
    Calls Try.prog 32 #[P0 b.T, .agg #[.int .i64 5, .bool who, .int .u64 (N : Nat)]] w (DoesOut W b L Al cl) := by
  have HP := Lib.hid (pro_of w 5 who N)
  have HBK := Lib.hid hb
  have H := Lib.hid h
  have hrB : Hid (b.B ≤ w.heap.size) := h.sz
  have hlt : Hid (b.m < b.B ∧ b.z < b.B ∧ b.T < b.B ∧ b.m ≠ b.z ∧ b.m ≠ b.T ∧ b.z ≠ b.T) := by
    obtain ⟨i0, i1, i2, i3, i4, i5, i6, i7, i8, i9, i10, i11, i12, isg⟩ := hb
    simp only [Hid]; omega
  clear h hb
  go_enter Try.func32, Try.ntmps32
  go_upto_region 5 with fail
  generalize ((w.alloc (.cells #[.int .i64 5, .bool who, .int .u64 (N : Nat)] 80)).alloc (.cells #[.int .u64 0, .int .u64 0] 25)).alloc (.cells #[.int .u64 0, .int .u64 0] 25) = w3 at HP ⊢
  generalize hr : w.heap.size = r at HP hrB ⊢
  have HRR : Hid (w.heap.size ≤ r ∧ r ≤ w.heap.size) := ⟨Nat.le_of_eq hr, Nat.le_of_eq hr.symm⟩
  clear hr
  have y0 := (H.out.ot.chg HP.out.chg (by omega)).cell 3 rfl
  have l0 := HP.out.hi
  go_wp2_with fail
  refine (mixed_any b.m v.ms w3 (H.out.om.chg HP.out.chg (by omega))).mono ?_
  obtain ⟨u1, hu1⟩ : ∃ u, mMix (mS v.ms) = u := ⟨_, rfl⟩
  obtain ⟨u2, hu2⟩ : ∃ u, mMix (mS (mS v.ms)) = u := ⟨_, rfl⟩
  have HU := Lib.hid (And.intro hu1 hu2)
  rw [hu1, hu2]
  clear hu1 hu2
  rintro e w4 ⟨rfl, g4, o4⟩
  have HG4 := Lib.hid g4
  have HO4 := Lib.hid o4
  have A4 : Hid (Ob w4 (r + 1) [.int .u64 0, .int .u64 0]) := HP.out.oa.kept g4 (by have := hlt.out; have := hrB.out; simp; omega)
  have B4 : Hid (Ob w4 (r + 1 + 1) [.int .u64 0, .int .u64 0]) := HP.out.ob.kept g4 (by have := hlt.out; have := hrB.out; simp; omega)
  have T4 : Hid (Ob w4 b.T _) := (H.out.ot.chg HP.out.chg (by omega)).kept g4 (by have := hlt.out; simp; omega)
  have M4 : Hid (Ob w4 b.z [.int .u64 v.ms]) := (H.out.oz.chg HP.out.chg (by omega)).kept g4 (by have := hlt.out; simp; omega)
  have C4 : Hid (Chg (fun k => k = b.m ∨ k = b.z) w w4) := ((HP.out.chg.mono (fun k hk => by omega)).grown g4 (fun j e => by cases e; exact .inl (.inl rfl)))
  clear g4 o4 y0 l0
  have a0 := A4.out.cell 0 rfl
  have a1 := A4.out.cell 1 rfl
  have af0 := A4.out.fr 0 (by simp)
  have af1 := A4.out.fr 1 (by simp)
  have lt4 : r + 1 + 1 < w4.heap.size := B4.out.lt (by simp)
  go_upto_region 29 with fail
  have A5 := Lib.hid (two_set A4.out (.int .u64 u1) (.int .u64 u2))
  generalize (w4.setCell ⟨r + 1, 0, none⟩ (.int .u64 u1)).setCell ⟨r + 1, 1, none⟩ (.int .u64 u2) = w5 at A5 ⊢
  have B5 : Hid (Ob w5 (r + 1 + 1) [.int .u64 0, .int .u64 0]) := B4.out.kept A5.out.2 (by simp)
  have y0 := (T4.out.kept A5.out.2 (by have := hlt.out; have := hrB.out; simp; omega)).cell 8 rfl
  have M5 : Hid (Ob w5 b.z [.int .u64 v.ms]) := M4.out.kept A5.out.2 (by have := hlt.out; have := hrB.out; simp; omega)
  have O5 : Hid (Ob w5 b.m [.int .u64 (mS (mS v.ms))]) := HO4.out.kept A5.out.2 (by have := hlt.out; have := hrB.out; simp; omega)
  have C5 : Hid (Chg (fun k => k = b.m ∨ k = b.z) w w5) := C4.out.grown A5.out.2 (fun j e => by cases e; have := HRR.out; exact .inr (by omega))
  clear a0 a1 af0 af1 lt4
  go_wp2_with fail
  have F := refMixed_any b.z v.ms w5 M5.out
  rw [HU.out.1, HU.out.2] at F
  refine F.mono ?_
  clear F
  rintro e w6 ⟨rfl, g6, o6⟩
  have HO6 := Lib.hid o6
  have O6 : Hid (Ob w6 b.m [.int .u64 (mS (mS v.ms))]) := O5.out.kept g6 (by have := hlt.out; simp; omega)
  have A6 : Hid (Ob w6 (r + 1) [.int .u64 u1, .int .u64 u2]) := A5.out.1.kept g6 (by have := hlt.out; have := hrB.out; simp; omega)
  have B6 : Hid (Ob w6 (r + 1 + 1) [.int .u64 0, .int .u64 0]) := B5.out.kept g6 (by have := hlt.out; have := hrB.out; simp; omega)
  have C6 : Hid (Chg (fun k => k = b.m ∨ k = b.z) w w6) := C5.out.grown g6 (fun j e => by cases e; exact .inl (.inr rfl))
  clear g6 o6 y0
  have b0 := B6.out.cell 0 rfl
  have b1 := B6.out.cell 1 rfl
  have bf0 := B6.out.fr 0 (by simp)
  have bf1 := B6.out.fr 1 (by simp)
  have a0 := A6.out.cell 0 rfl
  have a1 := A6.out.cell 1 rfl
  have lt6 : r + 1 + 1 < w6.heap.size := B6.out.lt (by simp)
  go_upto_region 39 with fail
  have B7 := Lib.hid (two_set B6.out (.int .u64 u1) (.int .u64 u2))
  generalize (w6.setCell ⟨r + 1 + 1, 0, none⟩ (.int .u64 u1)).setCell ⟨r + 1 + 1, 1, none⟩ (.int .u64 u2) = w7 at B7 ⊢
  clear b0 b1 bf0 bf1 a0 a1 lt6
  have A7 : Hid (Ob w7 (r + 1) [.int .u64 u1, .int .u64 u2]) := A6.out.kept B7.out.2 (by simp)
  have b0 := B7.out.1.cell 0 rfl
  have b1 := B7.out.1.cell 1 rfl
  have a0 := A7.out.cell 0 rfl
  have a1 := A7.out.cell 1 rfl
  have hf := H.out.finM HBK.out (C6.out.grown B7.out.2 (fun j e => by cases e; have := HRR.out; exact .inr (by omega))) (O6.out.kept B7.out.2 (by have := hlt.out; have := hrB.out; simp; omega)) (HO6.out.kept B7.out.2 (by have := hlt.out; have := hrB.out; simp; omega))
  have HF := Lib.hid hf
  clear hf
  go_wp2
  go_ret
  exact ⟨_, rfl, HF.out⟩
end Go.Proofs.Ytgbjfmokfkdglaa
