/-
  The walk of 'does' at the kind 6.
-/
import Derived.Test.YtgbjfmokfkdglaaNDoes
set_option linter.unusedVariables false
set_option linter.unusedSimpArgs false
namespace Go.Proofs.Ytgbjfmokfkdglaa
open Go.RowKit

set_option maxRecDepth 100000 in
set_option maxHeartbeats 1600000 in
theorem does6 (W : World) (b : Bk) (L : List (Nat × Nat)) (Al : Option Addr) (cl : Nat) (w : World) (v : Vs) (who : Bool) (N : Nat) (HRL : RdC 2 dv W Al L.length L) (h : Sr W b L Al cl w v) (hb : b.Ok W) :
    Calls Try.prog 32 #[P0 b.T, .agg #[.int .i64 6, .bool who, .int .u64 (N : Nat)]] w (DoesOut W b L Al cl) := by
  have HP := Lib.hid (pro_of w 6 who N)
  have HBK := Lib.hid hb
  have H := Lib.hid h
  have hrB : Hid (b.B ≤ w.heap.size) := h.sz
  clear h hb
  go_enter Try.func32, Try.ntmps32
  go_upto_region 5 with fail
  generalize ((w.alloc (.cells #[.int .i64 6, .bool who, .int .u64 (N : Nat)] 80)).alloc (.cells #[.int .u64 0, .int .u64 0] 25)).alloc (.cells #[.int .u64 0, .int .u64 0] 25) = w3 at HP ⊢
  generalize hr : w.heap.size = r at HP hrB ⊢
  have HRR : Hid (w.heap.size ≤ r ∧ r ≤ w.heap.size) := ⟨Nat.le_of_eq hr, Nat.le_of_eq hr.symm⟩
  clear hr
  have l0 := HP.out.hi
  have hs := H.out.ss
  obtain ⟨As, cs, hs⟩ := hs
  have hlt : Hid (b.s < b.B ∧ b.g < b.B ∧ b.T < b.B ∧ b.s ≠ b.T ∧ b.g ≠ b.T) := by
    obtain ⟨i0, i1, i2, i3, i4, i5, i6, i7, i8, i9, i10, i11, i12, isg⟩ := HBK.out
    simp only [Hid]; omega
  have S3 : Hid (Ss w3 b.s b.g As cs (L.drop v.k)) := hs.chg HP.out.chg (by omega) (by omega)
  have T3 : Hid (Ob w3 b.T [P0 b.c, P0 b.p, P0 b.q, P0 b.m, P0 b.s, P0 b.d, P0 b.x, P0 b.y, P0 b.z, .slice Al L.length cl, .int .i64 (v.k : Nat)]) := H.out.ot.chg HP.out.chg (by omega)
  have HRLL := Lib.hid HRL
  clear hs HRL
  have y0 := T3.out.cell 4 rfl
  cases hd : L.drop v.k with
  | nil =>
    have hkl : v.k = L.length := by
      have h1 := congrArg List.length hd
      have h2 := H.out.hk
      simp at h1
      omega
    have S3' : Hid (Ss w3 b.s b.g As cs []) := hd ▸ S3.out
    have HKL : Hid (v.k ≤ L.length ∧ L.length ≤ v.k) := ⟨Nat.le_of_eq hkl, Nat.le_of_eq hkl.symm⟩
    clear hd hkl S3
    go_wp2_with fail
    refine (streamDraw_nil' b.s b.g As cs w3 S3'.out).mono ?_
    rintro e w4 ⟨rfl, hb4⟩
    have A4 : Hid (Ob w4 (r + 1) [.int .u64 0, .int .u64 0]) := HP.out.oa.below hb4
    have B4 : Hid (Ob w4 (r + 1 + 1) [.int .u64 0, .int .u64 0]) := HP.out.ob.below hb4
    have T4 := Lib.hid (T3.out.below hb4)
    have C4 : Hid (Chg (fun k => k < 0) w w4) := HP.out.chg.grown (grown_of_below hb4 none) (fun j e => by cases e)
    clear hb4 y0 l0
    have a0 := A4.out.cell 0 rfl
    have a1 := A4.out.cell 1 rfl
    have af0 := A4.out.fr 0 (by simp)
    have af1 := A4.out.fr 1 (by simp)
    have lt4 : r + 1 + 1 < w4.heap.size := B4.out.lt (by simp)
    go_upto_region 33 with fail
    have A5 := Lib.hid (two_set A4.out (.int .u64 0) (.int .u64 0))
    generalize (w4.setCell ⟨r + 1, 0, none⟩ (.int .u64 0)).setCell ⟨r + 1, 1, none⟩ (.int .u64 0) = w5 at A5 ⊢
    clear a0 a1 af0 af1 lt4
    have B5 : Hid (Ob w5 (r + 1 + 1) [.int .u64 0, .int .u64 0]) := B4.out.kept A5.out.2 (by simp)
    have T5 := Lib.hid (T4.out.kept A5.out.2 (by have := hlt.out; have := hrB.out; simp; omega))
    have HF := Lib.hid (H.out.fin0 HBK.out (C4.out.grown A5.out.2 (fun j e => by cases e; have := HRR.out; exact .inr (by omega))))
    have y9 := T5.out.cell 9 rfl
    have y10 := T5.out.cell 10 rfl
    have hge : ¬ (v.k : Int) < (L.length : Int) := by have := HKL.out; omega
    have b0 := B5.out.cell 0 rfl
    have b1 := B5.out.cell 1 rfl
    have a0 := A5.out.1.cell 0 rfl
    have a1 := A5.out.1.cell 1 rfl
    go_quiet (fail)
    have HF2 := Lib.hid (HF.out.grow HBK.out (grown_drewN (World.grownBy.refl _ none) nq))
    go_wp2
    go_ret
    exact ⟨_, rfl, HF2.out⟩
  | cons x R' =>
    have hx : L[v.k]? = some x := by
      have := congrArg List.head? hd
      rwa [List.head?_drop] at this
    have hkl : v.k < L.length := (List.getElem?_eq_some_iff.1 hx).1
    have hR' : L.drop (v.k + 1) = R' := by rw [← List.drop_drop, hd]; rfl
    have S3' : Hid (Ss w3 b.s b.g As cs (x :: R')) := hd ▸ S3.out
    have HX := Lib.hid hx
    have HKL := Lib.hid hkl
    have HR' := Lib.hid hR'
    obtain ⟨x1, x2⟩ := x
    clear hd hkl S3 hx hR'
    go_wp2_with fail
    refine (streamDraw_cons b.s b.g As cs (x1, x2) R' w3 S3'.out).mono ?_
    rintro e w4 ⟨rfl, g4, A6, c6, s4⟩
    have A4 : Hid (Ob w4 (r + 1) [.int .u64 0, .int .u64 0]) := HP.out.oa.kept g4 (by have := hlt.out; have := hrB.out; simp; omega)
    have B4 : Hid (Ob w4 (r + 1 + 1) [.int .u64 0, .int .u64 0]) := HP.out.ob.kept g4 (by have := hlt.out; have := hrB.out; simp; omega)
    have T4 := Lib.hid (T3.out.kept g4 (by have := hlt.out; simp; omega))
    have C4 : Hid (Chg (fun k => k = b.s ∨ k = b.T) w w4) := (HP.out.chg.mono (fun k hk => by omega)).grown g4 (fun j e => by cases e; exact .inl (.inl rfl))
    have HS4 := Lib.hid s4
    clear g4 s4 y0 l0
    have a0 := A4.out.cell 0 rfl
    have a1 := A4.out.cell 1 rfl
    have af0 := A4.out.fr 0 (by simp)
    have af1 := A4.out.fr 1 (by simp)
    have lt4 : r + 1 + 1 < w4.heap.size := B4.out.lt (by simp)
    go_upto_region 33 with fail
    have A5 := Lib.hid (two_set A4.out (.int .u64 (x1 : Nat)) (.int .u64 (x2 : Nat)))
    generalize (w4.setCell ⟨r + 1, 0, none⟩ (.int .u64 (x1 : Nat))).setCell ⟨r + 1, 1, none⟩ (.int .u64 (x2 : Nat)) = w5 at A5 ⊢
    clear a0 a1 af0 af1 lt4
    have hrne : ∀ k, k < b.B → k ≠ r + 1 ∧ k ≠ r + 1 + 1 := fun k hk => by have := hrB.out; omega
    have HRNE := Lib.hid hrne
    clear hrne
    have B5 : Hid (Ob w5 (r + 1 + 1) [.int .u64 0, .int .u64 0]) := B4.out.kept A5.out.2 (by simp)
    have T5 := Lib.hid (T4.out.kept A5.out.2 (by have := hlt.out; have := hrB.out; simp; omega))
    have S5 : Hid (Ss w5 b.s b.g A6 c6 R') := HS4.out.kept A5.out.2 (by have := hlt.out; have := hrB.out; simp; omega) (fun _ _ => by have := hlt.out; have := hrB.out; simp; omega)
    have C5 : Hid (Chg (fun k => k = b.s ∨ k = b.T) w w5) := C4.out.grown A5.out.2 (fun j e => by cases e; have := HRR.out; exact .inr (by omega))
    have y9 := T5.out.cell 9 rfl
    have y10 := T5.out.cell 10 rfl
    have hlt5 : (v.k : Int) < (L.length : Int) := by have := HKL.out; omega
    go_quiet (fail)
    have A6' : Hid (Ob (w5.drewN nq) (r + 1) [.int .u64 (x1 : Nat), .int .u64 (x2 : Nat)]) := A5.out.1.drewN nq
    have B6 : Hid (Ob (w5.drewN nq) (r + 1 + 1) [.int .u64 0, .int .u64 0]) := B5.out.drewN nq
    have T6 := Lib.hid (T5.out.drewN nq)
    have S6 : Hid (Ss (w5.drewN nq) b.s b.g A6 c6 R') := S5.out.kept (grown_drewN (World.grownBy.refl _ none) nq) (by simp) (fun _ _ => by simp)
    have C6 : Hid (Chg (fun k => k = b.s ∨ k = b.T) w (w5.drewN nq)) := C5.out.grown (grown_drewN (World.grownBy.refl _ none) nq) (fun j e => by cases e)
    generalize w5.drewN nq = w6 at A6' B6 T6 S6 C6 ⊢
    clear A5 B5 T5 S5 C5 y9 y10
    have HWB : Hid (Below W.heap.size W w6) := below_chg H.out.bel C6.out H.out.bel.size (fun k hk => by
      obtain ⟨i0, i1, i2, i3, i4, i5, i6, i7, i8, i9, i10, i11, i12, isg⟩ := HBK.out
      omega)
    obtain ⟨ad, rfl, q0, q1⟩ := (HRLL.out.below HWB.out).two HX.out
    have y9 := T6.out.cell 9 rfl
    have y10 := T6.out.cell 10 rfl
    have b0 := B6.out.cell 0 rfl
    have b1 := B6.out.cell 1 rfl
    have bf0 := B6.out.fr 0 (by simp)
    have bf1 := B6.out.fr 1 (by simp)
    have hk0 : (0 : Int) ≤ (v.k : Int) := by omega
    simp only at q0 q1
    go_wp2_with fail
    go_region_with (fail)
    all_goals
      have hgd : (w6.setCell ⟨r + 1 + 1, 0, none⟩ (.int .u64 (x1 : Nat))).setCell ⟨r + 1 + 1, 1, none⟩ (.int .u64 (x2 : Nat)) |>.grownBy (((w6.setCell ⟨r + 1 + 1, 0, none⟩ (.int .u64 (x1 : Nat))).setCell ⟨r + 1 + 1, 1, none⟩ (.int .u64 (x2 : Nat))).drew) none := ⟨rfl, rfl, rfl, Nat.le_refl _, fun _ _ _ => rfl⟩
      have hB8 := two_set B6.out (.int .u64 (x1 : Nat)) (.int .u64 (x2 : Nat))
      have hg8 := hB8.2.trans (hgd.but _)
      have B8 := Lib.hid (hB8.1.kept hgd (by simp))
      have HG8 := Lib.hid hg8
      clear hgd hB8 hg8 y9 y10 b0 b1 bf0 bf1 q0 q1 hlt5
      generalize ((w6.setCell ⟨r + 1 + 1, 0, none⟩ (.int .u64 (x1 : Nat))).setCell ⟨r + 1 + 1, 1, none⟩ (.int .u64 (x2 : Nat))).drew = w8 at B8 HG8 ⊢
      have A8 : Hid (Ob w8 (r + 1) [.int .u64 (x1 : Nat), .int .u64 (x2 : Nat)]) := A6'.out.kept HG8.out (by simp)
      have T8 := Lib.hid (T6.out.kept HG8.out (by have := hlt.out; have := hrB.out; simp; omega))
      have S8 : Hid (Ss w8 b.s b.g A6 c6 R') := S6.out.kept HG8.out (by have := hlt.out; have := hrB.out; simp; omega) (fun _ _ => by have := hlt.out; have := hrB.out; simp; omega)
      have C8 : Hid (Chg (fun k => k = b.s ∨ k = b.T) w w8) := C6.out.grown HG8.out (fun j e => by cases e; have := HRR.out; exact .inr (by omega))
      clear A6' B6 T6 S6 C6 HG8
      have y10 := T8.out.cell 10 rfl
      have f10 := T8.out.fr 10 (by simp)
      have hk1 : v.k + 1 ≤ L.length := HKL.out
      have HK1 := Lib.hid hk1
      clear hk1
      have hw : IntKind.i64.wrap ((v.k : Int) + 1) = (v.k : Int) + 1 := by have := HRLL.out.le; have := HKL.out; rw [IntKind.wrap_i64]; omega
      go_upto_region 39 with fail
      have hT9 := T8.out.set 10 (by simp) (.int .i64 ((v.k : Int) + 1))
      have hg9 := grown_setCell w8 ⟨b.T, 10, none⟩ (.int .i64 ((v.k : Int) + 1))
      generalize w8.setCell ⟨b.T, 10, none⟩ (.int .i64 ((v.k : Int) + 1)) = w9 at hT9 hg9 ⊢
      have a0 := (A8.out.kept hg9 (by have := hlt.out; have := hrB.out; simp; omega)).cell 0 rfl
      have a1 := (A8.out.kept hg9 (by have := hlt.out; have := hrB.out; simp; omega)).cell 1 rfl
      have b0 := (B8.out.kept hg9 (by have := hlt.out; have := hrB.out; simp; omega)).cell 0 rfl
      have b1 := (B8.out.kept hg9 (by have := hlt.out; have := hrB.out; simp; omega)).cell 1 rfl
      have hf := H.out.finS HBK.out (C8.out.grown hg9 (fun j e => by cases e; exact .inl (.inr rfl))) HK1.out
        (by rw [HR'.out]; exact ⟨A6, c6, S8.out.kept hg9 (by have := hlt.out; simp; omega) (fun _ _ => by have := hlt.out; simp; omega)⟩) hT9
      have HF := Lib.hid hf
      clear hf hT9 hg9 y10 f10 hw
      go_wp2
      go_ret
      exact ⟨_, rfl, HF.out⟩
end Go.Proofs.Ytgbjfmokfkdglaa
