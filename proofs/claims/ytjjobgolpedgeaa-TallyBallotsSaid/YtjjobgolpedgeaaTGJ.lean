/-
  The walk of TallyBallots. Merged by merge.py: TBallots.
-/
import Derived.Test.YtjjobgolpedgeaaTGD
import Derived.Test.YtjjobgolpedgeaaTGH
import Derived.Test.YtjjobgolpedgeaaTGI
import Derived.Test.YtjjobgolpedgeaaTGE
set_option linter.unusedVariables false
set_option linter.unusedSimpArgs false
namespace Go.Proofs.Ytjjobgolpedgeaa
open Go.RowKit

theorem choose_form (f : Int) (own : Lt) (C : Option Addr) (kc : Nat) (A : Option Addr) (n c : Nat) (V : List Lt) (w : World) (ho : OkL w C kc own.log) (h : RdV w A n V) (hsm : n * 64 ≤ 140737488355328) :
    Calls Try.prog 30 #[.int .i64 f, own.agg C kc, .slice A n c] w fun e w' => ∃ A' k', e = .returned (.tuple #[(if (n : Int) < f then default else chooseV own V).agg A' k', .int .i64 (if (n : Int) < f then 81 else 0)]) ∧ OkL w' A' k' (if (n : Int) < f then default else chooseV own V).log ∧ Below w.heap.size w w' := by
  by_cases hf : (n : Int) < f
  · refine (choose_few f own C kc A n c w hf).mono fun e w' h9 => ⟨none, 0, ?_, ?_, h9.2⟩
    · rw [if_pos hf, if_pos hf]; exact h9.1
    · rw [if_pos hf]; exact OkL.nil _
  · refine (choose_v f own C kc A n c V w hf ho h hsm).mono fun e w' h9 => ?_
    obtain ⟨hb, A', k', h1, h2⟩ := h9
    refine ⟨A', k', ?_, ?_, hb⟩
    · rw [if_neg hf, if_neg hf]; exact h1
    · rw [if_neg hf]; exact h2
theorem refChoose_form (f : Int) (own : Lt) (C : Option Addr) (kc : Nat) (A : Option Addr) (n c : Nat) (V : List Lt) (w : World) (ho : OkL w C kc own.log) (h : RdV w A n V) (hsm : n * 64 ≤ 140737488355328) :
    Calls Try.prog 70 #[.int .i64 f, own.agg C kc, .slice A n c] w fun e w' => ∃ A' k', e = .returned (.tuple #[(if (n : Int) < f then default else chooseV own V).agg A' k', .int .i64 (if (n : Int) < f then 81 else 0)]) ∧ OkL w' A' k' (if (n : Int) < f then default else chooseV own V).log ∧ Below w.heap.size w w' := by
  by_cases hf : (n : Int) < f
  · refine (refChoose_few f own C kc A n c w hf).mono fun e w' h9 => ⟨none, 0, ?_, ?_, h9.2⟩
    · rw [if_pos hf, if_pos hf]; exact h9.1
    · rw [if_pos hf]; exact OkL.nil _
  · refine (refChoose_v f own C kc A n c V w hf ho h hsm).mono fun e w' h9 => ?_
    obtain ⟨hb, A', k', h1, h2⟩ := h9
    refine ⟨A', k', ?_, ?_, hb⟩
    · rw [if_neg hf, if_neg hf]; exact h1
    · rw [if_neg hf]; exact h2
theorem Lnk.sameB {V : List Lt} {n : Nat} {R : List Bt} {xs ys : List GE} {a b : GE} {L : List Et} {k : Nat} (h : Lnk V n R xs ys) (hl : V.length = n) (h1 : a.bs = L) (h2 : b.bs = L) (h3 : a.n = k) (h4 : b.n = k) : ∀ (j : Nat) (x y : GE), (xs ++ [a])[j]? = some x → (ys ++ [b])[j]? = some y → x.bs = y.bs ∧ x.n = y.n := by
  intro j x y hx hy
  by_cases hj : j < n
  · rw [List.getElem?_append_left (by rw [h.x]; exact hj)] at hx
    rw [List.getElem?_append_left (by rw [h.y]; exact hj)] at hy
    obtain ⟨a', b', q1, q2, _, q4, q5, q6, q7⟩ := h.at_ j V[j] hj (List.getElem?_eq_getElem (by omega))
    rw [q1] at hx
    rw [q2] at hy
    cases hx
    cases hy
    exact ⟨by rw [q4, q5], by rw [q6, q7]⟩
  · have e : j = n := by have := (List.getElem?_eq_some_iff.1 hx).1; rw [List.length_append, h.x] at this; simp at this; omega
    subst e
    rw [List.getElem?_append_right (Nat.le_of_eq h.x), h.x, Nat.sub_self] at hx
    rw [List.getElem?_append_right (Nat.le_of_eq h.y), h.y, Nat.sub_self] at hy
    cases hx
    cases hy
    exact ⟨by rw [h1, h2], by rw [h3, h4]⟩
theorem RdC.ltB {α : Type} {size : Nat} {cells : α → List Value} {w : World} {ad : Addr} {n : Nat} {l : List α} {A : Option Addr} (h : RdC (size + 1) cells w A n l) (hn : 0 < n) (e : A = some ad) (hc : ∀ x : α, ∃ u, (cells x)[0]? = some u := by intro x; exact ⟨_, rfl⟩) : ad.block < w.heap.size := by
  obtain ⟨x, hx⟩ : ∃ x, l[0]? = some x := ⟨_, List.getElem?_eq_getElem (by rw [h.len]; exact hn)⟩
  obtain ⟨ad', e', hcl⟩ := h.cell 0 x hx
  obtain ⟨u, hu⟩ := hc x
  have := World.block_lt_of_cell? w _ (hcl 0 u hu)
  rw [e] at e'
  cases e'
  rwa [add_block] at this
set_option maxRecDepth 100000 in
set_option maxHeartbeats 32000000 in
theorem tallyBallots_v (c : Cg) (self : Int) (A : Option Addr) (n cp : Nat) (V : List Lt) (v : Lt) (D : Option Addr) (kv : Nat) (B : Option Addr) (m d : Nat) (U : List Dw) (W : World) (wf : (Lit.int .i64 c.f).wf = true) (h : RdVc W A n V) (hA : A = none → n = 0 ∧ cp = 0) (hwf : ∀ x ∈ V, ∀ y ∈ x.log, (Lit.int .i64 y.n).wf = true) (hls : ∀ x ∈ V, x.log.length * 48 ≤ 140737488351232) (hsm : n * 64 ≤ 140737488351232)
    (hx : OkL W D kv v.log) (hxs : v.log.length * 48 ≤ 140737488351232) (hv : RdC 2 Dw.cells W B m U) (hB : B = none → m = 0 ∧ d = 0) (hsv : m * 16 ≤ 140737488351232) :
    Calls Try.prog 16 #[c.agg, .int .i64 self, .slice A n cp, v.agg D kv, .slice B m d] W fun e w' => e = .returned (.bool true) ∧ Below W.heap.size W w' := by
  obtain ⟨cf, cr, cpp, cu⟩ := c
  have HWF : Hid ((Lit.int .i64 cf).wf = true) := wf
  have H := Lib.hid h
  have HA := Lib.hid hA
  have HL := Lib.hid h.len
  have HEW := Lib.hid hwf
  have HLS := Lib.hid hls
  have HSM := Lib.hid hsm
  have HX := Lib.hid hx
  have HXS := Lib.hid hxs
  have HV := Lib.hid hv
  have HB := Lib.hid hB
  have HVL := Lib.hid hv.len
  have HSV := Lib.hid hsv
  have hn : (n : Int) ≤ 6000000000000 := by omega
  clear wf h hA hwf hls hsm hx hxs hv hB hsv
  go_enter Try.func16, Try.ntmps16
  go_wp2_with fail
  have OC := Lib.hid (((Ob.fresh W #[.int .i64 cf, .int .i64 cr, .int .i64 cpp, .bool cu] 70).alloc (.cells #[.int .i64 v.n, .int .u64 (v.h : Nat), .int .u64 (v.l : Nat), .int .i64 v.v, .int .i64 v.c, .slice D v.log.length kv] 53)).alloc (.cells #[.slice none 0 0, .slice none 0 0, .slice none 0 0, .slice none 0 0, .slice none 0 0, .slice none 0 0, .slice none 0 0, .slice none 0 0, .slice none 0 0, .slice none 0 0] 77))
  have OM : Hid (Ob (((W.alloc (.cells #[.int .i64 cf, .int .i64 cr, .int .i64 cpp, .bool cu] 70)).alloc (.cells #[.int .i64 v.n, .int .u64 (v.h : Nat), .int .u64 (v.l : Nat), .int .i64 v.v, .int .i64 v.c, .slice D v.log.length kv] 53)).alloc (.cells #[.slice none 0 0, .slice none 0 0, .slice none 0 0, .slice none 0 0, .slice none 0 0, .slice none 0 0, .slice none 0 0, .slice none 0 0, .slice none 0 0, .slice none 0 0] 77)) (W.heap.size + 1) [.int .i64 v.n, .int .u64 (v.h : Nat), .int .u64 (v.l : Nat), .int .i64 v.v, .int .i64 v.c, .slice D v.log.length kv]) := by
    have h := (Ob.fresh (W.alloc (.cells #[.int .i64 cf, .int .i64 cr, .int .i64 cpp, .bool cu] 70)) #[.int .i64 v.n, .int .u64 (v.h : Nat), .int .u64 (v.l : Nat), .int .i64 v.v, .int .i64 v.c, .slice D v.log.length kv] 53).alloc (.cells #[.slice none 0 0, .slice none 0 0, .slice none 0 0, .slice none 0 0, .slice none 0 0, .slice none 0 0, .slice none 0 0, .slice none 0 0, .slice none 0 0, .slice none 0 0] 77)
    rw [World.size_alloc] at h
    exact h
  have OG : Hid (Ob (((W.alloc (.cells #[.int .i64 cf, .int .i64 cr, .int .i64 cpp, .bool cu] 70)).alloc (.cells #[.int .i64 v.n, .int .u64 (v.h : Nat), .int .u64 (v.l : Nat), .int .i64 v.v, .int .i64 v.c, .slice D v.log.length kv] 53)).alloc (.cells #[.slice none 0 0, .slice none 0 0, .slice none 0 0, .slice none 0 0, .slice none 0 0, .slice none 0 0, .slice none 0 0, .slice none 0 0, .slice none 0 0, .slice none 0 0] 77)) (W.heap.size + 1 + 1) nil10) := by
    have h := Ob.fresh ((W.alloc (.cells #[.int .i64 cf, .int .i64 cr, .int .i64 cpp, .bool cu] 70)).alloc (.cells #[.int .i64 v.n, .int .u64 (v.h : Nat), .int .u64 (v.l : Nat), .int .i64 v.v, .int .i64 v.c, .slice D v.log.length kv] 53)) #[.slice none 0 0, .slice none 0 0, .slice none 0 0, .slice none 0 0, .slice none 0 0, .slice none 0 0, .slice none 0 0, .slice none 0 0, .slice none 0 0, .slice none 0 0] 77
    rw [World.size_alloc, World.size_alloc] at h
    exact h
  have BW : Hid (Below W.heap.size W (((W.alloc (.cells #[.int .i64 cf, .int .i64 cr, .int .i64 cpp, .bool cu] 70)).alloc (.cells #[.int .i64 v.n, .int .u64 (v.h : Nat), .int .u64 (v.l : Nat), .int .i64 v.v, .int .i64 v.c, .slice D v.log.length kv] 53)).alloc (.cells #[.slice none 0 0, .slice none 0 0, .slice none 0 0, .slice none 0 0, .slice none 0 0, .slice none 0 0, .slice none 0 0, .slice none 0 0, .slice none 0 0, .slice none 0 0] 77))) := ((below_al _ _).alloc (by simp) _).alloc (by simp; omega) _
  generalize (((W.alloc (.cells #[.int .i64 cf, .int .i64 cr, .int .i64 cpp, .bool cu] 70)).alloc (.cells #[.int .i64 v.n, .int .u64 (v.h : Nat), .int .u64 (v.l : Nat), .int .i64 v.v, .int .i64 v.c, .slice D v.log.length kv] 53)).alloc (.cells #[.slice none 0 0, .slice none 0 0, .slice none 0 0, .slice none 0 0, .slice none 0 0, .slice none 0 0, .slice none 0 0, .slice none 0 0, .slice none 0 0, .slice none 0 0] 77)) = w1 at OC OM OG BW ⊢
  obtain ⟨r5, hr5⟩ : ∃ r, W.heap.size = r := ⟨_, rfl⟩
  rw [hr5] at OC OM OG ⊢
  obtain ⟨r8, hr8⟩ : ∃ r, r5 + 1 = r := ⟨_, rfl⟩
  rw [hr8] at OM OG ⊢
  obtain ⟨g, hg⟩ : ∃ r, r8 + 1 = r := ⟨_, rfl⟩
  rw [hg] at OG ⊢
  have HGW : Hid (W.heap.size ≤ g ∧ r5 ≠ g ∧ r8 ≠ g) := by simp only [Hid]; omega
  have HWR : Hid (W.heap.size ≤ r5 ∧ W.heap.size ≤ r8) := by simp only [Hid]; omega
  have HR5 : Hid (r5 < w1.heap.size ∧ r8 < w1.heap.size) := ⟨OC.out.lt (by simp), OM.out.lt (by simp)⟩
  clear hr5 hr8 hg
  refine (lentBallots_any W g A n cp V w1 (GvE.start OG.out) BW.out HGW.out.1 H.out.rdV (by have := HSM.out; omega) (fun x hx => by have := HLS.out x hx; omega)).mono ?_
  rintro e w2 ⟨go, gc, G, q, G', q', xs, ys, R, rfl, hroom, hgv, hch, hro, hln, hgo, hgn0, hgn1, hb0, hb1⟩
  have HROOM := Lib.hid hroom
  have GV := Lib.hid hgv
  have RO := Lib.hid hro
  have LN := Lib.hid hln
  have GO : Hid (w1.heap.size ≤ go ∧ some go ≠ (Value.slice G xs.length q).ownBlock ∧ some go ≠ (Value.slice G' ys.length q').ownBlock) := ⟨hgo, hgn0, hgn1⟩
  have GB : Hid ((∀ j, (Value.slice G xs.length q).ownBlock = some j → w1.heap.size ≤ j ∧ j < w2.heap.size) ∧ ∀ j, (Value.slice G' ys.length q').ownBlock = some j → w1.heap.size ≤ j ∧ j < w2.heap.size) := ⟨fun j e => ⟨hb0 j e, (hgv.o0.lt j e).2⟩, fun j e => ⟨hb1 j e, (hgv.o1.lt j e).2⟩⟩
  have LB0 : Hid ((∀ z ∈ xs, ∀ ad, z.A = some ad → ad.block < w2.heap.size) ∧ ∀ z ∈ ys, ∀ ad, z.A = some ad → ad.block < w2.heap.size) := ⟨fun z hz ad e => ((hgv.e0 z hz).2.2.2 ad e).2.1, fun z hz ad e => ((hgv.e1 z hz).2.2.2 ad e).2.1⟩
  have HGG : Hid (g < w1.heap.size) := OG.out.lt (by simp)
  have GON : Hid (go ≠ g) := by have := HGG.out; have := GO.out.1; simp only [Hid]; omega
  have GOL0 : Hid (go < w2.heap.size) := hro.ltB (by omega) rfl
  have SZ2 : Hid (w1.heap.size ≤ w2.heap.size) := hch.size
  replace OC := Lib.hid (OC.out.chg hch HGW.out.2.1)
  replace OM := Lib.hid (OM.out.chg hch HGW.out.2.2)
  replace BW : Hid (Below W.heap.size W w2) := BW.out.trans (below_chg hch (fun j e => by subst e; exact HGW.out.1) BW.out.size)
  clear hroom hgv hro hln hgo hgn0 hgn1 hb0 hb1 hch OG
  go_wp2_with fail
  refine (givenVectorE_any _ _ g B m d U _ GV.out.ob (HV.out.below BW.out) HB.out (by have := HSV.out; omega)).mono ?_
  rintro e w3 ⟨b, bc, d1, d2, e1, e2, A5, c5, rfl, hch, hbb, hgv, hd1, hd2, hA5⟩
  have VV := Lib.hid hgv
  have VL : Hid (b.block < w3.heap.size ∧ d1.block < w3.heap.size ∧ d2.block < w3.heap.size ∧ ∀ ad, A5 = some ad → ad.block < w3.heap.size) := ⟨hgv.r1.ltB (by omega) rfl, World.block_lt_of_cell? w3 _ hgv.c1, World.block_lt_of_cell? w3 _ hgv.c2, fun ad e => hgv.r2.ltB (by omega) e⟩
  have VB : Hid (w2.heap.size ≤ b.block ∧ w2.heap.size ≤ d1.block ∧ w2.heap.size ≤ d2.block ∧ ∀ ad, A5 = some ad → w2.heap.size ≤ ad.block) := ⟨hbb, hd1, hd2, hA5⟩
  have SZ3 : Hid (w2.heap.size ≤ w3.heap.size) := hch.size
  replace GV := Lib.hid (GV.out.vec hch hgv.ob)
  replace OC := Lib.hid (OC.out.chg hch HGW.out.2.1)
  replace OM := Lib.hid (OM.out.chg hch HGW.out.2.2)
  replace RO := Lib.hid (RO.out.chg hch (fun ad e => by cases e; exact GON.out))
  replace BW : Hid (Below W.heap.size W w3) := BW.out.trans (below_chg hch (fun j e => by subst e; exact HGW.out.1) BW.out.size)
  clear hch hbb hgv hd1 hd2 hA5
  obtain ⟨q0, q1, q2, q3, q4, q5⟩ := OM.out.all6
  go_upto_region 5 with fail
  clear q0 q1 q2 q3 q4 q5
  have O1 := Lib.hid (Ob.fresh w3 #[.int .i64 v.n, .int .u64 (v.h : Nat), .int .u64 (v.l : Nat), .int .i64 v.v, .int .i64 v.c, .slice D v.log.length kv] 53)
  have BA : Hid (Below w3.heap.size w3 (w3.alloc (.cells #[.int .i64 v.n, .int .u64 (v.h : Nat), .int .u64 (v.l : Nat), .int .i64 v.v, .int .i64 v.c, .slice D v.log.length kv] 53))) := below_al _ _
  have SZ4 : Hid ((w3.alloc (.cells #[.int .i64 v.n, .int .u64 (v.h : Nat), .int .u64 (v.l : Nat), .int .i64 v.v, .int .i64 v.c, .slice D v.log.length kv] 53)).heap.size = w3.heap.size + 1) := by simp [Hid]
  generalize w3.alloc (.cells #[.int .i64 v.n, .int .u64 (v.h : Nat), .int .u64 (v.l : Nat), .int .i64 v.v, .int .i64 v.c, .slice D v.log.length kv] 53) = w4 at O1 BA SZ4 ⊢
  obtain ⟨r14, hr14⟩ : ∃ r, w3.heap.size = r := ⟨_, rfl⟩
  rw [hr14] at O1 SZ4 ⊢
  have H14 := Lib.hid hr14
  clear hr14
  have GOL : Hid (go < w3.heap.size) := Nat.lt_of_lt_of_le GOL0.out SZ3.out
  have HWZ : Hid (W.heap.size ≤ w3.heap.size) := BW.out.size
  replace GV := Lib.hid (GV.out.below BA.out)
  replace OC := Lib.hid (OC.out.below BA.out)
  replace OM := Lib.hid (OM.out.below BA.out)
  replace RO := Lib.hid (RO.out.below BA.out)
  replace BW := Lib.hid (BW.out.trans (BA.out.mono BW.out.size))
  have T1 := Lib.hid ((BA.out.cell (World.block_lt_of_cell? w3 _ VV.out.c1)).trans VV.out.c1)
  have T2 := Lib.hid ((BA.out.cell (World.block_lt_of_cell? w3 _ VV.out.c2)).trans VV.out.c2)
  have T3 := Lib.hid (VV.out.r1.below BA.out)
  have T4 := Lib.hid (VV.out.r2.below BA.out)
  clear BA VV
  obtain ⟨q0, q1, q2, q3, q4, q5⟩ := OM.out.all6
  go_wp2_with fail
  clear q0 q1 q2 q3 q4 q5
  refine (gentries_any g _ _ G q G' q' xs ys w4 GV.out (by rw [LN.out.x]; have := HSM.out; omega) (by rw [LN.out.y]; have := HSM.out; omega) D v.log.length kv v.log (HX.out.rd.below BW.out) HX.out.non (by have := HXS.out; omega)).mono ?_
  rintro e w5 ⟨G1, z1, G1', z1', a, b2, rfl, hgv, ha, hb, hna, hnb, hch, hk0, hk1, hfa, hfb⟩
  have ND : Hid (∀ j, j = g ∨ some j = (Value.slice G xs.length q).ownBlock ∨ some j = (Value.slice G' ys.length q').ownBlock → j ≠ r5 ∧ j ≠ r8 ∧ j ≠ r14 ∧ j ≠ go ∧ W.heap.size ≤ j ∧ j < w2.heap.size ∧ w1.heap.size ≤ j + (if j = g then w1.heap.size else 0)) := by
    intro j hj
    have i1 := HR5.out
    have i2 := HGW.out
    have i3 := SZ2.out
    have i4 := SZ3.out
    have i5 := H14.out
    have i6 := GON.out
    have i7 := HGG.out
    have i8 := GO.out
    rcases hj with hj | hj | hj
    · subst hj
      rw [if_pos rfl]
      exact ⟨fun e => i2.2.1 e.symm, fun e => i2.2.2 e.symm, by omega, fun e => i6 e.symm, i2.1, by omega, by omega⟩
    · have h9 := GB.out.1 j hj.symm
      exact ⟨by omega, by omega, by omega, fun e => i8.2.1 (e ▸ hj), by omega, h9.2, by omega⟩
    · have h9 := GB.out.2 j hj.symm
      exact ⟨by omega, by omega, by omega, fun e => i8.2.2 (e ▸ hj), by omega, h9.2, by omega⟩
  have VD : Hid (∀ j, j = g ∨ some j = (Value.slice G xs.length q).ownBlock ∨ some j = (Value.slice G' ys.length q').ownBlock → j ≠ b.block ∧ j ≠ d1.block ∧ j ≠ d2.block ∧ ∀ ad, A5 = some ad → ad.block ≠ j) := fun j hj => by
    have h9 := (ND.out j hj).2.2.2.2.2.1
    have i1 := VB.out
    exact ⟨by omega, by omega, by omega, fun ad e => by have := i1.2.2.2 ad e; omega⟩
  have SZ5 : Hid (r14 + 1 ≤ w5.heap.size) := by have := hch.size; have := SZ4.out; simp only [Hid]; omega
  replace OC := Lib.hid (OC.out.chg hch (fun e => (ND.out _ e).1 rfl))
  replace OM := Lib.hid (OM.out.chg hch (fun e => (ND.out _ e).2.1 rfl))
  replace O1 := Lib.hid (O1.out.chg hch (fun e => (ND.out _ e).2.2.1 rfl))
  replace RO := Lib.hid (RO.out.chg hch (fun ad e h9 => by cases e; exact (ND.out _ h9).2.2.2.1 rfl))
  replace BW : Hid (Below W.heap.size W w5) := BW.out.trans (below_chg hch (fun j e => (ND.out j e).2.2.2.2.1) BW.out.size)
  have kc : ∀ {ad : Addr} {u : Value}, w4.cell? ad = some u → ¬ (ad.block = g ∨ some ad.block = (Value.slice G xs.length q).ownBlock ∨ some ad.block = (Value.slice G' ys.length q').ownBlock) → w5.cell? ad = some u := fun h1 h2 => (World.cell?_of_block (hch.block _ (World.block_lt_of_cell? w4 _ h1) h2)).trans h1
  replace T1 := Lib.hid (kc T1.out (fun e => (VD.out _ e).2.1 rfl))
  replace T2 := Lib.hid (kc T2.out (fun e => (VD.out _ e).2.2.1 rfl))
  replace T3 := Lib.hid (T3.out.chg hch (fun ad e h9 => by cases e; exact (VD.out _ h9).1 rfl))
  replace T4 := Lib.hid (T4.out.chg hch (fun ad e h9 => (VD.out _ h9).2.2.2 ad e rfl))
  have GV5 := Lib.hid hgv
  have LB : Hid ((∀ z ∈ xs, ∀ ad, z.A = some ad → ad.block ≠ r14) ∧ ∀ z ∈ ys, ∀ ad, z.A = some ad → ad.block ≠ r14) := ⟨fun z hz ad e => by have := LB0.out.1 z hz ad e; have := SZ3.out; have := H14.out; omega, fun z hz ad e => by have := LB0.out.2 z hz ad e; have := SZ3.out; have := H14.out; omega⟩
  have NB : Hid ((∀ j, (Value.slice G1 (xs ++ [a]).length z1).ownBlock = some j → j ≠ r14) ∧ (∀ j, (Value.slice G1' (ys ++ [b2]).length z1').ownBlock = some j → j ≠ r14) ∧ (∀ z ∈ xs ++ [a], ∀ ad, z.A = some ad → ad.block ≠ r14) ∧ ∀ z ∈ ys ++ [b2], ∀ ad, z.A = some ad → ad.block ≠ r14) := by
    have i1 := SZ4.out
    have i2 := H14.out
    have i3 := SZ3.out
    refine ⟨fun j e => (hk0 j e).elim (fun h => by have := (GB.out.1 j h).2; omega) (fun h => by omega), fun j e => (hk1 j e).elim (fun h => by have := (GB.out.2 j h).2; omega) (fun h => by omega), fun z hz ad e => ?_, fun z hz ad e => ?_⟩
    · rcases List.mem_append.1 hz with hz | hz
      · exact LB.out.1 z hz ad e
      · rw [List.mem_singleton.1 hz] at e; have := hfa ad e; omega
    · rcases List.mem_append.1 hz with hz | hz
      · exact LB.out.2 z hz ad e
      · rw [List.mem_singleton.1 hz] at e; have := hfb ad e; omega
  have EA : Hid (a.bs = v.log ++ [markE] ∧ b2.bs = v.log ++ [markE] ∧ a.n = v.log.length + 1 ∧ b2.n = v.log.length + 1) := ⟨ha, hb, hna, hnb⟩
  clear kc hch hk0 hk1 hfa hfb ha hb hna hnb hgv GV GB
  have z5 := O1.out.cell 5 rfl
  have f5 := O1.out.fr 5 (by simp)
  have zl := O1.out.lt (by simp)
  have gs := grown_setCell w5 ⟨r14, 5, none⟩ (.slice a.A v.log.length a.c)
  have O6 := Lib.hid (O1.out.set 5 (by simp) (.slice a.A v.log.length a.c))
  have G6 := Lib.hid (GV5.out.grown gs (fun e => by have := HGG.out; have := SZ2.out; have := SZ3.out; have := H14.out; injection e with e; simp only at e; omega) (fun j e h9 => NB.out.1 j e (by cases h9; rfl)) (fun j e h9 => NB.out.2.1 j e (by cases h9; rfl)) (fun z hz ad e h9 => NB.out.2.2.1 z hz ad e (by cases h9; rfl)) (fun z hz ad e h9 => NB.out.2.2.2 z hz ad e (by cases h9; rfl)))
  have OC6 := Lib.hid (OC.out.setOther (a := ⟨r14, 5, none⟩) (.slice a.A v.log.length a.c) (by have := HR5.out; have := SZ2.out; have := SZ3.out; have := H14.out; simp only; omega))
  have OM6 := Lib.hid (OM.out.setOther (a := ⟨r14, 5, none⟩) (.slice a.A v.log.length a.c) (by have := HR5.out; have := SZ2.out; have := SZ3.out; have := H14.out; simp only; omega))
  have RO6 := Lib.hid (RO.out.grown gs (fun ad e h9 => by cases e; have := GOL.out; have := H14.out; injection h9 with h9; simp only at h9; omega))
  have BW6 : Hid (Below W.heap.size W (w5.setCell ⟨r14, 5, none⟩ (.slice a.A v.log.length a.c))) := BW.out.setCell (by have := HWZ.out; have := H14.out; show _ ≤ r14; omega) _
  have U1 := Lib.hid (gs.cell T1.out (by have := VL.out; have := H14.out; intro e; injection e with e; simp only at e; omega))
  have U2 := Lib.hid (gs.cell T2.out (by have := VL.out; have := H14.out; intro e; injection e with e; simp only at e; omega))
  have U3 := Lib.hid (T3.out.grown gs (fun ad e h9 => by cases e; have := VL.out; have := H14.out; injection h9 with h9; simp only at h9; omega))
  have U4 := Lib.hid (T4.out.grown gs (fun ad e h9 => by have := VL.out.2.2.2 ad e; have := H14.out; injection h9 with h9; simp only at h9; omega))
  clear gs
  go_upto_region 6 with fail
  generalize w5.setCell ⟨r14, 5, none⟩ (.slice a.A v.log.length a.c) = w6 at O6 G6 OC6 OM6 RO6 BW6 U1 U2 U3 U4 ⊢
  clear z5 f5 zl O1 GV5 OC OM RO BW T1 T2 T3 T4 NB VD ND
  have RL := Lib.hid (H.out.below BW6.out)
  have RV := Lib.hid (HV.out.below BW6.out)
  have RA := Lib.hid (HX.out.below BW6.out)
  have RN := Lib.hid (LN.out.rdV HL.out (fun x hx => by have := HLS.out x hx; omega) (by have h := RO6.out.take n (by omega); rwa [List.take_left' LN.out.r] at h) (fun z hz => G6.out.e0 z (List.mem_append.2 (.inl hz))))
  have R1 : Hid (OkL w6 a.A a.c v.log) := by
    have ho := G6.out.e0 a (List.mem_append.2 (.inr (List.mem_singleton.2 rfl)))
    have i1 := EA.out
    refine ⟨?_, fun e => ?_, by have := HXS.out; omega⟩
    · have h1 := ho.1.take v.log.length (by omega)
      rw [i1.1, List.take_left' rfl] at h1
      exact h1
    · have := (ho.2.1 e).1
      omega
  have RW : Hid (RdC 2 Dw.cells w6 (some b) m U) := by have h := U3.out.take m (by omega); rwa [List.take_left' HVL.out] at h
  obtain ⟨aA, haA⟩ : ∃ x, a.A = x := ⟨_, rfl⟩
  obtain ⟨aC, haC⟩ : ∃ x, a.c = x := ⟨_, rfl⟩
  rw [haA, haC] at R1 O6 ⊢
  clear haA haC
  have SX : Hid (∀ y, Below w6.heap.size w6 y → ((y.cell? ⟨r5, 0, none⟩ = some (.int .i64 cf) ∧ y.cell? ⟨r5, 1, none⟩ = some (.int .i64 cr) ∧ y.cell? ⟨r5, 2, none⟩ = some (.int .i64 cpp) ∧ y.cell? ⟨r5, 3, none⟩ = some (.bool cu)) ∧ (y.cell? ⟨r8, 0, none⟩ = some (.int .i64 v.n) ∧ y.cell? ⟨r8, 1, none⟩ = some (.int .u64 (v.h : Nat)) ∧ y.cell? ⟨r8, 2, none⟩ = some (.int .u64 (v.l : Nat)) ∧ y.cell? ⟨r8, 3, none⟩ = some (.int .i64 v.v) ∧ y.cell? ⟨r8, 4, none⟩ = some (.int .i64 v.c) ∧ y.cell? ⟨r8, 5, none⟩ = some (.slice D v.log.length kv)) ∧ (y.cell? ⟨r14, 0, none⟩ = some (.int .i64 v.n) ∧ y.cell? ⟨r14, 1, none⟩ = some (.int .u64 (v.h : Nat)) ∧ y.cell? ⟨r14, 2, none⟩ = some (.int .u64 (v.l : Nat)) ∧ y.cell? ⟨r14, 3, none⟩ = some (.int .i64 v.v) ∧ y.cell? ⟨r14, 4, none⟩ = some (.int .i64 v.c) ∧ y.cell? ⟨r14, 5, none⟩ = some (.slice aA v.log.length aC)) ∧ Below w6.heap.size w6 y)) := fun y hb => ⟨(OC6.out.below hb).all4, (OM6.out.below hb).all6, (O6.out.below hb).all6, hb⟩
  obtain ⟨R0, hR0⟩ : ∃ R0, chkR Lt.n (Lt.may cr) ⟨cf, cr, cpp, cu⟩ self V = R0 := ⟨_, rfl⟩
  obtain ⟨P, hP⟩ : ∃ P, putF Lt.n Lt.wins V v = P := ⟨_, rfl⟩
  obtain ⟨X, hX⟩ : ∃ X, pruneF (Lt.over U) V = X := ⟨_, rfl⟩
  have FC : Hid (∀ y, ((y.cell? ⟨r5, 0, none⟩ = some (.int .i64 cf) ∧ y.cell? ⟨r5, 1, none⟩ = some (.int .i64 cr) ∧ y.cell? ⟨r5, 2, none⟩ = some (.int .i64 cpp) ∧ y.cell? ⟨r5, 3, none⟩ = some (.bool cu)) ∧ (y.cell? ⟨r8, 0, none⟩ = some (.int .i64 v.n) ∧ y.cell? ⟨r8, 1, none⟩ = some (.int .u64 (v.h : Nat)) ∧ y.cell? ⟨r8, 2, none⟩ = some (.int .u64 (v.l : Nat)) ∧ y.cell? ⟨r8, 3, none⟩ = some (.int .i64 v.v) ∧ y.cell? ⟨r8, 4, none⟩ = some (.int .i64 v.c) ∧ y.cell? ⟨r8, 5, none⟩ = some (.slice D v.log.length kv)) ∧ (y.cell? ⟨r14, 0, none⟩ = some (.int .i64 v.n) ∧ y.cell? ⟨r14, 1, none⟩ = some (.int .u64 (v.h : Nat)) ∧ y.cell? ⟨r14, 2, none⟩ = some (.int .u64 (v.l : Nat)) ∧ y.cell? ⟨r14, 3, none⟩ = some (.int .i64 v.v) ∧ y.cell? ⟨r14, 4, none⟩ = some (.int .i64 v.c) ∧ y.cell? ⟨r14, 5, none⟩ = some (.slice aA v.log.length aC)) ∧ Below w6.heap.size w6 y) → Calls Try.prog 65 #[.agg #[.int .i64 cf, .int .i64 cr, .int .i64 cpp, .bool cu], .int .i64 self, .slice (some ⟨go, 0, none⟩) n gc] y fun e y' => e = .returned (.int .i64 R0) ∧ ((y'.cell? ⟨r5, 0, none⟩ = some (.int .i64 cf) ∧ y'.cell? ⟨r5, 1, none⟩ = some (.int .i64 cr) ∧ y'.cell? ⟨r5, 2, none⟩ = some (.int .i64 cpp) ∧ y'.cell? ⟨r5, 3, none⟩ = some (.bool cu)) ∧ (y'.cell? ⟨r8, 0, none⟩ = some (.int .i64 v.n) ∧ y'.cell? ⟨r8, 1, none⟩ = some (.int .u64 (v.h : Nat)) ∧ y'.cell? ⟨r8, 2, none⟩ = some (.int .u64 (v.l : Nat)) ∧ y'.cell? ⟨r8, 3, none⟩ = some (.int .i64 v.v) ∧ y'.cell? ⟨r8, 4, none⟩ = some (.int .i64 v.c) ∧ y'.cell? ⟨r8, 5, none⟩ = some (.slice D v.log.length kv)) ∧ (y'.cell? ⟨r14, 0, none⟩ = some (.int .i64 v.n) ∧ y'.cell? ⟨r14, 1, none⟩ = some (.int .u64 (v.h : Nat)) ∧ y'.cell? ⟨r14, 2, none⟩ = some (.int .u64 (v.l : Nat)) ∧ y'.cell? ⟨r14, 3, none⟩ = some (.int .i64 v.v) ∧ y'.cell? ⟨r14, 4, none⟩ = some (.int .i64 v.c) ∧ y'.cell? ⟨r14, 5, none⟩ = some (.slice aA v.log.length aC)) ∧ Below w6.heap.size w6 y')) := fun y hy => (hR0 ▸ checkBallots_any ⟨cf, cr, cpp, cu⟩ self _ n gc V y (RN.out.below hy.2.2.2) (by have := HSM.out; omega) HEW.out).mono fun e y' h9 => ⟨h9.1, SX.out _ (hy.2.2.2.trans (h9.2.mono hy.2.2.2.size))⟩
  have FRC : Hid (∀ y, ((y.cell? ⟨r5, 0, none⟩ = some (.int .i64 cf) ∧ y.cell? ⟨r5, 1, none⟩ = some (.int .i64 cr) ∧ y.cell? ⟨r5, 2, none⟩ = some (.int .i64 cpp) ∧ y.cell? ⟨r5, 3, none⟩ = some (.bool cu)) ∧ (y.cell? ⟨r8, 0, none⟩ = some (.int .i64 v.n) ∧ y.cell? ⟨r8, 1, none⟩ = some (.int .u64 (v.h : Nat)) ∧ y.cell? ⟨r8, 2, none⟩ = some (.int .u64 (v.l : Nat)) ∧ y.cell? ⟨r8, 3, none⟩ = some (.int .i64 v.v) ∧ y.cell? ⟨r8, 4, none⟩ = some (.int .i64 v.c) ∧ y.cell? ⟨r8, 5, none⟩ = some (.slice D v.log.length kv)) ∧ (y.cell? ⟨r14, 0, none⟩ = some (.int .i64 v.n) ∧ y.cell? ⟨r14, 1, none⟩ = some (.int .u64 (v.h : Nat)) ∧ y.cell? ⟨r14, 2, none⟩ = some (.int .u64 (v.l : Nat)) ∧ y.cell? ⟨r14, 3, none⟩ = some (.int .i64 v.v) ∧ y.cell? ⟨r14, 4, none⟩ = some (.int .i64 v.c) ∧ y.cell? ⟨r14, 5, none⟩ = some (.slice aA v.log.length aC)) ∧ Below w6.heap.size w6 y) → Calls Try.prog 67 #[.agg #[.int .i64 cf, .int .i64 cr, .int .i64 cpp, .bool cu], .int .i64 self, .slice A n cp] y fun e y' => e = .returned (.int .i64 R0) ∧ ((y'.cell? ⟨r5, 0, none⟩ = some (.int .i64 cf) ∧ y'.cell? ⟨r5, 1, none⟩ = some (.int .i64 cr) ∧ y'.cell? ⟨r5, 2, none⟩ = some (.int .i64 cpp) ∧ y'.cell? ⟨r5, 3, none⟩ = some (.bool cu)) ∧ (y'.cell? ⟨r8, 0, none⟩ = some (.int .i64 v.n) ∧ y'.cell? ⟨r8, 1, none⟩ = some (.int .u64 (v.h : Nat)) ∧ y'.cell? ⟨r8, 2, none⟩ = some (.int .u64 (v.l : Nat)) ∧ y'.cell? ⟨r8, 3, none⟩ = some (.int .i64 v.v) ∧ y'.cell? ⟨r8, 4, none⟩ = some (.int .i64 v.c) ∧ y'.cell? ⟨r8, 5, none⟩ = some (.slice D v.log.length kv)) ∧ (y'.cell? ⟨r14, 0, none⟩ = some (.int .i64 v.n) ∧ y'.cell? ⟨r14, 1, none⟩ = some (.int .u64 (v.h : Nat)) ∧ y'.cell? ⟨r14, 2, none⟩ = some (.int .u64 (v.l : Nat)) ∧ y'.cell? ⟨r14, 3, none⟩ = some (.int .i64 v.v) ∧ y'.cell? ⟨r14, 4, none⟩ = some (.int .i64 v.c) ∧ y'.cell? ⟨r14, 5, none⟩ = some (.slice aA v.log.length aC)) ∧ Below w6.heap.size w6 y')) := fun y hy => (hR0 ▸ refCheckBallots_any ⟨cf, cr, cpp, cu⟩ self A n cp V y (RL.out.below hy.2.2.2) (by have := HSM.out; omega)).mono fun e y' h9 => ⟨h9.1, SX.out _ (hy.2.2.2.trans (h9.2.mono hy.2.2.2.size))⟩
  have FU : Hid (∀ y, ((y.cell? ⟨r5, 0, none⟩ = some (.int .i64 cf) ∧ y.cell? ⟨r5, 1, none⟩ = some (.int .i64 cr) ∧ y.cell? ⟨r5, 2, none⟩ = some (.int .i64 cpp) ∧ y.cell? ⟨r5, 3, none⟩ = some (.bool cu)) ∧ (y.cell? ⟨r8, 0, none⟩ = some (.int .i64 v.n) ∧ y.cell? ⟨r8, 1, none⟩ = some (.int .u64 (v.h : Nat)) ∧ y.cell? ⟨r8, 2, none⟩ = some (.int .u64 (v.l : Nat)) ∧ y.cell? ⟨r8, 3, none⟩ = some (.int .i64 v.v) ∧ y.cell? ⟨r8, 4, none⟩ = some (.int .i64 v.c) ∧ y.cell? ⟨r8, 5, none⟩ = some (.slice D v.log.length kv)) ∧ (y.cell? ⟨r14, 0, none⟩ = some (.int .i64 v.n) ∧ y.cell? ⟨r14, 1, none⟩ = some (.int .u64 (v.h : Nat)) ∧ y.cell? ⟨r14, 2, none⟩ = some (.int .u64 (v.l : Nat)) ∧ y.cell? ⟨r14, 3, none⟩ = some (.int .i64 v.v) ∧ y.cell? ⟨r14, 4, none⟩ = some (.int .i64 v.c) ∧ y.cell? ⟨r14, 5, none⟩ = some (.slice aA v.log.length aC)) ∧ Below w6.heap.size w6 y) → Calls Try.prog 28 #[.slice (some ⟨go, 0, none⟩) n gc, v.agg aA aC] y fun e y' => RetW y P e y' ∧ ((y'.cell? ⟨r5, 0, none⟩ = some (.int .i64 cf) ∧ y'.cell? ⟨r5, 1, none⟩ = some (.int .i64 cr) ∧ y'.cell? ⟨r5, 2, none⟩ = some (.int .i64 cpp) ∧ y'.cell? ⟨r5, 3, none⟩ = some (.bool cu)) ∧ (y'.cell? ⟨r8, 0, none⟩ = some (.int .i64 v.n) ∧ y'.cell? ⟨r8, 1, none⟩ = some (.int .u64 (v.h : Nat)) ∧ y'.cell? ⟨r8, 2, none⟩ = some (.int .u64 (v.l : Nat)) ∧ y'.cell? ⟨r8, 3, none⟩ = some (.int .i64 v.v) ∧ y'.cell? ⟨r8, 4, none⟩ = some (.int .i64 v.c) ∧ y'.cell? ⟨r8, 5, none⟩ = some (.slice D v.log.length kv)) ∧ (y'.cell? ⟨r14, 0, none⟩ = some (.int .i64 v.n) ∧ y'.cell? ⟨r14, 1, none⟩ = some (.int .u64 (v.h : Nat)) ∧ y'.cell? ⟨r14, 2, none⟩ = some (.int .u64 (v.l : Nat)) ∧ y'.cell? ⟨r14, 3, none⟩ = some (.int .i64 v.v) ∧ y'.cell? ⟨r14, 4, none⟩ = some (.int .i64 v.c) ∧ y'.cell? ⟨r14, 5, none⟩ = some (.slice aA v.log.length aC)) ∧ Below w6.heap.size w6 y')) := fun y hy => (hP ▸ putBallot_w _ n gc V v aA aC y (RN.out.below hy.2.2.2) (R1.out.below hy.2.2.2) (by have := HSM.out; omega)).mono fun e y' h9 => ⟨h9, SX.out _ (hy.2.2.2.trans (h9.choose_spec.choose_spec.2.2.1.mono hy.2.2.2.size))⟩
  have FRU : Hid (∀ y, ((y.cell? ⟨r5, 0, none⟩ = some (.int .i64 cf) ∧ y.cell? ⟨r5, 1, none⟩ = some (.int .i64 cr) ∧ y.cell? ⟨r5, 2, none⟩ = some (.int .i64 cpp) ∧ y.cell? ⟨r5, 3, none⟩ = some (.bool cu)) ∧ (y.cell? ⟨r8, 0, none⟩ = some (.int .i64 v.n) ∧ y.cell? ⟨r8, 1, none⟩ = some (.int .u64 (v.h : Nat)) ∧ y.cell? ⟨r8, 2, none⟩ = some (.int .u64 (v.l : Nat)) ∧ y.cell? ⟨r8, 3, none⟩ = some (.int .i64 v.v) ∧ y.cell? ⟨r8, 4, none⟩ = some (.int .i64 v.c) ∧ y.cell? ⟨r8, 5, none⟩ = some (.slice D v.log.length kv)) ∧ (y.cell? ⟨r14, 0, none⟩ = some (.int .i64 v.n) ∧ y.cell? ⟨r14, 1, none⟩ = some (.int .u64 (v.h : Nat)) ∧ y.cell? ⟨r14, 2, none⟩ = some (.int .u64 (v.l : Nat)) ∧ y.cell? ⟨r14, 3, none⟩ = some (.int .i64 v.v) ∧ y.cell? ⟨r14, 4, none⟩ = some (.int .i64 v.c) ∧ y.cell? ⟨r14, 5, none⟩ = some (.slice aA v.log.length aC)) ∧ Below w6.heap.size w6 y) → Calls Try.prog 68 #[.slice A n cp, v.agg D kv] y fun e y' => RetW y P e y' ∧ ((y'.cell? ⟨r5, 0, none⟩ = some (.int .i64 cf) ∧ y'.cell? ⟨r5, 1, none⟩ = some (.int .i64 cr) ∧ y'.cell? ⟨r5, 2, none⟩ = some (.int .i64 cpp) ∧ y'.cell? ⟨r5, 3, none⟩ = some (.bool cu)) ∧ (y'.cell? ⟨r8, 0, none⟩ = some (.int .i64 v.n) ∧ y'.cell? ⟨r8, 1, none⟩ = some (.int .u64 (v.h : Nat)) ∧ y'.cell? ⟨r8, 2, none⟩ = some (.int .u64 (v.l : Nat)) ∧ y'.cell? ⟨r8, 3, none⟩ = some (.int .i64 v.v) ∧ y'.cell? ⟨r8, 4, none⟩ = some (.int .i64 v.c) ∧ y'.cell? ⟨r8, 5, none⟩ = some (.slice D v.log.length kv)) ∧ (y'.cell? ⟨r14, 0, none⟩ = some (.int .i64 v.n) ∧ y'.cell? ⟨r14, 1, none⟩ = some (.int .u64 (v.h : Nat)) ∧ y'.cell? ⟨r14, 2, none⟩ = some (.int .u64 (v.l : Nat)) ∧ y'.cell? ⟨r14, 3, none⟩ = some (.int .i64 v.v) ∧ y'.cell? ⟨r14, 4, none⟩ = some (.int .i64 v.c) ∧ y'.cell? ⟨r14, 5, none⟩ = some (.slice aA v.log.length aC)) ∧ Below w6.heap.size w6 y')) := fun y hy => (hP ▸ refPutBallot_w A n cp V v D kv y (RL.out.rdV.below hy.2.2.2) HA.out (RA.out.below hy.2.2.2) (by have := HSM.out; omega)).mono fun e y' h9 => ⟨h9, SX.out _ (hy.2.2.2.trans (h9.choose_spec.choose_spec.2.2.1.mono hy.2.2.2.size))⟩
  have FP : Hid (∀ y, ((y.cell? ⟨r5, 0, none⟩ = some (.int .i64 cf) ∧ y.cell? ⟨r5, 1, none⟩ = some (.int .i64 cr) ∧ y.cell? ⟨r5, 2, none⟩ = some (.int .i64 cpp) ∧ y.cell? ⟨r5, 3, none⟩ = some (.bool cu)) ∧ (y.cell? ⟨r8, 0, none⟩ = some (.int .i64 v.n) ∧ y.cell? ⟨r8, 1, none⟩ = some (.int .u64 (v.h : Nat)) ∧ y.cell? ⟨r8, 2, none⟩ = some (.int .u64 (v.l : Nat)) ∧ y.cell? ⟨r8, 3, none⟩ = some (.int .i64 v.v) ∧ y.cell? ⟨r8, 4, none⟩ = some (.int .i64 v.c) ∧ y.cell? ⟨r8, 5, none⟩ = some (.slice D v.log.length kv)) ∧ (y.cell? ⟨r14, 0, none⟩ = some (.int .i64 v.n) ∧ y.cell? ⟨r14, 1, none⟩ = some (.int .u64 (v.h : Nat)) ∧ y.cell? ⟨r14, 2, none⟩ = some (.int .u64 (v.l : Nat)) ∧ y.cell? ⟨r14, 3, none⟩ = some (.int .i64 v.v) ∧ y.cell? ⟨r14, 4, none⟩ = some (.int .i64 v.c) ∧ y.cell? ⟨r14, 5, none⟩ = some (.slice aA v.log.length aC)) ∧ Below w6.heap.size w6 y) → Calls Try.prog 46 #[.slice (some ⟨go, 0, none⟩) n gc, .slice (some b) m bc] y fun e y' => RetW y X e y' ∧ ((y'.cell? ⟨r5, 0, none⟩ = some (.int .i64 cf) ∧ y'.cell? ⟨r5, 1, none⟩ = some (.int .i64 cr) ∧ y'.cell? ⟨r5, 2, none⟩ = some (.int .i64 cpp) ∧ y'.cell? ⟨r5, 3, none⟩ = some (.bool cu)) ∧ (y'.cell? ⟨r8, 0, none⟩ = some (.int .i64 v.n) ∧ y'.cell? ⟨r8, 1, none⟩ = some (.int .u64 (v.h : Nat)) ∧ y'.cell? ⟨r8, 2, none⟩ = some (.int .u64 (v.l : Nat)) ∧ y'.cell? ⟨r8, 3, none⟩ = some (.int .i64 v.v) ∧ y'.cell? ⟨r8, 4, none⟩ = some (.int .i64 v.c) ∧ y'.cell? ⟨r8, 5, none⟩ = some (.slice D v.log.length kv)) ∧ (y'.cell? ⟨r14, 0, none⟩ = some (.int .i64 v.n) ∧ y'.cell? ⟨r14, 1, none⟩ = some (.int .u64 (v.h : Nat)) ∧ y'.cell? ⟨r14, 2, none⟩ = some (.int .u64 (v.l : Nat)) ∧ y'.cell? ⟨r14, 3, none⟩ = some (.int .i64 v.v) ∧ y'.cell? ⟨r14, 4, none⟩ = some (.int .i64 v.c) ∧ y'.cell? ⟨r14, 5, none⟩ = some (.slice aA v.log.length aC)) ∧ Below w6.heap.size w6 y')) := fun y hy => (hX ▸ pruneBallot_w _ n gc V (some b) m bc U y (RN.out.below hy.2.2.2) (RW.out.below hy.2.2.2) (by have := HSM.out; omega) (by have := HSV.out; omega)).mono fun e y' h9 => ⟨h9, SX.out _ (hy.2.2.2.trans (h9.choose_spec.choose_spec.2.2.1.mono hy.2.2.2.size))⟩
  have FRP : Hid (∀ y, ((y.cell? ⟨r5, 0, none⟩ = some (.int .i64 cf) ∧ y.cell? ⟨r5, 1, none⟩ = some (.int .i64 cr) ∧ y.cell? ⟨r5, 2, none⟩ = some (.int .i64 cpp) ∧ y.cell? ⟨r5, 3, none⟩ = some (.bool cu)) ∧ (y.cell? ⟨r8, 0, none⟩ = some (.int .i64 v.n) ∧ y.cell? ⟨r8, 1, none⟩ = some (.int .u64 (v.h : Nat)) ∧ y.cell? ⟨r8, 2, none⟩ = some (.int .u64 (v.l : Nat)) ∧ y.cell? ⟨r8, 3, none⟩ = some (.int .i64 v.v) ∧ y.cell? ⟨r8, 4, none⟩ = some (.int .i64 v.c) ∧ y.cell? ⟨r8, 5, none⟩ = some (.slice D v.log.length kv)) ∧ (y.cell? ⟨r14, 0, none⟩ = some (.int .i64 v.n) ∧ y.cell? ⟨r14, 1, none⟩ = some (.int .u64 (v.h : Nat)) ∧ y.cell? ⟨r14, 2, none⟩ = some (.int .u64 (v.l : Nat)) ∧ y.cell? ⟨r14, 3, none⟩ = some (.int .i64 v.v) ∧ y.cell? ⟨r14, 4, none⟩ = some (.int .i64 v.c) ∧ y.cell? ⟨r14, 5, none⟩ = some (.slice aA v.log.length aC)) ∧ Below w6.heap.size w6 y) → Calls Try.prog 69 #[.slice A n cp, .slice B m d] y fun e y' => RetW y X e y' ∧ ((y'.cell? ⟨r5, 0, none⟩ = some (.int .i64 cf) ∧ y'.cell? ⟨r5, 1, none⟩ = some (.int .i64 cr) ∧ y'.cell? ⟨r5, 2, none⟩ = some (.int .i64 cpp) ∧ y'.cell? ⟨r5, 3, none⟩ = some (.bool cu)) ∧ (y'.cell? ⟨r8, 0, none⟩ = some (.int .i64 v.n) ∧ y'.cell? ⟨r8, 1, none⟩ = some (.int .u64 (v.h : Nat)) ∧ y'.cell? ⟨r8, 2, none⟩ = some (.int .u64 (v.l : Nat)) ∧ y'.cell? ⟨r8, 3, none⟩ = some (.int .i64 v.v) ∧ y'.cell? ⟨r8, 4, none⟩ = some (.int .i64 v.c) ∧ y'.cell? ⟨r8, 5, none⟩ = some (.slice D v.log.length kv)) ∧ (y'.cell? ⟨r14, 0, none⟩ = some (.int .i64 v.n) ∧ y'.cell? ⟨r14, 1, none⟩ = some (.int .u64 (v.h : Nat)) ∧ y'.cell? ⟨r14, 2, none⟩ = some (.int .u64 (v.l : Nat)) ∧ y'.cell? ⟨r14, 3, none⟩ = some (.int .i64 v.v) ∧ y'.cell? ⟨r14, 4, none⟩ = some (.int .i64 v.c) ∧ y'.cell? ⟨r14, 5, none⟩ = some (.slice aA v.log.length aC)) ∧ Below w6.heap.size w6 y')) := fun y hy => (hX ▸ refPruneBallot_w A n cp V B m d U y (RL.out.rdV.below hy.2.2.2) (RV.out.below hy.2.2.2) HSM.out (by have := HSV.out; omega)).mono fun e y' h9 => ⟨h9, SX.out _ (hy.2.2.2.trans (h9.choose_spec.choose_spec.2.2.1.mono hy.2.2.2.size))⟩
  have FS : Hid (∀ y A1 A2 c1 c2 (T : List Lt), ((y.cell? ⟨r5, 0, none⟩ = some (.int .i64 cf) ∧ y.cell? ⟨r5, 1, none⟩ = some (.int .i64 cr) ∧ y.cell? ⟨r5, 2, none⟩ = some (.int .i64 cpp) ∧ y.cell? ⟨r5, 3, none⟩ = some (.bool cu)) ∧ (y.cell? ⟨r8, 0, none⟩ = some (.int .i64 v.n) ∧ y.cell? ⟨r8, 1, none⟩ = some (.int .u64 (v.h : Nat)) ∧ y.cell? ⟨r8, 2, none⟩ = some (.int .u64 (v.l : Nat)) ∧ y.cell? ⟨r8, 3, none⟩ = some (.int .i64 v.v) ∧ y.cell? ⟨r8, 4, none⟩ = some (.int .i64 v.c) ∧ y.cell? ⟨r8, 5, none⟩ = some (.slice D v.log.length kv)) ∧ (y.cell? ⟨r14, 0, none⟩ = some (.int .i64 v.n) ∧ y.cell? ⟨r14, 1, none⟩ = some (.int .u64 (v.h : Nat)) ∧ y.cell? ⟨r14, 2, none⟩ = some (.int .u64 (v.l : Nat)) ∧ y.cell? ⟨r14, 3, none⟩ = some (.int .i64 v.v) ∧ y.cell? ⟨r14, 4, none⟩ = some (.int .i64 v.c) ∧ y.cell? ⟨r14, 5, none⟩ = some (.slice aA v.log.length aC)) ∧ Below w6.heap.size w6 y) → RdV y A1 T.length T → RdV y A2 T.length T → Calls Try.prog 29 #[.slice A1 T.length c1, .slice A2 T.length c2] y fun e y' => e = .returned (.bool true) ∧ ((y'.cell? ⟨r5, 0, none⟩ = some (.int .i64 cf) ∧ y'.cell? ⟨r5, 1, none⟩ = some (.int .i64 cr) ∧ y'.cell? ⟨r5, 2, none⟩ = some (.int .i64 cpp) ∧ y'.cell? ⟨r5, 3, none⟩ = some (.bool cu)) ∧ (y'.cell? ⟨r8, 0, none⟩ = some (.int .i64 v.n) ∧ y'.cell? ⟨r8, 1, none⟩ = some (.int .u64 (v.h : Nat)) ∧ y'.cell? ⟨r8, 2, none⟩ = some (.int .u64 (v.l : Nat)) ∧ y'.cell? ⟨r8, 3, none⟩ = some (.int .i64 v.v) ∧ y'.cell? ⟨r8, 4, none⟩ = some (.int .i64 v.c) ∧ y'.cell? ⟨r8, 5, none⟩ = some (.slice D v.log.length kv)) ∧ (y'.cell? ⟨r14, 0, none⟩ = some (.int .i64 v.n) ∧ y'.cell? ⟨r14, 1, none⟩ = some (.int .u64 (v.h : Nat)) ∧ y'.cell? ⟨r14, 2, none⟩ = some (.int .u64 (v.l : Nat)) ∧ y'.cell? ⟨r14, 3, none⟩ = some (.int .i64 v.v) ∧ y'.cell? ⟨r14, 4, none⟩ = some (.int .i64 v.c) ∧ y'.cell? ⟨r14, 5, none⟩ = some (.slice aA v.log.length aC)) ∧ Below w6.heap.size w6 y')) := fun y A1 A2 c1 c2 T hy h1 h2 => (sameBallots_any A1 A2 T.length c1 c2 T y h1 h2).mono fun e y' h9 => ⟨h9.1, SX.out _ (by obtain ⟨q, hq⟩ := h9.2; rw [hq]; exact Below.drewN hy.2.2.2 q)⟩
  clear hR0 hP hX
  obtain ⟨⟨p0, p1, p2, p3⟩, ⟨q0, q1, q2, q3, q4, q5⟩, ⟨s0, s1, s2, s3, s4, s5⟩, _⟩ := SX.out _ (Below.refl _ _)
  go_region_held3 (fun y => ((y.cell? ⟨r5, 0, none⟩ = some (.int .i64 cf) ∧ y.cell? ⟨r5, 1, none⟩ = some (.int .i64 cr) ∧ y.cell? ⟨r5, 2, none⟩ = some (.int .i64 cpp) ∧ y.cell? ⟨r5, 3, none⟩ = some (.bool cu)) ∧ (y.cell? ⟨r8, 0, none⟩ = some (.int .i64 v.n) ∧ y.cell? ⟨r8, 1, none⟩ = some (.int .u64 (v.h : Nat)) ∧ y.cell? ⟨r8, 2, none⟩ = some (.int .u64 (v.l : Nat)) ∧ y.cell? ⟨r8, 3, none⟩ = some (.int .i64 v.v) ∧ y.cell? ⟨r8, 4, none⟩ = some (.int .i64 v.c) ∧ y.cell? ⟨r8, 5, none⟩ = some (.slice D v.log.length kv)) ∧ (y.cell? ⟨r14, 0, none⟩ = some (.int .i64 v.n) ∧ y.cell? ⟨r14, 1, none⟩ = some (.int .u64 (v.h : Nat)) ∧ y.cell? ⟨r14, 2, none⟩ = some (.int .u64 (v.l : Nat)) ∧ y.cell? ⟨r14, 3, none⟩ = some (.int .i64 v.v) ∧ y.cell? ⟨r14, 4, none⟩ = some (.int .i64 v.c) ∧ y.cell? ⟨r14, 5, none⟩ = some (.slice aA v.log.length aC)) ∧ Below w6.heap.size w6 y)) (first | exact ⟨⟨p0, p1, p2, p3⟩, ⟨q0, q1, q2, q3, q4, q5⟩, ⟨s0, s1, s2, s3, s4, s5⟩, Below.drew (Below.refl _ _)⟩ | assumption | go_keep)
    (first
     | (go_at_call 29; refine (FS.out _ A7 A8 c7 c8 X hx8 rA7' rA8).mono ?_; rintro e x9 ⟨rfl, hx9⟩)
     | (go_at_call 69; refine (FRP.out _ hx7).mono ?_; rintro e x8 ⟨⟨A8, c8, rfl, hc8, hb8, rA8⟩, hx8⟩; have rA7' := rA7.below hb8)
     | (go_at_call 46; refine (FP.out _ hx6).mono ?_; rintro e x7 ⟨⟨A7, c7, rfl, hc7, hb7, rA7⟩, hx7⟩)
     | (go_at_call 29; refine (FS.out _ A3 A4 c3 c4 P hx4 rA3' rA4).mono ?_; rintro e x6 ⟨rfl, hx6⟩)
     | (go_at_call 68; refine (FRU.out _ hx3).mono ?_; rintro e x4 ⟨⟨A4, c4, rfl, hc4, hb4, rA4⟩, hx4⟩; have rA3' := rA3.below hb4)
     | (go_at_call 28; refine (FU.out _ hx2).mono ?_; rintro e x3 ⟨⟨A3, c3, rfl, hc3, hb3, rA3⟩, hx3⟩)
     | (go_at_call 67; refine (FRC.out _ hx1).mono ?_; rintro e x2 ⟨rfl, hx2⟩)
     | (go_at_call 65; refine (FC.out _ (by first | assumption | (simp [*]))).mono ?_; rintro e x1 ⟨rfl, hx1⟩))
  have H9 := Lib.hid hx9.2.2.2
  clear hx1 hx2 hx3 hx4 hx6 hx7 hx8 hx9 hc3 hb3 hc4 hb4 hc7 hb7 hc8 hb8 rA3 rA3' rA4 rA7 rA7' rA8 p0 p1 p2 p3 q0 q1 q2 q3 q4 q5 s0 s1 s2 s3 s4 s5 SX FC FRC FU FRU FP FRP FS
  obtain ⟨w9, rfl⟩ : ∃ z, z = x9 := ⟨_, rfl⟩
  have OC9 := Lib.hid (OC6.out.below H9.out)
  have OM9 := Lib.hid (OM6.out.below H9.out)
  have O9 := Lib.hid (O6.out.below H9.out)
  obtain ⟨p0, p1, p2, p3⟩ := OC9.out.all4
  have HN64 : Hid (n * 64 ≤ 140737488355328) := by have := HSM.out; simp only [Hid]; omega
  obtain ⟨q0, q1, q2, q3, q4, q5⟩ := O9.out.all6
  go_wp2_with fail
  clear p0 p1 p2 p3 q0 q1 q2 q3 q4 q5
  refine (choose_form cf v aA aC _ n gc V w9 (R1.out.below H9.out) (RN.out.below H9.out) HN64.out).mono ?_
  intro e w10 h10
  obtain ⟨A10, k10, rfl, ho10, hb10⟩ := h10
  obtain ⟨rv, hrv⟩ : ∃ rv, (if (n : Int) < cf then default else chooseV v V) = rv := ⟨_, rfl⟩
  obtain ⟨ev, hev⟩ : ∃ ev : Int, (if (n : Int) < cf then 81 else 0) = ev := ⟨_, rfl⟩
  rw [hrv] at ho10
  rw [hrv, hev]
  have HRV := Lib.hid hrv
  have HEV := Lib.hid hev
  clear hrv hev
  have OK10 := Lib.hid ho10
  have B10 : Hid (Below w6.heap.size w6 w10) := H9.out.trans (hb10.mono H9.out.size)
  clear ho10 hb10
  have p0 := (OC6.out.below B10.out).cell 0 rfl
  have zp := (OC6.out.below B10.out).lt (by simp)
  obtain ⟨q0, q1, q2, q3, q4, q5⟩ := (OM6.out.below B10.out).all6
  have zv := (OM6.out.below B10.out).lt (by simp)
  go_wp2_with fail
  have OX := Lib.hid (Ob.fresh w10 #[.int .i64 rv.n, .int .u64 (rv.h : Nat), .int .u64 (rv.l : Nat), .int .i64 rv.v, .int .i64 rv.c, .slice A10 rv.log.length k10] 53)
  have B11 : Hid (Below w6.heap.size w6 (w10.alloc (.cells #[.int .i64 rv.n, .int .u64 (rv.h : Nat), .int .u64 (rv.l : Nat), .int .i64 rv.v, .int .i64 rv.c, .slice A10 rv.log.length k10] 53))) := B10.out.alloc B10.out.size _
  replace OK10 := Lib.hid (OK10.out.below (below_al w10 (.cells #[.int .i64 rv.n, .int .u64 (rv.h : Nat), .int .u64 (rv.l : Nat), .int .i64 rv.v, .int .i64 rv.c, .slice A10 rv.log.length k10] 53)))
  generalize w10.alloc (.cells #[.int .i64 rv.n, .int .u64 (rv.h : Nat), .int .u64 (rv.l : Nat), .int .i64 rv.v, .int .i64 rv.c, .slice A10 rv.log.length k10] 53) = w11 at OX B11 OK10 ⊢
  generalize w10.heap.size = r15 at OX ⊢
  clear p0 zp q0 q1 q2 q3 q4 q5 zv
  refine (refChoose_form cf v D kv A n cp V w11 (RA.out.below B11.out) (RL.out.rdV.below B11.out) HN64.out).mono ?_
  intro e w12 h12
  obtain ⟨A12, k12, rfl, ho12, hb12⟩ := h12
  rw [HRV.out] at ho12
  rw [HRV.out, HEV.out]
  have OK12 := Lib.hid ho12
  have B12 : Hid (Below w6.heap.size w6 w12) := B11.out.trans (hb12.mono B11.out.size)
  replace OX := Lib.hid (OX.out.below hb12)
  replace OK10 := Lib.hid (OK10.out.below hb12)
  clear ho12 hb12
  have hee : (ev == ev) = true := beq_self_eq_true ev
  obtain ⟨q0, q1, q2, q3, q4, q5⟩ := OX.out.all6
  have zq := OX.out.lt (by simp)
  go_upto_region 10 with fail
  clear q0 q1 q2 q3 q4 q5 zq
  have OY := Lib.hid (Ob.fresh w12 #[.int .i64 rv.n, .int .u64 (rv.h : Nat), .int .u64 (rv.l : Nat), .int .i64 rv.v, .int .i64 rv.c, .slice A12 rv.log.length k12] 53)
  have B13 : Hid (Below w6.heap.size w6 (w12.alloc (.cells #[.int .i64 rv.n, .int .u64 (rv.h : Nat), .int .u64 (rv.l : Nat), .int .i64 rv.v, .int .i64 rv.c, .slice A12 rv.log.length k12] 53))) := B12.out.alloc B12.out.size _
  replace OX := Lib.hid (OX.out.alloc (.cells #[.int .i64 rv.n, .int .u64 (rv.h : Nat), .int .u64 (rv.l : Nat), .int .i64 rv.v, .int .i64 rv.c, .slice A12 rv.log.length k12] 53))
  replace OK10 := Lib.hid (OK10.out.below (below_al w12 (.cells #[.int .i64 rv.n, .int .u64 (rv.h : Nat), .int .u64 (rv.l : Nat), .int .i64 rv.v, .int .i64 rv.c, .slice A12 rv.log.length k12] 53)))
  replace OK12 := Lib.hid (OK12.out.below (below_al w12 (.cells #[.int .i64 rv.n, .int .u64 (rv.h : Nat), .int .u64 (rv.l : Nat), .int .i64 rv.v, .int .i64 rv.c, .slice A12 rv.log.length k12] 53)))
  generalize w12.alloc (.cells #[.int .i64 rv.n, .int .u64 (rv.h : Nat), .int .u64 (rv.l : Nat), .int .i64 rv.v, .int .i64 rv.c, .slice A12 rv.log.length k12] 53) = w13 at OX OY B13 OK10 OK12 ⊢
  generalize w12.heap.size = r17 at OY ⊢
  obtain ⟨p0, p1, p2, p3, p4, p5⟩ := OX.out.all6
  obtain ⟨q0, q1, q2, q3, q4, q5⟩ := OY.out.all6
  have zp := OX.out.lt (by simp)
  have zq := OY.out.lt (by simp)
  go_wp2_with fail
  clear p0 p1 p2 p3 p4 p5 q0 q1 q2 q3 q4 q5 zp zq
  refine (sameBallots_any _ _ 1 _ _ [rv] _ ((rdV_one OK10.out 53).below (below_al _ _)) (by have h := rdV_one (OK12.out.below (below_al w13 (.cells #[.int .i64 rv.n, .int .u64 (rv.h : Nat), .int .u64 (rv.l : Nat), .int .i64 rv.v, .int .i64 rv.c, .slice A10 rv.log.length k10] 53))) 53; rw [World.size_alloc] at h; exact h)).mono ?_
  rintro e w14 ⟨rfl, qa, hqa⟩
  have B14 : Hid (Below w6.heap.size w6 w14) := by rw [hqa]; exact Below.drewN ((B13.out.alloc B13.out.size _).alloc (by simp; have := B13.out.size; omega) _) qa
  clear hqa
  go_wp2_with fail
  refine (keptBallots_any go A n cp gc V R w14 (RL.out.rdV.below B14.out) (RN.out.below B14.out) (RO6.out.below B14.out) LN.out.r HROOM.out (by have := HSM.out; omega)).mono ?_
  rintro e w15 ⟨rfl, qb, hqb⟩
  have B15 : Hid (Below w6.heap.size w6 w15) := by rw [hqb]; exact Below.drewN B14.out qb
  clear hqb
  go_wp2_with fail
  have U1' := Lib.hid ((B15.out.cell (World.block_lt_of_cell? w6 _ U1.out)).trans U1.out)
  have U2' := Lib.hid ((B15.out.cell (World.block_lt_of_cell? w6 _ U2.out)).trans U2.out)
  refine (intactE_any g (m + 1) _ d1 d2 e1 e2 (some b) A5 bc c5 G1 z1 G1' z1' (xs ++ [a]) (ys ++ [b2]) w15 U1'.out U2'.out (U3.out.below B15.out) (U4.out.below B15.out) (G6.out.below B15.out) (by simp [LN.out.x, LN.out.y]) (by have := HSM.out; rw [List.length_append, LN.out.x]; simp; omega) (LN.out.sameB HL.out EA.out.1 EA.out.2.1 EA.out.2.2.1 EA.out.2.2.2)).mono ?_
  rintro e w16 ⟨rfl, qc, hqc⟩
  have B16 : Hid (Below w6.heap.size w6 w16) := by rw [hqc]; exact Below.drewN B15.out qc
  clear hqc
  go_wp2_with fail
  refine (works_any _).mono ?_
  rintro e w17 ⟨rfl, hb17⟩
  have B17 : Hid (Below W.heap.size W w17) := BW6.out.trans ((B16.out.trans (hb17.mono B16.out.size)).mono BW6.out.size)
  clear hb17
  go_wp2_with fail
  go_ret
  exact ⟨rfl, B17.out⟩
theorem tallyBallots_walk (c : Cg) (self : Int) (A : Option Addr) (n cp : Nat) (I : List Pt) (p : Pt) (B : Option Addr) (m d : Nat) (U : List Dw) (W : World) (wf : (Lit.int .i64 c.f).wf = true) (ws : (Lit.int .i64 self).wf = true) (h : RdC 6 Pt.cells W A n I) (hA : A = none → n = 0 ∧ cp = 0) (ok : ∀ x ∈ I, x.Ok W) (hsm : n * 64 ≤ 140737488351232 ∧ ∀ x ∈ I, x.Sm) (hp : p.Ok W) (sp : p.Sm) (hv : RdC 2 Dw.cells W B m U) (hB : B = none → m = 0 ∧ d = 0) (hsv : m * 16 ≤ 140737488351232) :
    Calls Try.prog 16 #[c.agg, .int .i64 self, .slice A n cp, p.1.agg p.2.1 p.2.2, .slice B m d] W fun e w' => e = .returned (.bool true) ∧ Below W.heap.size W w' :=
  tallyBallots_v c self A n cp (I.map (·.1)) p.1 p.2.1 p.2.2 B m d U W wf (rdVc_of h ok hsm.2) hA (fun x hx y hy => by obtain ⟨q, hq, rfl⟩ := List.mem_map.1 hx; exact ((ok q hq).ok.log y hy).n) (fun x hx => by obtain ⟨q, hq, rfl⟩ := List.mem_map.1 hx; exact hsm.2 q hq) hsm.1 (hp.okL sp) sp hv hB hsv
end Go.Proofs.Ytjjobgolpedgeaa
