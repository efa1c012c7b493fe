/-
  The walks of nonce's Group: one replica over a clock.
-/
import Derived.Test.YtgbjfmokfkdglaaNStream
import Derived.Test.YtgbjfmokfkdglaaNNilF
import Derived.Test.YtgbjfmokfkdglaaNAlone
import Derived.Lib.SmallJoins
set_option linter.unusedVariables false
set_option linter.unusedSimpArgs false
namespace Go.Proofs.Ytgbjfmokfkdglaa
open Go.RowKit

theorem eltPairs : Elt Try.prog 116 34 (.pointer none) 1 8 := ⟨Try.underlying116, by kernel_rfl, rfl, by decide⟩
theorem eltSource : Elt Try.prog 117 115 .nilIface 1 16 := ⟨Try.underlying117, by kernel_rfl, rfl, by decide⟩
/-- the stamps of the first k draws at the reading a -/
def SVk (a k : Nat) : List Value := (List.range k).flatMap fun i => [.int .i64 0, .int .u64 (a : Nat), .int .u64 ((i + 1 : Nat) : Int)]
theorem SVk_succ (a k : Nat) : SVk a (k + 1) = SVk a k ++ [.int .i64 0, .int .u64 (a : Nat), .int .u64 ((k + 1 : Nat) : Int)] := by
  unfold SVk; rw [List.range_succ, List.flatMap_append]; simp
theorem SVk_len (a k : Nat) : (SVk a k).length = k * 3 := by
  induction k with
  | zero => rfl
  | succ k ih => rw [SVk_succ, List.length_append, ih]; simp; omega
theorem SVk_get (a : Nat) : ∀ k i : Nat, i < k → (SVk a k)[i * 3 + 2]? = some (.int .u64 ((i + 1 : Nat) : Int)) := by
  intro k
  induction k with
  | zero => intro i h; omega
  | succ k ih =>
    intro i h
    rw [SVk_succ]
    by_cases hk : i < k
    · rw [List.getElem?_append_left (by rw [SVk_len]; omega)]; exact ih i hk
    · obtain rfl : i = k := by omega
      rw [List.getElem?_append_right (by rw [SVk_len]; omega), SVk_len, show i * 3 + 2 - i * 3 = 2 by omega]
      rfl
theorem SVk_one (a k : Nat) : ∀ u ∈ SVk a k, u.oneCell' = true := by
  intro u hu
  obtain ⟨x, _, hx⟩ := List.mem_flatMap.1 hu
  simp at hx
  rcases hx with rfl | rfl | rfl <;> rfl
/-- a group of one replica over a clock, at block b: the clock behind it, then the Pairs; k stamps -/
structure G1 (W w : World) (b sb : Nat) (P : Option Addr) (cp cs : Nat) (D : Option Addr) (cd k a m q : Nat) : Prop where
  og : Ob w b [.pointer (some ⟨b + 1, 0, none⟩), .slice P 1 cp, .slice (some ⟨sb, 0, none⟩) 1 cs, .slice D k cd]
  oc : Ob w (b + 1) [.int .u64 (a : Nat)]
  op : Ob w (b + 2) [.pointer (some ⟨b + 1, 0, none⟩), .int .u64 (m : Nat), .int .u64 (q : Nat)]
  os : w.cell? ⟨sb, 0, none⟩ = some (.iface 34 (.pointer (some ⟨b + 2, 0, none⟩)))
  sb3 : b + 3 ≤ sb
  od : w.ownsRow (b + 3) 27 3 (.slice D k cd) k (SVk a k)
  dne : (Value.slice D k cd).ownBlock ≠ some sb
  bel : Below b W w
  bsz : W.heap.size = b
theorem G1.dlt {W w : World} {b sb : Nat} {P : Option Addr} {cp cs : Nat} {D : Option Addr} {cd k a m q : Nat} (h : G1 W w b sb P cp cs D cd k a m q) {j : Nat} (hj : j < b + 3) : (Value.slice D k cd).ownBlock ≠ some j := fun e => by
  have := (h.od.lt _ e).1
  omega
theorem G1.grow {W w w' : World} {b sb : Nat} {P : Option Addr} {cp cs : Nat} {D : Option Addr} {cd k a m q : Nat} (h : G1 W w b sb P cp cs D cd k a m q) (g : w.grownBy w' none) : G1 W w' b sb P cp cs D cd k a m q :=
  ⟨h.og.kept g (by simp), h.oc.kept g (by simp), h.op.kept g (by simp), (g.cell h.os (by simp)), h.sb3, h.od.kept g (by cases (Value.slice D k cd).ownBlock <;> simp), h.dne, h.bel.trans (grown_below_drop g (by have := h.bel.size; have := h.bsz; omega)), h.bsz⟩
theorem G1.pairs {W w w' : World} {b sb : Nat} {P : Option Addr} {cp cs : Nat} {D : Option Addr} {cd k a m q m' q' : Nat} (h : G1 W w b sb P cp cs D cd k a m q) (g : w.grownBy w' (some (b + 2))) (o : Ob w' (b + 2) [.pointer (some ⟨b + 1, 0, none⟩), .int .u64 (m' : Nat), .int .u64 (q' : Nat)]) : G1 W w' b sb P cp cs D cd k a m' q' :=
  ⟨h.og.kept g (by simp), h.oc.kept g (by simp), o, (g.cell h.os (by have := h.sb3; simp; omega)), h.sb3, h.od.kept g (.inr (h.dlt (by omega))), h.dne, h.bel.trans (Below.of_grown g (by omega) (by have := h.bel.size; have := h.bsz; omega)), h.bsz⟩
def nx (now m q : Nat) : Nat := (if m = now then q else 0) + 1
theorem pDraw_ok' {a m n : Nat} (h : ¬ (m = a ∧ n = 65535)) : pDraw a m n = (a, nx a m n, 0, nx a m n) := by
  unfold pDraw nx
  rw [if_neg]
  by_cases e : m = a
  · rw [if_pos e]; exact fun e2 => h ⟨e, e2⟩
  · rw [if_neg e]; decide
theorem G1.other {W w w' : World} {b sb : Nat} {P : Option Addr} {cp cs : Nat} {D : Option Addr} {cd k a m q r : Nat} (h : G1 W w b sb P cp cs D cd k a m q) (g : w.grownBy w' (some r)) (h3 : b + 3 ≤ r) (hs : sb ≠ r) (hd : (Value.slice D k cd).ownBlock ≠ some r) : G1 W w' b sb P cp cs D cd k a m q :=
  ⟨h.og.kept g (by simp; omega), h.oc.kept g (by simp; omega), h.op.kept g (by simp; omega), (g.cell h.os (by simp; exact hs)), h.sb3, h.od.kept g (.inr hd), h.dne, h.bel.trans (Below.of_grown g (by omega) (by have := h.bel.size; have := h.bsz; omega)), h.bsz⟩
set_option maxRecDepth 100000 in
set_option maxHeartbeats 1600000 in
theorem groupDraw1_err (W : World) (b sb : Nat) (P : Option Addr) (cp cs : Nat) (D : Option Addr) (cd k a q : Nat) (w : World) (h : G1 W w b sb P cp cs D cd k a a q) (hq : q = 65535) :
    Calls Try.prog 41 #[.pointer (some ⟨b, 0, none⟩), .int .i64 0] w fun e w' => e = .returned (.tuple #[.agg #[.int .u64 0, .int .u64 0], .int .i64 20]) ∧ w.grownBy w' (some (b + 2)) ∧ G1 W w' b sb P cp cs D cd k a a q := by
  have HQ : Hid (q ≤ 65535 ∧ 65535 ≤ q) := ⟨Nat.le_of_eq hq, Nat.le_of_eq hq.symm⟩
  have H := Lib.hid h
  have c2 := h.og.cell 2 rfl
  have lb := h.og.lt (by simp)
  have ls := World.block_lt_of_cell? w _ h.os
  have c3 := h.os
  clear h hq
  go_enter Try.func41, Try.ntmps41
  go_wp2_with fail
  have G0 := Lib.hid (H.out.grow (World.grownBy_alloc w (.cells #[.int .u64 0, .int .u64 0] 25) none))
  have R0 := Lib.hid (Ob.fresh w #[.int .u64 0, .int .u64 0] 25)
  refine (draw_full (b + 2) (b + 1) a a q _ G0.out.oc G0.out.op (by omega) rfl (by have := HQ.out; omega)).mono ?_
  rintro e w1 ⟨rfl, g, o⟩
  rw [show (65535 : Nat) = q by have := HQ.out; omega] at o
  have G1' := Lib.hid (G0.out.pairs g o)
  have lw : Hid (b + 2 < w.heap.size) := H.out.op.lt (by simp)
  have R1 : Hid (Ob w1 w.heap.size [.int .u64 0, .int .u64 0]) := R0.out.kept g (by have := lw.out; simp; omega)
  have HG1 : Hid (w.grownBy w1 (some (b + 2))) := ((World.grownBy_alloc w _ _)).trans g
  have z0 := R1.out.cell 0 rfl
  have z1 := R1.out.cell 1 rfl
  have z2 := R1.out.fr 0 (by simp)
  have z3 := R1.out.fr 1 (by simp)
  have z4 : w.heap.size < w1.heap.size := R1.out.lt (by simp)
  clear g o c2 c3 lb ls
  go_wp2_with fail
  (try simp only [Exit.inBlock, Exit.then])
  refine ret_draw Try.results41 w.heap.size _ _ _ rfl rfl (((R1.out.set 0 (by simp) _).set 1 (by simp) _).alloc _) rfl ?_
  have hg : w.grownBy (((w1.setCell ⟨w.heap.size, 0, none⟩ (.int .u64 0)).setCell ⟨w.heap.size, 1, none⟩ (.int .u64 0)).alloc (.cells #[.int .u64 0, .int .u64 0] 25)) (some (b + 2)) :=
    gb_alloc (gb_set (gb_set HG1.out _ _ (.inr (Nat.le_refl _))) _ _ (.inr (Nat.le_refl _))) _
  exact ⟨rfl, hg, H.out.pairs hg ((((G1'.out.op.setOther _ (by have := lw.out; simp; omega)).setOther _ (by have := lw.out; simp; omega))).alloc _)⟩
theorem G1.pushed {W v w9 : World} {b sb : Nat} {P : Option Addr} {cp cs : Nat} {D : Option Addr} {cd k a m q : Nat} (h : G1 W v b sb P cp cs D cd k a m q) {V : World} (hV : v.grownBy V none) (hVs : v.heap.size ≤ V.heap.size) {D' : Option Addr} {cd' : Nat}
    (ho : w9.ownsRow (b + 3) 27 3 (.slice D' (k + 1) cd') (k + 1) (SVk a k ++ [.int .i64 0, .int .u64 (a : Nat), .int .u64 ((k + 1 : Nat) : Int)])) (hg : V.grownBy w9 (Value.slice D k cd).ownBlock)
    (hb : (Value.slice D' (k + 1) cd').ownBlock = (Value.slice D k cd).ownBlock ∨ (Value.slice D' (k + 1) cd').ownBlock = some V.heap.size) :
    w9.cell? ⟨b, 3, none⟩ = some (.slice D k cd) ∧ w9.frozen? ⟨b, 3, none⟩ = false ∧ v.grownBy w9 (Value.slice D k cd).ownBlock ∧ (∀ j, (Value.slice D' (k + 1) cd').ownBlock = some j → (Value.slice D k cd).ownBlock = some j ∨ v.heap.size ≤ j) ∧ G1 W (w9.setCell ⟨b, 3, none⟩ (.slice D' (k + 1) cd')) b sb P cp cs D' cd' (k + 1) a m q := by
  have g9 : v.grownBy w9 (Value.slice D k cd).ownBlock := (hV.but _).trans hg
  have og := h.og.kept g9 (Ne.symm (h.dlt (by omega)))
  have hsb : sb < v.heap.size := World.block_lt_of_cell? v _ h.os
  have hd' : ∀ j, (Value.slice D' (k + 1) cd').ownBlock = some j → b + 3 ≤ j := fun j e => (ho.lt j e).1
  have hs3 := h.sb3
  refine ⟨og.cell 3 rfl, og.fr 3 (by simp), g9, fun j e => by rcases hb with hb | hb; { left; rw [← hb]; exact e }; { right; rw [hb] at e; cases e; exact hVs }, ?_⟩
  have hg2 := grown_setCell w9 ⟨b, 3, none⟩ (.slice D' (k + 1) cd')
  refine ⟨og.set 3 (by simp) _, (h.oc.kept g9 (Ne.symm (h.dlt (by omega)))).kept hg2 (by simp), (h.op.kept g9 (Ne.symm (h.dlt (by omega)))).kept hg2 (by simp), ?_, h.sb3, ?_, ?_, ?_, h.bsz⟩
  · exact hg2.cell (g9.cell h.os (by exact Ne.symm h.dne)) (by simp; omega)
  · rw [SVk_succ]
    exact ho.kept hg2 (.inr (fun e => by have := hd' b e; omega))
  · rcases hb with hb | hb
    · rw [hb]; exact h.dne
    · rw [hb]; simp; omega
  · refine (h.bel.trans ⟨g9.os, g9.tape, g9.output, g9.size, fun j hj => g9.block j (by have := h.bel.size; have := h.bsz; omega) (Ne.symm (h.dlt (by omega)))⟩).setCell (Nat.le_refl _) _
theorem news3 (w : World) (x y z : Value) (t : TypeId) : ∀ ad, some (⟨w.heap.size, 0, none⟩ : Addr) = some ad → ∀ (j : Nat) (u : Value), [x, y, z][j]? = some u → (w.alloc (.cells #[x, y, z] t)).cell? (ad.add j) = some u := by
  intro ad e
  cases e
  exact World.news_of_block (cs := #[x, y, z]) (t := t) (fr := (0, 0)) (heap_alloc_new w _)
set_option maxRecDepth 100000 in
set_option maxHeartbeats 1600000 in
theorem groupDraw1_ok (W : World) (b sb : Nat) (P : Option Addr) (cp cs : Nat) (D : Option Addr) (cd k a m q x : Nat) (w : World) (h : G1 W w b sb P cp cs D cd k a m q) (hx : nx a m q = x) (hxk : x = k + 1) (hq : ¬ (m = a ∧ q = 65535)) (hq2 : q ≤ 65535) (hk : k ≤ 65535) :
    Calls Try.prog 41 #[.pointer (some ⟨b, 0, none⟩), .int .i64 0] w fun e w' => e = .returned (.tuple #[.agg #[.int .u64 (a : Nat), .int .u64 (x : Nat)], .int .i64 0]) ∧ ∃ D' cd', G1 W w' b sb P cp cs D' cd' x a a x := by
  have HK := Lib.hid hk
  have HX : Hid (x ≤ k + 1 ∧ k + 1 ≤ x) := ⟨Nat.le_of_eq hxk, Nat.le_of_eq hxk.symm⟩
  have H := Lib.hid h
  have c2 := h.og.cell 2 rfl
  have lb := h.og.lt (by simp)
  have ls := World.block_lt_of_cell? w _ h.os
  have c3 := h.os
  have G0 := Lib.hid (h.grow (World.grownBy_alloc w (.cells #[.int .u64 0, .int .u64 0] 25) none))
  have R0 := Lib.hid (Ob.fresh w #[.int .u64 0, .int .u64 0] 25)
  have F := draw_any (b + 2) (b + 1) a m q _ G0.out.oc G0.out.op (by omega) hq2
  rw [pDraw_ok' hq, hx] at F
  have F := Lib.hid F
  clear h hx hq hq2 hk hxk
  go_enter Try.func41, Try.ntmps41
  go_wp2_with fail
  refine F.out.mono ?_
  clear F
  rintro e w1 ⟨rfl, g, o⟩
  have G1' := Lib.hid (G0.out.pairs g o)
  have lw : Hid (b + 2 < w.heap.size) := H.out.op.lt (by simp)
  have R1 : Hid (Ob w1 w.heap.size [.int .u64 0, .int .u64 0]) := R0.out.kept g (by have := lw.out; simp; omega)
  have zz : Hid (w.heap.size < w1.heap.size) := R1.out.lt (by simp)
  have R2 := Lib.hid (R1.out.alloc (.cells #[.int .u64 (a : Nat), .int .u64 (x : Nat)] 25))
  have S2 := Lib.hid (Ob.fresh w1 #[.int .u64 (a : Nat), .int .u64 (x : Nat)] 25)
  have G2 := Lib.hid (G1'.out.grow (World.grownBy_alloc w1 (.cells #[.int .u64 (a : Nat), .int .u64 (x : Nat)] 25) none))
  have SBL : Hid (sb < w.heap.size) := World.block_lt_of_cell? w _ H.out.os
  have DL : Hid (∀ j, (Value.slice D k cd).ownBlock = some j → j < w.heap.size) := fun j e => (H.out.od.lt j e).2
  clear g o c2 c3 lb ls G1' R1 G0 R0
  go_wp2_with fail
  generalize w1.alloc (.cells #[.int .u64 (a : Nat), .int .u64 (x : Nat)] 25) = v at G2 R2 S2 ⊢
  generalize hf : w1.heap.size = f at S2 zz ⊢
  generalize hr : w.heap.size = r at R2 zz DL SBL lw ⊢
  clear hf hr
  have y3 := G2.out.og.cell 3 rfl
  have y4 := S2.out.cell 0 rfl
  have y5 := S2.out.cell 1 rfl
  have l1 := G2.out.og.lt (by simp)
  have l2 := S2.out.lt (by simp)
  have b1 : Hid (k + 1 ≤ maxLen) := by have := HK.out; simp only [maxLen, Hid]; omega
  have b2 : Hid ((k + 1) * 24 ≤ 140737488355328) := by have := HK.out; simp only [Hid]; omega
  have hb5 : Hid (∀ o : Obj, b + 3 ≤ (v.alloc o).heap.size) := fun o => by have := G2.out.op.lt (by simp); rw [World.size_alloc]; omega
  have hxe : Hid ([Value.int .i64 0, .int .u64 (a : Nat), .int .u64 (x : Nat)] = [Value.int .i64 0, .int .u64 (a : Nat), .int .u64 ((k + 1 : Nat) : Int)]) := by rw [show x = k + 1 by have := HX.out; omega]; exact rfl
  have h1c : Hid (∀ u ∈ [Value.int .i64 0, .int .u64 (a : Nat), .int .u64 (x : Nat)], u.oneCell' = true) := by intro u hu; simp at hu; rcases hu with rfl | rfl | rfl <;> rfl
  have h3 : Hid ([Value.int .i64 0, .int .u64 (a : Nat), .int .u64 (x : Nat)].length = 1 * 3) := rfl
  have HN : Hid (∀ ad, some (⟨v.heap.size, 0, none⟩ : Addr) = some ad → ∀ (j : Nat) (u : Value), [Value.int .i64 0, .int .u64 (a : Nat), .int .u64 (x : Nat)][j]? = some u → (v.alloc (.cells #[.int .i64 0, .int .u64 (a : Nat), .int .u64 (x : Nat)] 27)).cell? (ad.add j) = some u) := news3 v _ _ _ _
  have hD : Hid (∀ j, r ≤ j → some j ≠ (Value.slice D k cd).ownBlock) := fun j hj e => by have := DL.out j e.symm; omega
  go_region_law (refine step_app rfl (.tmp 40) (.tmp 44) rfl eltStamp (b + 3) (.slice D k cd) k (SVk a k) rfl (G2.out.od.alloc _) (some ⟨v.heap.size, 0, none⟩) 1 1 [.int .i64 0, .int .u64 (a : Nat), .int .u64 (x : Nat)] rfl h3.out (fun e => nomatch e) HN.out h1c.out b1.out b2.out (hb5.out _) ?_; intro D9 c9 w9 hown9 hgrow9 hblk9; have Q := G2.out.pushed (grown_alloc_drew v _ none) (Nat.le_trans (Nat.le_succ _) (Nat.le_of_eq (World.size_alloc v _).symm)) (hxe.out ▸ hown9) hgrow9 hblk9; have q1 := Q.1; have q2 := Q.2.1; have HQ := Lib.hid Q.2.2.2.2; have HQD := Lib.hid Q.2.2.2.1; have R9 := Lib.hid (R2.out.kept Q.2.2.1 (hD.out _ (Nat.le_refl _))); have S9 := Lib.hid (S2.out.kept Q.2.2.1 (hD.out _ (Nat.le_of_lt zz.out))); clear hown9 hgrow9 hblk9 Q)
  all_goals
    have R10 := Lib.hid (R9.out.setOther (a := ⟨b, 3, none⟩) (.slice D9 (k + 1) c9) (by have := lw.out; simp only; omega))
    have S10 := Lib.hid (S9.out.setOther (a := ⟨b, 3, none⟩) (.slice D9 (k + 1) c9) (by have := lw.out; have := zz.out; simp only; omega))
    generalize w9.setCell ⟨b, 3, none⟩ (.slice D9 (k + 1) c9) = v9 at HQ R10 S10 ⊢
    clear R9 S9 q1 q2 y3 y4 y5 l1 l2 b1 b2 hb5 hxe h1c h3 HN
    have y4 := S10.out.cell 0 rfl
    have y5 := S10.out.cell 1 rfl
    have y6 := R10.out.cell 0 rfl
    have y7 := R10.out.cell 1 rfl
    have f6 := R10.out.fr 0 (by simp)
    have f7 := R10.out.fr 1 (by simp)
    have l1 := R10.out.lt (by simp)
    have l2 := S10.out.lt (by simp)
    have hrf : Hid (r < f) := zz.out
    go_wp2_with fail
    (try simp only [Exit.inBlock, Exit.then])
    refine ret_draw Try.results41 r _ _ _ rfl rfl ((R10.out.set 0 (by simp) _).set 1 (by simp) _) rfl ?_
    refine ⟨rfl, D9, c9, ?_⟩
    have hg : v9.grownBy ((v9.setCell ⟨r, 0, none⟩ (.int .u64 (a : Nat))).setCell ⟨r, 1, none⟩ (.int .u64 (x : Nat))) (some r) := gb_set (gb_set (World.grownBy.refl _ _) _ _ (.inl rfl)) _ _ (.inl rfl)
    have hxk : x = k + 1 := by have := HX.out; omega
    have hr3 : b + 3 ≤ r := by have := lw.out; omega
    have hne : (Value.slice D9 (k + 1) c9).ownBlock ≠ some r := fun e => by
      rcases HQD.out r e with h | h
      · have := DL.out r h; omega
      · have := G2.out.op.lt (by simp); have := S2.out.lt (by simp); have := zz.out; omega
    have hf := HQ.out.other hg hr3 (by have := SBL.out; omega) hne
    rw [← hxk] at hf
    exact hf
end Go.Proofs.Ytgbjfmokfkdglaa
