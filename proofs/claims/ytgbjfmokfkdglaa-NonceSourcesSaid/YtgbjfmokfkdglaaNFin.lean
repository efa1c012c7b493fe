/-
  NonceSources' objects behind a call, said of the world ahead of it.
-/
import Derived.Test.YtgbjfmokfkdglaaNSrcs
set_option linter.unusedVariables false
set_option linter.unusedSimpArgs false
namespace Go.Proofs.Ytgbjfmokfkdglaa
open Go.RowKit

theorem Sr.fin0 {W : World} {b : Bk} {L : List (Nat × Nat)} {Al : Option Addr} {cl : Nat} {w w' : World} {v : Vs} (h : Sr W b L Al cl w v) (hb : b.Ok W) (hc : Chg (fun k => k < 0) w w')  : Sr W b L Al cl w' v := by
  obtain ⟨A, c, hs⟩ := h.ss
  obtain ⟨Mx, cx, My, cy, h1, h2, h3⟩ := h.rxy
  obtain ⟨i0, i1, i2, i3, i4, i5, i6, i7, i8, i9, i10, i11, i12, isg⟩ := hb
  exact ⟨h.ot.chg hc (by omega), h.oc.chg hc (by omega), h.od.chg hc (by omega), h.op.chg hc (by omega), h.oq.chg hc (by omega), h.om.chg hc (by omega), h.oz.chg hc (by omega), ⟨A, c, hs.chg hc (by omega) (by omega)⟩,
    ⟨Mx, cx, My, cy, h1.chg hc (by omega) (fun j hj _ _ => by omega), h2.chg hc (by omega) (fun j hj _ _ => by omega), h3⟩, below_chg h.bel hc h.bel.size (fun k hk => by omega), Nat.le_trans h.sz hc.size, h.hk, h.ha, h.hp, h.hq⟩
theorem Sr.finC {W : World} {b : Bk} {L : List (Nat × Nat)} {Al : Option Addr} {cl : Nat} {w w' : World} {v : Vs} (h : Sr W b L Al cl w v) (hb : b.Ok W) (hc : Chg (fun k => k = b.c ∨ k = b.d) w w') {a' : Nat} (ha' : a' < 18446744073709551616) (o1 : Ob w' b.c [.int .u64 (a' : Nat)]) (o2 : Ob w' b.d [.int .u64 (a' : Nat)]) : Sr W b L Al cl w' { v with a := a' } := by
  obtain ⟨A, c, hs⟩ := h.ss
  obtain ⟨Mx, cx, My, cy, h1, h2, h3⟩ := h.rxy
  obtain ⟨i0, i1, i2, i3, i4, i5, i6, i7, i8, i9, i10, i11, i12, isg⟩ := hb
  exact ⟨h.ot.chg hc (by omega), o1, o2, h.op.chg hc (by omega), h.oq.chg hc (by omega), h.om.chg hc (by omega), h.oz.chg hc (by omega), ⟨A, c, hs.chg hc (by omega) (by omega)⟩,
    ⟨Mx, cx, My, cy, h1.chg hc (by omega) (fun j hj _ _ => by omega), h2.chg hc (by omega) (fun j hj _ _ => by omega), h3⟩, below_chg h.bel hc h.bel.size (fun k hk => by omega), Nat.le_trans h.sz hc.size, h.hk, ha', h.hp, h.hq⟩
theorem Sr.finM {W : World} {b : Bk} {L : List (Nat × Nat)} {Al : Option Addr} {cl : Nat} {w w' : World} {v : Vs} (h : Sr W b L Al cl w v) (hb : b.Ok W) (hc : Chg (fun k => k = b.m ∨ k = b.z) w w') {s' : Int} (o1 : Ob w' b.m [.int .u64 s']) (o2 : Ob w' b.z [.int .u64 s']) : Sr W b L Al cl w' { v with ms := s' } := by
  obtain ⟨A, c, hs⟩ := h.ss
  obtain ⟨Mx, cx, My, cy, h1, h2, h3⟩ := h.rxy
  obtain ⟨i0, i1, i2, i3, i4, i5, i6, i7, i8, i9, i10, i11, i12, isg⟩ := hb
  exact ⟨h.ot.chg hc (by omega), h.oc.chg hc (by omega), h.od.chg hc (by omega), h.op.chg hc (by omega), h.oq.chg hc (by omega), o1, o2, ⟨A, c, hs.chg hc (by omega) (by omega)⟩,
    ⟨Mx, cx, My, cy, h1.chg hc (by omega) (fun j hj _ _ => by omega), h2.chg hc (by omega) (fun j hj _ _ => by omega), h3⟩, below_chg h.bel hc h.bel.size (fun k hk => by omega), Nat.le_trans h.sz hc.size, h.hk, h.ha, h.hp, h.hq⟩
theorem Sr.finS {W : World} {b : Bk} {L : List (Nat × Nat)} {Al : Option Addr} {cl : Nat} {w w' : World} {v : Vs} (h : Sr W b L Al cl w v) (hb : b.Ok W) (hc : Chg (fun k => k = b.s ∨ k = b.T) w w') {k' : Nat} (hk' : k' ≤ L.length) (o : ∃ A c, Ss w' b.s b.g A c (L.drop k')) (ot : Ob w' b.T [P0 b.c, P0 b.p, P0 b.q, P0 b.m, P0 b.s, P0 b.d, P0 b.x, P0 b.y, P0 b.z, .slice Al L.length cl, .int .i64 (k' : Nat)]) : Sr W b L Al cl w' { v with k := k' } := by
  obtain ⟨A, c, hs⟩ := h.ss
  obtain ⟨Mx, cx, My, cy, h1, h2, h3⟩ := h.rxy
  obtain ⟨i0, i1, i2, i3, i4, i5, i6, i7, i8, i9, i10, i11, i12, isg⟩ := hb
  exact ⟨ot, h.oc.chg hc (by omega), h.od.chg hc (by omega), h.op.chg hc (by omega), h.oq.chg hc (by omega), h.om.chg hc (by omega), h.oz.chg hc (by omega), o,
    ⟨Mx, cx, My, cy, h1.chg hc (by omega) (fun j hj _ _ => by omega), h2.chg hc (by omega) (fun j hj _ _ => by omega), h3⟩, below_chg h.bel hc h.bel.size (fun k hk => by omega), Nat.le_trans h.sz hc.size, hk', h.ha, h.hp, h.hq⟩
theorem Sr.finX {W : World} {b : Bk} {L : List (Nat × Nat)} {Al : Option Addr} {cl : Nat} {w w' : World} {v : Vs} (h : Sr W b L Al cl w v) (hb : b.Ok W) {m' n' : Nat} (hn' : n' ≤ 65535) {M M' : Option Addr} {cc c' : Nat}
    (hrx : ∃ Mo co, Rp w b.x b.d b.B M cc v.pm v.pn ∧ Rp w b.y b.d b.B Mo co v.qm v.qn ∧ ∀ j, (Value.slice M v.pn cc).ownBlock = some j → (Value.slice Mo v.qn co).ownBlock ≠ some j)
    (hc : Chg (fun k => k = b.p ∨ k = b.x ∨ (Value.slice M v.pn cc).ownBlock = some k) w w') (o1 : Ob w' b.p [P0 b.c, .int .u64 (m' : Nat), .int .u64 (n' : Nat)]) (o2 : Rp w' b.x b.d b.B M' c' m' n')
    (hnew : ∀ j, (Value.slice M' n' c').ownBlock = some j → (Value.slice M v.pn cc).ownBlock = some j ∨ w.heap.size ≤ j) : Sr W b L Al cl w' { v with pm := m', pn := n' } := by
  obtain ⟨Mo, co, hM, hMo, hne⟩ := hrx
  have hMB : ∀ j, (Value.slice M v.pn cc).ownBlock = some j → b.B ≤ j ∧ j < w.heap.size := fun j e => hM.own.lt j e
  have hMoB : ∀ j, (Value.slice Mo v.qn co).ownBlock = some j → b.B ≤ j ∧ j < w.heap.size := fun j e => hMo.own.lt j e
  obtain ⟨A, c, hs⟩ := h.ss
  obtain ⟨i0, i1, i2, i3, i4, i5, i6, i7, i8, i9, i10, i11, i12, isg⟩ := hb
  have ns : ∀ k, k < b.B → k ≠ b.p → k ≠ b.x → ¬ (k = b.p ∨ k = b.x ∨ (Value.slice M v.pn cc).ownBlock = some k) := fun k hk hkp hkx e => by
    rcases e with e | e | e
    · exact hkp e
    · exact hkx e
    · have := (hMB k e).1; omega
  have hMo' : Rp w' b.y b.d b.B Mo co v.qm v.qn := hMo.chg hc (ns _ (by omega) (by omega) (by omega)) (fun j hj _ e => by
    rintro (e2 | e2 | e2)
    · omega
    · omega
    · exact hne j e2 e)
  exact ⟨h.ot.chg hc (ns _ (by omega) (by omega) (by omega)), h.oc.chg hc (ns _ (by omega) (by omega) (by omega)), h.od.chg hc (ns _ (by omega) (by omega) (by omega)), o1, h.oq.chg hc (ns _ (by omega) (by omega) (by omega)), h.om.chg hc (ns _ (by omega) (by omega) (by omega)), h.oz.chg hc (ns _ (by omega) (by omega) (by omega)),
    ⟨A, c, hs.chg hc (ns _ (by omega) (by omega) (by omega)) (ns _ (by omega) (by omega) (by omega))⟩,
    ⟨M', c', Mo, co, o2, hMo', fun j e => by
      rcases hnew j e with e1 | e1
      · exact hne j e1
      · intro e2; have := (hMoB j e2).2; omega⟩,
    below_chg h.bel hc h.bel.size (fun k hk => ns k (by omega) (by omega) (by omega)), Nat.le_trans h.sz hc.size, h.hk, h.ha, hn', h.hq⟩
theorem Sr.finY {W : World} {b : Bk} {L : List (Nat × Nat)} {Al : Option Addr} {cl : Nat} {w w' : World} {v : Vs} (h : Sr W b L Al cl w v) (hb : b.Ok W) {m' n' : Nat} (hn' : n' ≤ 65535) {M M' : Option Addr} {cc c' : Nat}
    (hrx : ∃ Mo co, Rp w b.y b.d b.B M cc v.qm v.qn ∧ Rp w b.x b.d b.B Mo co v.pm v.pn ∧ ∀ j, (Value.slice M v.qn cc).ownBlock = some j → (Value.slice Mo v.pn co).ownBlock ≠ some j)
    (hc : Chg (fun k => k = b.q ∨ k = b.y ∨ (Value.slice M v.qn cc).ownBlock = some k) w w') (o1 : Ob w' b.q [P0 b.c, .int .u64 (m' : Nat), .int .u64 (n' : Nat)]) (o2 : Rp w' b.y b.d b.B M' c' m' n')
    (hnew : ∀ j, (Value.slice M' n' c').ownBlock = some j → (Value.slice M v.qn cc).ownBlock = some j ∨ w.heap.size ≤ j) : Sr W b L Al cl w' { v with qm := m', qn := n' } := by
  obtain ⟨Mo, co, hM, hMo, hne⟩ := hrx
  have hMB : ∀ j, (Value.slice M v.qn cc).ownBlock = some j → b.B ≤ j ∧ j < w.heap.size := fun j e => hM.own.lt j e
  have hMoB : ∀ j, (Value.slice Mo v.pn co).ownBlock = some j → b.B ≤ j ∧ j < w.heap.size := fun j e => hMo.own.lt j e
  obtain ⟨A, c, hs⟩ := h.ss
  obtain ⟨i0, i1, i2, i3, i4, i5, i6, i7, i8, i9, i10, i11, i12, isg⟩ := hb
  have ns : ∀ k, k < b.B → k ≠ b.q → k ≠ b.y → ¬ (k = b.q ∨ k = b.y ∨ (Value.slice M v.qn cc).ownBlock = some k) := fun k hk hkp hkx e => by
    rcases e with e | e | e
    · exact hkp e
    · exact hkx e
    · have := (hMB k e).1; omega
  have hMo' : Rp w' b.x b.d b.B Mo co v.pm v.pn := hMo.chg hc (ns _ (by omega) (by omega) (by omega)) (fun j hj _ e => by
    rintro (e2 | e2 | e2)
    · omega
    · omega
    · exact hne j e2 e)
  exact ⟨h.ot.chg hc (ns _ (by omega) (by omega) (by omega)), h.oc.chg hc (ns _ (by omega) (by omega) (by omega)), h.od.chg hc (ns _ (by omega) (by omega) (by omega)), h.op.chg hc (ns _ (by omega) (by omega) (by omega)), o1, h.om.chg hc (ns _ (by omega) (by omega) (by omega)), h.oz.chg hc (ns _ (by omega) (by omega) (by omega)),
    ⟨A, c, hs.chg hc (ns _ (by omega) (by omega) (by omega)) (ns _ (by omega) (by omega) (by omega))⟩,
    ⟨Mo, co, M', c', hMo', o2, fun j e e2 => by
      rcases hnew j e2 with e1 | e1
      · exact hne j e1 e
      · have := (hMoB j e).2; omega⟩,
    below_chg h.bel hc h.bel.size (fun k hk => ns k (by omega) (by omega) (by omega)), Nat.le_trans h.sz hc.size, h.hk, h.ha, h.hp, hn'⟩
theorem Chg.mono {S S' : Nat → Prop} {w w' : World} (h : Chg S w w') (hS : ∀ k, S k → S' k) : Chg S' w w' := ⟨h.os, h.tape, h.output, h.size, fun k hk hn => h.block k hk (fun e => hn (hS k e))⟩
theorem Chg.trans {S : Nat → Prop} {w a w' : World} (h : Chg S w a) (g : Chg (fun k => S k ∨ w.heap.size ≤ k) a w') : Chg S w w' :=
  ⟨g.os.trans h.os, g.tape.trans h.tape, g.output.trans h.output, Nat.le_trans h.size g.size, fun k hk hS => (g.block k (Nat.lt_of_lt_of_le hk h.size) (fun e => by rcases e with e | e; { exact hS e }; { omega })).trans (h.block k hk hS)⟩
end Go.Proofs.Ytgbjfmokfkdglaa
