/-
  NonceSources' objects: the program's and the document's, as they stand between two calls.
-/
import Derived.Test.YtgbjfmokfkdglaaNRef
import Derived.Test.YtgbjfmokfkdglaaNStream
import Derived.Test.YtgbjfmokfkdglaaNAlone
set_option linter.unusedVariables false
set_option linter.unusedSimpArgs false
namespace Go.Proofs.Ytgbjfmokfkdglaa
open Go.RowKit

/-- the blocks -/
structure Bk where
  c : Nat
  m : Nat
  s : Nat
  g : Nat
  T : Nat
  p : Nat
  q : Nat
  d : Nat
  x : Nat
  y : Nat
  z : Nat
  B : Nat
structure Bk.Ok (b : Bk) (W : World) : Prop where
  h0 : W.heap.size ≤ b.c
  h1 : b.c < b.m
  h2 : b.m < b.s
  h3 : W.heap.size ≤ b.g ∧ b.g ≠ b.c ∧ b.g ≠ b.m
  h4 : b.s < b.T
  h5 : b.g < b.T
  h6 : b.T < b.p
  h7 : b.p < b.q
  h8 : b.q < b.d
  h9 : b.d < b.x
  h10 : b.x < b.y
  h11 : b.y < b.z
  h12 : b.z < b.B
  sg : b.s ≠ b.g
abbrev P0 (n : Nat) : Value := .pointer (some ⟨n, 0, none⟩)
/-- what they hold -/
structure Vs where
  a : Nat
  pm : Nat
  pn : Nat
  qm : Nat
  qn : Nat
  ms : Int
  k : Nat
structure Sr (W : World) (b : Bk) (L : List (Nat × Nat)) (Al : Option Addr) (cl : Nat) (w : World) (v : Vs) : Prop where
  ot : Ob w b.T [P0 b.c, P0 b.p, P0 b.q, P0 b.m, P0 b.s, P0 b.d, P0 b.x, P0 b.y, P0 b.z, .slice Al L.length cl, .int .i64 (v.k : Nat)]
  oc : Ob w b.c [.int .u64 (v.a : Nat)]
  od : Ob w b.d [.int .u64 (v.a : Nat)]
  op : Ob w b.p [P0 b.c, .int .u64 (v.pm : Nat), .int .u64 (v.pn : Nat)]
  oq : Ob w b.q [P0 b.c, .int .u64 (v.qm : Nat), .int .u64 (v.qn : Nat)]
  om : Ob w b.m [.int .u64 v.ms]
  oz : Ob w b.z [.int .u64 v.ms]
  ss : ∃ A c, Ss w b.s b.g A c (L.drop v.k)
  rxy : ∃ Mx cx My cy, Rp w b.x b.d b.B Mx cx v.pm v.pn ∧ Rp w b.y b.d b.B My cy v.qm v.qn ∧ ∀ j, (Value.slice Mx v.pn cx).ownBlock = some j → (Value.slice My v.qn cy).ownBlock ≠ some j
  bel : Below W.heap.size W w
  sz : b.B ≤ w.heap.size
  hk : v.k ≤ L.length
  ha : v.a < 18446744073709551616
  hp : v.pn ≤ 65535
  hq : v.qn ≤ 65535
theorem Rp.chg {S : Nat → Prop} {w w' : World} {x d B : Nat} {M : Option Addr} {c m n : Nat} (h : Rp w x d B M c m n) (hc : Chg S w w') (h1 : ¬ S x) (h2 : ∀ j, B ≤ j → j < w.heap.size → (Value.slice M n c).ownBlock = some j → ¬ S j) : Rp w' x d B M c m n :=
  ⟨h.ob.chg hc h1, own_chg h.own hc (fun j e => h2 j (h.own.lt j e).1 (h.own.lt j e).2 e), h.xB⟩
theorem RdC.chg {S : Nat → Prop} {w w' : World} {A : Option Addr} {n : Nat} {L : List (Nat × Nat)} (h : RdC 2 dv w A n L) (hc : Chg S w w') (hS : ∀ ad, A = some ad → ¬ S ad.block) : RdC 2 dv w' A n L :=
  ⟨h.len, h.le, fun j x hj => by
    obtain ⟨ad, e, hx⟩ := h.cell j x hj
    refine ⟨ad, e, fun i u hu => ?_⟩
    have h1 := hx i u hu
    rw [← h1]
    exact World.cell?_of_block (a := ad.add (j * 2 + i)) (by rw [add_block]; exact hc.block _ (by have := World.block_lt_of_cell? w _ h1; rwa [add_block] at this) (hS ad e))⟩
theorem Ss.chg {S : Nat → Prop} {w w' : World} {s g : Nat} {A : Option Addr} {c : Nat} {R : List (Nat × Nat)} (h : Ss w s g A c R) (hc : Chg S w w') (h1 : ¬ S s) (h2 : ¬ S g) : Ss w' s g A c R :=
  ⟨h.ob.chg hc h1, h.rd.chg hc (fun ad e => by rw [(h.at_ ad e).2]; exact h2), h.cap, h.at_, fun ad e => ⟨(h.ne ad e).1, Nat.lt_of_lt_of_le (h.ne ad e).2 hc.size⟩⟩
theorem below_chg {S : Nat → Prop} {W w w' : World} {B : Nat} (h : Below B W w) (hc : Chg S w w') (hB : B ≤ w.heap.size) (hS : ∀ k, k < B → ¬ S k) : Below B W w' :=
  h.trans ⟨hc.os, hc.tape, hc.output, hc.size, fun k hk => hc.block k (by omega) (hS k hk)⟩
theorem chg_grown {w w' : World} {r : Nat} (g : w.grownBy w' (some r)) : Chg (fun k => k = r) w w' := (Chg.refl _ w).grown g (fun j e => by cases e; exact .inl rfl)
theorem chg_none {w w' : World} (g : w.grownBy w' none) : Chg (fun _ => False) w w' := (Chg.refl _ w).grown g (fun j e => by cases e)
/-- a world in which nothing of them has changed -/
theorem Sr.grow {W : World} {b : Bk} {L : List (Nat × Nat)} {Al : Option Addr} {cl : Nat} {w w' : World} {v : Vs} (h : Sr W b L Al cl w v) (hb : b.Ok W) (g : w.grownBy w' none) : Sr W b L Al cl w' v := by
  have hc := chg_none g
  obtain ⟨A, c, hs⟩ := h.ss
  obtain ⟨Mx, cx, My, cy, h1, h2, h3⟩ := h.rxy
  exact ⟨h.ot.chg hc id, h.oc.chg hc id, h.od.chg hc id, h.op.chg hc id, h.oq.chg hc id, h.om.chg hc id, h.oz.chg hc id, ⟨A, c, hs.chg hc id id⟩,
    ⟨Mx, cx, My, cy, h1.chg hc id (fun _ _ _ _ => id), h2.chg hc id (fun _ _ _ _ => id), h3⟩, below_chg h.bel hc h.bel.size (fun _ _ => id), Nat.le_trans h.sz g.size, h.hk, h.ha, h.hp, h.hq⟩
/-- both clocks turned -/
theorem Sr.clocks {W : World} {b : Bk} {L : List (Nat × Nat)} {Al : Option Addr} {cl : Nat} {w w' : World} {v : Vs} {w1 : World} (h : Sr W b L Al cl w v) (hb : b.Ok W) {a' : Nat} (ha' : a' < 18446744073709551616) (g1 : w.grownBy w1 (some b.c)) (o1 : Ob w1 b.c [.int .u64 (a' : Nat)]) (g2 : w1.grownBy w' (some b.d)) (o2 : Ob w' b.d [.int .u64 (a' : Nat)]) : Sr W b L Al cl w' { v with a := a' } := by
  have hc : Chg (fun k => k = b.c ∨ k = b.d) w w' := ((Chg.refl _ w).grown g1 (fun j e => by cases e; exact .inl (.inl rfl))).grown g2 (fun j e => by cases e; exact .inl (.inr rfl))
  obtain ⟨A, c, hs⟩ := h.ss
  obtain ⟨Mx, cx, My, cy, h1, h2, h3⟩ := h.rxy
  obtain ⟨i0, i1, i2, i3, i4, i5, i6, i7, i8, i9, i10, i11, i12, isg⟩ := hb
  exact ⟨h.ot.chg hc (by omega), o1.kept g2 (by simp; omega), o2, h.op.chg hc (by omega), h.oq.chg hc (by omega), h.om.chg hc (by omega), h.oz.chg hc (by omega), ⟨A, c, hs.chg hc (by omega) (by omega)⟩,
    ⟨Mx, cx, My, cy, h1.chg hc (by omega) (fun j hj _ _ => by omega), h2.chg hc (by omega) (fun j hj _ _ => by omega), h3⟩, below_chg h.bel hc h.bel.size (fun k hk => by omega), Nat.le_trans h.sz hc.size, h.hk, ha', h.hp, h.hq⟩
/-- the Stream's next state -/
theorem Sr.stream {W : World} {b : Bk} {L : List (Nat × Nat)} {Al : Option Addr} {cl : Nat} {w w' : World} {v : Vs} (h : Sr W b L Al cl w v) (hb : b.Ok W) (g : w.grownBy w' (some b.s)) {k' : Nat} (hk' : k' ≤ L.length) (o : ∃ A c, Ss w' b.s b.g A c (L.drop k')) (wt : World) (g2 : w'.grownBy wt (some b.T)) (ot : Ob wt b.T [P0 b.c, P0 b.p, P0 b.q, P0 b.m, P0 b.s, P0 b.d, P0 b.x, P0 b.y, P0 b.z, .slice Al L.length cl, .int .i64 (k' : Nat)]) : Sr W b L Al cl wt { v with k := k' } := by
  have hc : Chg (fun k => k = b.s ∨ k = b.T) w wt := ((Chg.refl _ w).grown g (fun j e => by cases e; exact .inl (.inl rfl))).grown g2 (fun j e => by cases e; exact .inl (.inr rfl))
  obtain ⟨A, c, hs⟩ := o
  obtain ⟨Mx, cx, My, cy, h1, h2, h3⟩ := h.rxy
  obtain ⟨i0, i1, i2, i3, i4, i5, i6, i7, i8, i9, i10, i11, i12, isg⟩ := hb
  have hc2 := chg_grown g2
  exact ⟨ot, h.oc.chg hc (by omega), h.od.chg hc (by omega), h.op.chg hc (by omega), h.oq.chg hc (by omega), h.om.chg hc (by omega), h.oz.chg hc (by omega), ⟨A, c, hs.chg hc2 (by omega) (by omega)⟩,
    ⟨Mx, cx, My, cy, h1.chg hc (by omega) (fun j hj _ _ => by omega), h2.chg hc (by omega) (fun j hj _ _ => by omega), h3⟩, below_chg h.bel hc h.bel.size (fun k hk => by omega), Nat.le_trans h.sz hc.size, hk', h.ha, h.hp, h.hq⟩
/-- both Mixeds turned -/
theorem Sr.mixed {W : World} {b : Bk} {L : List (Nat × Nat)} {Al : Option Addr} {cl : Nat} {w w' : World} {v : Vs} {w1 : World} (h : Sr W b L Al cl w v) (hb : b.Ok W) {s' : Int} (g1 : w.grownBy w1 (some b.m)) (o1 : Ob w1 b.m [.int .u64 s']) (g2 : w1.grownBy w' (some b.z)) (o2 : Ob w' b.z [.int .u64 s']) : Sr W b L Al cl w' { v with ms := s' } := by
  have hc : Chg (fun k => k = b.m ∨ k = b.z) w w' := ((Chg.refl _ w).grown g1 (fun j e => by cases e; exact .inl (.inl rfl))).grown g2 (fun j e => by cases e; exact .inl (.inr rfl))
  obtain ⟨A, c, hs⟩ := h.ss
  obtain ⟨Mx, cx, My, cy, h1, h2, h3⟩ := h.rxy
  obtain ⟨i0, i1, i2, i3, i4, i5, i6, i7, i8, i9, i10, i11, i12, isg⟩ := hb
  exact ⟨h.ot.chg hc (by omega), h.oc.chg hc (by omega), h.od.chg hc (by omega), h.op.chg hc (by omega), h.oq.chg hc (by omega), o1.kept g2 (by simp; omega), o2, ⟨A, c, hs.chg hc (by omega) (by omega)⟩,
    ⟨Mx, cx, My, cy, h1.chg hc (by omega) (fun j hj _ _ => by omega), h2.chg hc (by omega) (fun j hj _ _ => by omega), h3⟩, below_chg h.bel hc h.bel.size (fun k hk => by omega), Nat.le_trans h.sz hc.size, h.hk, h.ha, h.hp, h.hq⟩
/-- a Pairs of the program and the document's turned -/
theorem Sr.pairsX {W : World} {b : Bk} {L : List (Nat × Nat)} {Al : Option Addr} {cl : Nat} {w w' : World} {v : Vs} {w1 : World} (h : Sr W b L Al cl w v) (hb : b.Ok W) {m' n' : Nat} (hn' : n' ≤ 65535) (g1 : w.grownBy w1 (some b.p)) (o1 : Ob w1 b.p [P0 b.c, .int .u64 (m' : Nat), .int .u64 (n' : Nat)])
    {M M' : Option Addr} {cc c' : Nat} (hrx : ∃ Mo co, Rp w b.x b.d b.B M cc v.pm v.pn ∧ Rp w b.y b.d b.B Mo co v.qm v.qn ∧ ∀ j, (Value.slice M v.pn cc).ownBlock = some j → (Value.slice Mo v.qn co).ownBlock ≠ some j)
    (g2 : Chg (fun k => k = b.x ∨ (Value.slice M v.pn cc).ownBlock = some k) w1 w') (o2 : Rp w' b.x b.d b.B M' c' m' n') (hnew : ∀ j, (Value.slice M' n' c').ownBlock = some j → (Value.slice M v.pn cc).ownBlock = some j ∨ w1.heap.size ≤ j) : Sr W b L Al cl w' { v with pm := m', pn := n' } := by
  obtain ⟨Mo, co, hM, hMo, hne⟩ := hrx
  have hMB : ∀ j, (Value.slice M v.pn cc).ownBlock = some j → b.B ≤ j ∧ j < w.heap.size := fun j e => hM.own.lt j e
  have hMoB : ∀ j, (Value.slice Mo v.qn co).ownBlock = some j → b.B ≤ j ∧ j < w.heap.size := fun j e => hMo.own.lt j e
  have hc1 := chg_grown g1
  have hsz1 := g1.size
  obtain ⟨A, c, hs⟩ := h.ss
  obtain ⟨i0, i1, i2, i3, i4, i5, i6, i7, i8, i9, i10, i11, i12, isg⟩ := hb
  have ns : ∀ k, k < b.B → k ≠ b.x → ¬ (k = b.x ∨ (Value.slice M v.pn cc).ownBlock = some k) := fun k hk hkx e => by
    rcases e with e | e
    · exact hkx e
    · have := (hMB k e).1; omega
  have hMo' : Rp w' b.y b.d b.B Mo co v.qm v.qn := (hMo.chg hc1 (by omega) (fun j hj _ _ => by omega)).chg g2 (ns _ (by omega) (by omega)) (fun j hj _ e => by
    rintro (e2 | e2)
    · omega
    · exact hne j e2 e)
  exact ⟨(h.ot.chg hc1 (by omega)).chg g2 (ns _ (by omega) (by omega)), (h.oc.chg hc1 (by omega)).chg g2 (ns _ (by omega) (by omega)), (h.od.chg hc1 (by omega)).chg g2 (ns _ (by omega) (by omega)), o1.chg g2 (ns _ (by omega) (by omega)), (h.oq.chg hc1 (by omega)).chg g2 (ns _ (by omega) (by omega)), (h.om.chg hc1 (by omega)).chg g2 (ns _ (by omega) (by omega)), (h.oz.chg hc1 (by omega)).chg g2 (ns _ (by omega) (by omega)),
    ⟨A, c, (hs.chg hc1 (by omega) (by omega)).chg g2 (ns _ (by omega) (by omega)) (ns _ (by omega) (by omega))⟩,
    ⟨M', c', Mo, co, o2, hMo', fun j e => by
      rcases hnew j e with e1 | e1
      · exact hne j e1
      · intro e2; have := (hMoB j e2).2; omega⟩,
    below_chg (below_chg h.bel hc1 h.bel.size (fun k hk => by omega)) g2 (Nat.le_trans h.bel.size hsz1) (fun k hk => ns k (by omega) (by omega)), Nat.le_trans h.sz (Nat.le_trans hsz1 g2.size), h.hk, h.ha, hn', h.hq⟩
/-- a Pairs of the program and the document's turned -/
theorem Sr.pairsY {W : World} {b : Bk} {L : List (Nat × Nat)} {Al : Option Addr} {cl : Nat} {w w' : World} {v : Vs} {w1 : World} (h : Sr W b L Al cl w v) (hb : b.Ok W) {m' n' : Nat} (hn' : n' ≤ 65535) (g1 : w.grownBy w1 (some b.q)) (o1 : Ob w1 b.q [P0 b.c, .int .u64 (m' : Nat), .int .u64 (n' : Nat)])
    {M M' : Option Addr} {cc c' : Nat} (hrx : ∃ Mo co, Rp w b.y b.d b.B M cc v.qm v.qn ∧ Rp w b.x b.d b.B Mo co v.pm v.pn ∧ ∀ j, (Value.slice M v.qn cc).ownBlock = some j → (Value.slice Mo v.pn co).ownBlock ≠ some j)
    (g2 : Chg (fun k => k = b.y ∨ (Value.slice M v.qn cc).ownBlock = some k) w1 w') (o2 : Rp w' b.y b.d b.B M' c' m' n') (hnew : ∀ j, (Value.slice M' n' c').ownBlock = some j → (Value.slice M v.qn cc).ownBlock = some j ∨ w1.heap.size ≤ j) : Sr W b L Al cl w' { v with qm := m', qn := n' } := by
  obtain ⟨Mo, co, hM, hMo, hne⟩ := hrx
  have hMB : ∀ j, (Value.slice M v.qn cc).ownBlock = some j → b.B ≤ j ∧ j < w.heap.size := fun j e => hM.own.lt j e
  have hMoB : ∀ j, (Value.slice Mo v.pn co).ownBlock = some j → b.B ≤ j ∧ j < w.heap.size := fun j e => hMo.own.lt j e
  have hc1 := chg_grown g1
  have hsz1 := g1.size
  obtain ⟨A, c, hs⟩ := h.ss
  obtain ⟨i0, i1, i2, i3, i4, i5, i6, i7, i8, i9, i10, i11, i12, isg⟩ := hb
  have ns : ∀ k, k < b.B → k ≠ b.y → ¬ (k = b.y ∨ (Value.slice M v.qn cc).ownBlock = some k) := fun k hk hkx e => by
    rcases e with e | e
    · exact hkx e
    · have := (hMB k e).1; omega
  have hMo' : Rp w' b.x b.d b.B Mo co v.pm v.pn := (hMo.chg hc1 (by omega) (fun j hj _ _ => by omega)).chg g2 (ns _ (by omega) (by omega)) (fun j hj _ e => by
    rintro (e2 | e2)
    · omega
    · exact hne j e2 e)
  exact ⟨(h.ot.chg hc1 (by omega)).chg g2 (ns _ (by omega) (by omega)), (h.oc.chg hc1 (by omega)).chg g2 (ns _ (by omega) (by omega)), (h.od.chg hc1 (by omega)).chg g2 (ns _ (by omega) (by omega)), (h.op.chg hc1 (by omega)).chg g2 (ns _ (by omega) (by omega)), o1.chg g2 (ns _ (by omega) (by omega)), (h.om.chg hc1 (by omega)).chg g2 (ns _ (by omega) (by omega)), (h.oz.chg hc1 (by omega)).chg g2 (ns _ (by omega) (by omega)),
    ⟨A, c, (hs.chg hc1 (by omega) (by omega)).chg g2 (ns _ (by omega) (by omega)) (ns _ (by omega) (by omega))⟩,
    ⟨Mo, co, M', c', hMo', o2, fun j e e2 => by
      rcases hnew j e2 with e1 | e1
      · exact hne j e1 e
      · have := (hMoB j e).2; omega⟩,
    below_chg (below_chg h.bel hc1 h.bel.size (fun k hk => by omega)) g2 (Nat.le_trans h.bel.size hsz1) (fun k hk => ns k (by omega) (by omega)), Nat.le_trans h.sz (Nat.le_trans hsz1 g2.size), h.hk, h.ha, h.hp, hn'⟩
end Go.Proofs.Ytgbjfmokfkdglaa
