/-
  nonce's Group of several replicas over a clock: its state; Pass, Wipe, Draw, Drawn.
-/
import Derived.Test.YtgbjfmokfkdglaaNRef
import Derived.Test.YtgbjfmokfkdglaaNGroup2
import Derived.Test.YtgbjfmokfkdglaaNFreshes
set_option linter.unusedVariables false
set_option linter.unusedSimpArgs false
namespace Go.Proofs.Ytgbjfmokfkdglaa
open Go.RowKit

abbrev Pb (n : Nat) : Value := .pointer (some ⟨n, 0, none⟩)
/-- stamps, cell by cell -/
def SVL (l : List St) : List Value := l.flatMap sv
theorem SVL_len (l : List St) : (SVL l).length = l.length * 3 := by
  induction l with
  | nil => rfl
  | cons x l ih => rw [SVL, List.flatMap_cons, List.length_append, show (List.flatMap sv l) = SVL l from rfl, ih]; simp [sv]; omega
theorem SVL_push (l : List St) (x : St) : SVL (l ++ [x]) = SVL l ++ sv x := by simp [SVL]
theorem SVL_one (l : List St) : ∀ u ∈ SVL l, u.oneCell' = true := by
  intro u hu
  obtain ⟨x, _, hx⟩ := List.mem_flatMap.1 hu
  simp [sv] at hx
  rcases hx with rfl | rfl | rfl <;> rfl
/-- where the group lies -/
structure GrB (W : World) (B b sb pb c n : Nat) (pp : Nat → Nat) : Prop where
  b1 : W.heap.size ≤ b
  b2 : b < B
  s1 : W.heap.size ≤ sb
  s2 : sb < B
  p1 : W.heap.size ≤ pb
  p2 : pb < B
  c1 : W.heap.size ≤ c
  c2 : c < B
  d : b ≠ sb ∧ b ≠ pb ∧ b ≠ c ∧ sb ≠ pb ∧ sb ≠ c ∧ pb ≠ c
  q : ∀ i, i < n → W.heap.size ≤ pp i ∧ pp i < B ∧ pp i ≠ b ∧ pp i ≠ sb ∧ pp i ≠ pb ∧ pp i ≠ c
  inj : ∀ i j, i < n → j < n → pp i = pp j → i = j
structure Gr (W : World) (B b sb pb c n : Nat) (pp : Nat → Nat) (cp cs : Nat) (w : World) (D : Option Addr) (cd : Nat) (l : List St) (a : Nat) (mq : Nat → Nat × Nat) : Prop where
  og : Ob w b [Pb c, .slice (some ⟨pb, 0, none⟩) n cp, .slice (some ⟨sb, 0, none⟩) n cs, .slice D l.length cd]
  oc : Ob w c [.int .u64 (a : Nat)]
  op : ∀ i, i < n → Ob w (pp i) [Pb c, .int .u64 ((mq i).1 : Nat), .int .u64 ((mq i).2 : Nat)]
  opr : ∀ i, i < n → w.cell? ⟨pb, i, none⟩ = some (Pb (pp i))
  os : ∀ i, i < n → w.cell? ⟨sb, i, none⟩ = some (.iface 34 (Pb (pp i)))
  od : w.ownsRow B 27 3 (.slice D l.length cd) l.length (SVL l)
  bel : Below W.heap.size W w
  sz : B ≤ w.heap.size
theorem cell_chg {S : Nat → Prop} {w w' : World} {a : Addr} {v : Value} (h : w.cell? a = some v) (hc : Chg S w w') (hb : ¬ S a.block) : w'.cell? a = some v :=
  (World.cell?_of_block (a := a) (hc.block a.block (World.block_lt_of_cell? w _ h) hb)).trans h
theorem Gr.chg {W : World} {B b sb pb c n : Nat} {pp : Nat → Nat} {cp cs : Nat} {w w' : World} {D : Option Addr} {cd : Nat} {l : List St} {a : Nat} {mq : Nat → Nat × Nat} (h : Gr W B b sb pb c n pp cp cs w D cd l a mq) (hg : GrB W B b sb pb c n pp) {S : Nat → Prop} (hc : Chg S w w') (hS : ∀ r, r < B → ¬ S r) (hD : ∀ j, (Value.slice D l.length cd).ownBlock = some j → ¬ S j) : Gr W B b sb pb c n pp cp cs w' D cd l a mq :=
  ⟨h.og.chg hc (hS _ hg.b2), h.oc.chg hc (hS _ hg.c2), fun i hi => (h.op i hi).chg hc (hS _ (hg.q i hi).2.1), fun i hi => cell_chg (h.opr i hi) hc (hS _ hg.p2), fun i hi => cell_chg (h.os i hi) hc (hS _ hg.s2), own_chg h.od hc hD,
    h.bel.trans ⟨hc.os, hc.tape, hc.output, Nat.le_trans h.bel.size hc.size |> fun _ => hc.size, fun k hk => hc.block k (Nat.lt_of_lt_of_le hk h.bel.size) (hS _ (Nat.lt_trans (Nat.lt_of_lt_of_le hk hg.b1) hg.b2))⟩, Nat.le_trans h.sz hc.size⟩
theorem Gr.grow {W : World} {B b sb pb c n : Nat} {pp : Nat → Nat} {cp cs : Nat} {w w' : World} {D : Option Addr} {cd : Nat} {l : List St} {a : Nat} {mq : Nat → Nat × Nat} (h : Gr W B b sb pb c n pp cp cs w D cd l a mq) (hg : GrB W B b sb pb c n pp) (g : w.grownBy w' none) : Gr W B b sb pb c n pp cp cs w' D cd l a mq :=
  h.chg hg ((Chg.refl (fun _ => False) w).grown g (fun j e => by cases e)) (fun _ _ => id) (fun _ _ => id)
theorem Gr.other {W : World} {B b sb pb c n : Nat} {pp : Nat → Nat} {cp cs : Nat} {w w' : World} {D : Option Addr} {cd : Nat} {l : List St} {a : Nat} {mq : Nat → Nat × Nat} (h : Gr W B b sb pb c n pp cp cs w D cd l a mq) (hg : GrB W B b sb pb c n pp) {r : Nat} (g : w.grownBy w' (some r)) (hr : B ≤ r) (hD : (Value.slice D l.length cd).ownBlock ≠ some r) : Gr W B b sb pb c n pp cp cs w' D cd l a mq :=
  h.chg hg (S := fun k => k = r) ((Chg.refl _ w).grown g (fun j e => by cases e; exact .inl rfl)) (fun k hk e => by omega) (fun j e e2 => hD (e2 ▸ e))
theorem Gr.src {W : World} {B b sb pb c n : Nat} {pp : Nat → Nat} {cp cs : Nat} {w w' : World} {D : Option Addr} {cd : Nat} {l : List St} {a : Nat} {mq : Nat → Nat × Nat} (h : Gr W B b sb pb c n pp cp cs w D cd l a mq) (hg : GrB W B b sb pb c n pp) {k : Nat} (hk : k < n) (g : w.grownBy w' (some (pp k))) {m q : Nat} (o : Ob w' (pp k) [Pb c, .int .u64 (m : Nat), .int .u64 (q : Nat)]) : Gr W B b sb pb c n pp cp cs w' D cd l a (fun i => if i = k then (m, q) else mq i) := by
  obtain ⟨q1, q2, q3, q4, q5, q6⟩ := hg.q k hk
  refine ⟨h.og.kept g (by simpa using Ne.symm q3), h.oc.kept g (by simpa using Ne.symm q6), fun i hi => ?_, fun i hi => g.cell (h.opr i hi) (by simpa using Ne.symm q5), fun i hi => g.cell (h.os i hi) (by simpa using Ne.symm q4), h.od.kept g (.inr (fun e => by have := (h.od.lt _ e).1; omega)), h.bel.trans (Below.of_grown g q1 h.bel.size), Nat.le_trans h.sz g.size⟩
  by_cases e : i = k
  · subst e; simpa using o
  · simp only [e, if_false]
    exact (h.op i hi).kept g (by simpa using fun e2 => e (hg.inj i k hi hk e2))
theorem Gr.clk {W : World} {B b sb pb c n : Nat} {pp : Nat → Nat} {cp cs : Nat} {w w' : World} {D : Option Addr} {cd : Nat} {l : List St} {a : Nat} {mq : Nat → Nat × Nat} (h : Gr W B b sb pb c n pp cp cs w D cd l a mq) (hg : GrB W B b sb pb c n pp) (g : w.grownBy w' (some c)) {a' : Nat} (o : Ob w' c [.int .u64 (a' : Nat)]) : Gr W B b sb pb c n pp cp cs w' D cd l a' mq := by
  obtain ⟨d1, d2, d3, d4, d5, d6⟩ := hg.d
  exact ⟨h.og.kept g (by simpa using d3), o, fun i hi => (h.op i hi).kept g (by simpa using (hg.q i hi).2.2.2.2.2), fun i hi => g.cell (h.opr i hi) (by simpa using d6), fun i hi => g.cell (h.os i hi) (by simpa using d5), h.od.kept g (.inr (fun e => by have := (h.od.lt _ e).1; have := hg.c2; omega)), h.bel.trans (Below.of_grown g hg.c1 h.bel.size), Nat.le_trans h.sz g.size⟩
theorem Gr.pushed {W : World} {B b sb pb c n : Nat} {pp : Nat → Nat} {cp cs : Nat} {v w9 : World} {D : Option Addr} {cd : Nat} {l : List St} {a : Nat} {mq : Nat → Nat × Nat} (h : Gr W B b sb pb c n pp cp cs v D cd l a mq) (hG : GrB W B b sb pb c n pp) {V : World} (hV : v.grownBy V none) (hVs : v.heap.size ≤ V.heap.size) {D' : Option Addr} {cd' : Nat} (x : St)
    (ho : w9.ownsRow B 27 3 (.slice D' (l.length + 1) cd') (l.length + 1) (SVL l ++ sv x)) (hg : V.grownBy w9 (Value.slice D l.length cd).ownBlock)
    (hb : (Value.slice D' (l.length + 1) cd').ownBlock = (Value.slice D l.length cd).ownBlock ∨ (Value.slice D' (l.length + 1) cd').ownBlock = some V.heap.size) :
    w9.cell? ⟨b, 3, none⟩ = some (.slice D l.length cd) ∧ w9.frozen? ⟨b, 3, none⟩ = false ∧ v.grownBy w9 (Value.slice D l.length cd).ownBlock ∧ (∀ j, (Value.slice D' (l.length + 1) cd').ownBlock = some j → (Value.slice D l.length cd).ownBlock = some j ∨ v.heap.size ≤ j) ∧ Gr W B b sb pb c n pp cp cs (w9.setCell ⟨b, 3, none⟩ (.slice D' (l.length + 1) cd')) D' cd' (l ++ [x]) a mq := by
  have g9 : v.grownBy w9 (Value.slice D l.length cd).ownBlock := (hV.but _).trans hg
  have hlo : ∀ j, (Value.slice D l.length cd).ownBlock = some j → B ≤ j := fun j e => (h.od.lt j e).1
  have hc : Chg (fun k => (Value.slice D l.length cd).ownBlock = some k) v w9 := (Chg.refl _ v).grown g9 (fun j e => .inl e)
  have hS : ∀ r, r < B → ¬ ((Value.slice D l.length cd).ownBlock = some r) := fun r hr e => by have := hlo r e; omega
  have og := h.og.chg hc (hS _ hG.b2)
  have hg2 := grown_setCell w9 ⟨b, 3, none⟩ (.slice D' (l.length + 1) cd')
  obtain ⟨d1, d2, d3, d4, d5, d6⟩ := hG.d
  refine ⟨og.cell 3 rfl, og.fr 3 (by simp), g9, fun j e => by rcases hb with hb | hb; { left; rw [← hb]; exact e }; { right; rw [hb] at e; cases e; exact hVs }, ?_⟩
  have e1 : (l ++ [x]).length = l.length + 1 := by simp
  refine ⟨?_, (h.oc.chg hc (hS _ hG.c2)).kept hg2 (by simpa using Ne.symm d3), fun i hi => ((h.op i hi).chg hc (hS _ (hG.q i hi).2.1)).kept hg2 (by simpa using (hG.q i hi).2.2.1), fun i hi => hg2.cell (cell_chg (h.opr i hi) hc (hS _ hG.p2)) (by simpa using Ne.symm d2), fun i hi => hg2.cell (cell_chg (h.os i hi) hc (hS _ hG.s2)) (by simpa using Ne.symm d1), ?_, ?_, ?_⟩
  · rw [e1]; exact og.set 3 (by simp) _
  · rw [e1, SVL_push]
    exact ho.kept hg2 (.inr (fun e => by have h1 : B ≤ b := (ho.lt _ e).1; have h2 := hG.b2; omega))
  · refine (h.bel.trans ⟨hc.os, hc.tape, hc.output, hc.size, fun k hk => hc.block k (Nat.lt_of_lt_of_le hk h.bel.size) (hS _ (Nat.lt_trans (Nat.lt_of_lt_of_le hk hG.b1) hG.b2))⟩).setCell hG.b1 _
  · rw [World.size_setCell]; exact Nat.le_trans h.sz hc.size
/-- what a call of the group changes: its own blocks and its list of stamps alone -/
structure GrS (B : Nat) (V : Value) (w w' : World) (V' : Value) : Prop where
  chg : Chg (fun k => k < B ∨ V.ownBlock = some k) w w'
  new : ∀ j, V'.ownBlock = some j → V.ownBlock = some j ∨ w.heap.size ≤ j
theorem GrS.of {B : Nat} {V : Value} {w w' : World} {r : Nat} (g : w.grownBy w' (some r)) (h : r < B) : GrS B V w w' V := ⟨(Chg.refl _ w).grown g (fun j e => by cases e; exact .inl (.inl h)), fun j e => .inl e⟩
theorem grpPass_any (W : World) (B b sb pb c n : Nat) (pp : Nat → Nat) (cp cs : Nat) (w : World) (D : Option Addr) (cd : Nat) (l : List St) (a : Nat) (mq : Nat → Nat × Nat) (z : Nat) (h : Gr W B b sb pb c n pp cp cs w D cd l a mq) (hg : GrB W B b sb pb c n pp) (ha : a < 18446744073709551616) (hz : z < 18446744073709551616) :
    Calls Try.prog 39 #[Pb b, .int .u64 (z : Nat)] w fun e w' => e = .returned (.int .i64 ((cPass a z).1 : Nat)) ∧ Gr W B b sb pb c n pp cp cs w' D cd l (cPass a z).2 mq ∧ GrS B (.slice D l.length cd) w w' (.slice D l.length cd) := by
  have H := Lib.hid h
  have HG := Lib.hid hg
  have F := Lib.hid (pass_any c a z w h.oc ha hz)
  have y0 := h.og.cell 0 rfl
  clear h hg ha hz
  go_enter Try.func39, Try.ntmps39
  go_wp2_with fail
  refine F.out.mono ?_
  clear F
  rintro e w' ⟨rfl, g, _, o⟩
  have HF := Lib.hid (H.out.clk HG.out g o)
  have HS : Hid (GrS B (.slice D l.length cd) w w' (.slice D l.length cd)) := GrS.of g HG.out.c2
  clear g o y0
  go_wp2
  go_ret
  exact ⟨rfl, HF.out, HS.out⟩
theorem grpWipe_any (W : World) (B b sb pb c n : Nat) (pp : Nat → Nat) (cp cs : Nat) (w : World) (D : Option Addr) (cd : Nat) (l : List St) (a : Nat) (mq : Nat → Nat × Nat) (k : Nat) (h : Gr W B b sb pb c n pp cp cs w D cd l a mq) (hg : GrB W B b sb pb c n pp) (hk : k < n) (hn : n ≤ 7) :
    Calls Try.prog 40 #[Pb b, .int .i64 (k : Nat)] w fun e w' => e = .returned (.int .i64 0) ∧ Gr W B b sb pb c n pp cp cs w' D cd l a (fun i => if i = k then (0, 0) else mq i) ∧ GrS B (.slice D l.length cd) w w' (.slice D l.length cd) := by
  have H := Lib.hid h
  have HG := Lib.hid hg
  have HK := Lib.hid hk
  have F := Lib.hid (wipe_any (pp k) c _ _ w (h.op k hk))
  have y1 := h.og.cell 1 rfl
  have y2 := h.og.cell 2 rfl
  have yp := h.opr k hk
  have k0 : (0 : Int) ≤ (k : Int) := by omega
  have k1 : (k : Int) < (n : Int) := by omega
  have k2 : (n : Int) ≤ 7 := by omega
  clear h hg hk hn
  go_enter Try.func40, Try.ntmps40
  go_wp2_with fail
  refine F.out.mono ?_
  clear F
  rintro e w' ⟨rfl, g, _, o⟩
  have HF := Lib.hid (H.out.src HG.out HK.out g o)
  have HS : Hid (GrS B (.slice D l.length cd) w w' (.slice D l.length cd)) := GrS.of g (HG.out.q k HK.out).2.1
  clear g o y1 y2 yp
  go_wp2
  go_ret
  exact ⟨rfl, HF.out, HS.out⟩
set_option maxRecDepth 100000 in
set_option maxHeartbeats 1600000 in
theorem grpDraw_err (W : World) (B b sb pb c n : Nat) (pp : Nat → Nat) (cp cs : Nat) (w : World) (D : Option Addr) (cd : Nat) (l : List St) (a : Nat) (mq : Nat → Nat × Nat) (k : Nat) (h : Gr W B b sb pb c n pp cp cs w D cd l a mq) (hg : GrB W B b sb pb c n pp) (hk : k < n) (hn : n ≤ 7) (hm : (mq k).1 = a) (hq : (mq k).2 = 65535) :
    Calls Try.prog 41 #[Pb b, .int .i64 (k : Nat)] w fun e w' => e = .returned (.tuple #[.agg #[.int .u64 0, .int .u64 0], .int .i64 20]) ∧ Gr W B b sb pb c n pp cp cs w' D cd l a (fun i => if i = k then (a, 65535) else mq i) ∧ GrS B (.slice D l.length cd) w w' (.slice D l.length cd) := by
  have HG := Lib.hid hg
  have HK := Lib.hid hk
  have HKQ := Lib.hid (hg.q k hk)
  have y2 := h.og.cell 2 rfl
  have ys := h.os k hk
  have k0 : (0 : Int) ≤ (k : Int) := by omega
  have k1 : (k : Int) < (n : Int) := by omega
  have k2 : (n : Int) ≤ 7 := by omega
  have lb := h.og.lt (by simp)
  have ls := World.block_lt_of_cell? w _ ys
  have G0 := Lib.hid (h.grow hg (World.grownBy_alloc w (.cells #[.int .u64 0, .int .u64 0] 25) none))
  have R0 := Lib.hid (Ob.fresh w #[.int .u64 0, .int .u64 0] 25)
  have F := Lib.hid (draw_full (pp k) c a _ _ _ G0.out.oc (G0.out.op k hk) (hg.q k hk).2.2.2.2.2 (by rw [hm]) (by rw [hq]))
  have HB : Hid (B ≤ w.heap.size) := h.sz
  have DL : Hid (∀ j, (Value.slice D l.length cd).ownBlock = some j → j < w.heap.size) := fun j e => (h.od.lt j e).2
  clear h hg hk hn hm hq
  go_enter Try.func41, Try.ntmps41
  go_wp2_with fail
  refine F.out.mono ?_
  clear F
  rintro e w1 ⟨rfl, g, o⟩
  have R1 : Hid (Ob w1 w.heap.size [.int .u64 0, .int .u64 0]) := R0.out.kept g (by have := HB.out; have := HKQ.out.2.1; simp; omega)
  have HF := Lib.hid (G0.out.src HG.out HK.out g o)
  have C1 : Hid (Chg (fun k => k < B ∨ (Value.slice D l.length cd).ownBlock = some k) w w1) := ((Chg.refl _ w).grown (World.grownBy_alloc w _ none) (fun j e => by cases e)).grown g (fun j e => by cases e; exact .inl (.inl (HG.out.q k HK.out).2.1))
  have z0 := R1.out.cell 0 rfl
  have z1 := R1.out.cell 1 rfl
  have z2 := R1.out.fr 0 (by simp)
  have z3 := R1.out.fr 1 (by simp)
  have z4 : w.heap.size < w1.heap.size := R1.out.lt (by simp)
  clear g o y2 ys lb ls
  go_wp2_with fail
  (try simp only [Exit.inBlock, Exit.then])
  refine ret_draw Try.results41 w.heap.size _ _ _ rfl rfl (((R1.out.set 0 (by simp) _).set 1 (by simp) _).alloc _) rfl ?_
  have hg1 : w1.grownBy ((w1.setCell ⟨w.heap.size, 0, none⟩ (.int .u64 0)).setCell ⟨w.heap.size, 1, none⟩ (.int .u64 0)) (some w.heap.size) := gb_set (gb_set (World.grownBy.refl _ _) _ _ (.inl rfl)) _ _ (.inl rfl)
  refine ⟨rfl, (HF.out.other HG.out hg1 HB.out (fun e => by have := DL.out _ e; omega)).grow HG.out (World.grownBy_alloc _ _ none), ⟨(C1.out.grown hg1 (fun j e => by cases e; exact .inr (Nat.le_refl _))).grown (World.grownBy_alloc _ _ none) (fun j e => by cases e), fun j e => .inl e⟩⟩
set_option maxRecDepth 100000 in
set_option maxHeartbeats 1600000 in
theorem grpDraw_ok (W : World) (B b sb pb c n : Nat) (pp : Nat → Nat) (cp cs : Nat) (w : World) (D : Option Addr) (cd : Nat) (l : List St) (a : Nat) (mq : Nat → Nat × Nat) (k x : Nat) (h : Gr W B b sb pb c n pp cp cs w D cd l a mq) (hg : GrB W B b sb pb c n pp) (hk : k < n) (hn : n ≤ 7) (hx : nx a (mq k).1 (mq k).2 = x) (hq : ¬ ((mq k).1 = a ∧ (mq k).2 = 65535)) (hq2 : (mq k).2 ≤ 65535) (hl : (l.length + 1) * 24 ≤ 140737488355328) :
    Calls Try.prog 41 #[Pb b, .int .i64 (k : Nat)] w fun e w' => e = .returned (.tuple #[.agg #[.int .u64 (a : Nat), .int .u64 (x : Nat)], .int .i64 0]) ∧ ∃ D' cd', Gr W B b sb pb c n pp cp cs w' D' cd' (l ++ [((k : Int), a, x)]) a (fun i => if i = k then (a, x) else mq i) ∧ GrS B (.slice D l.length cd) w w' (.slice D' (l ++ [((k : Int), a, x)]).length cd') := by
  have HG := Lib.hid hg
  have HK := Lib.hid hk
  have HKQ := Lib.hid (hg.q k hk)
  have HL := Lib.hid hl
  have y2 := h.og.cell 2 rfl
  have ys := h.os k hk
  have k0 : (0 : Int) ≤ (k : Int) := by omega
  have k1 : (k : Int) < (n : Int) := by omega
  have k2 : (n : Int) ≤ 7 := by omega
  have lb := h.og.lt (by simp)
  have ls := World.block_lt_of_cell? w _ ys
  have G0 := Lib.hid (h.grow hg (World.grownBy_alloc w (.cells #[.int .u64 0, .int .u64 0] 25) none))
  have R0 := Lib.hid (Ob.fresh w #[.int .u64 0, .int .u64 0] 25)
  have F := draw_any (pp k) c a _ _ _ G0.out.oc (G0.out.op k hk) (hg.q k hk).2.2.2.2.2 hq2
  rw [pDraw_ok' hq, hx] at F
  have F := Lib.hid F
  have HB : Hid (B ≤ w.heap.size) := h.sz
  have DL : Hid (∀ j, (Value.slice D l.length cd).ownBlock = some j → j < w.heap.size) := fun j e => (h.od.lt j e).2
  clear h hg hk hn hx hq hq2 hl
  go_enter Try.func41, Try.ntmps41
  go_wp2_with fail
  refine F.out.mono ?_
  clear F
  rintro e w1 ⟨rfl, g, o⟩
  have G1' := Lib.hid (G0.out.src HG.out HK.out g o)
  have R1 : Hid (Ob w1 w.heap.size [.int .u64 0, .int .u64 0]) := R0.out.kept g (by have := HB.out; have := HKQ.out.2.1; simp; omega)
  have zz : Hid (w.heap.size < w1.heap.size) := R1.out.lt (by simp)
  have R2 := Lib.hid (R1.out.alloc (.cells #[.int .u64 (a : Nat), .int .u64 (x : Nat)] 25))
  have S2 := Lib.hid (Ob.fresh w1 #[.int .u64 (a : Nat), .int .u64 (x : Nat)] 25)
  have G2 := Lib.hid (G1'.out.grow HG.out (World.grownBy_alloc w1 (.cells #[.int .u64 (a : Nat), .int .u64 (x : Nat)] 25) none))
  have C2 : Hid (Chg (fun k => k < B ∨ (Value.slice D l.length cd).ownBlock = some k) w (w1.alloc (.cells #[.int .u64 (a : Nat), .int .u64 (x : Nat)] 25))) := (((Chg.refl _ w).grown (World.grownBy_alloc w _ none) (fun j e => by cases e)).grown g (fun j e => by cases e; exact .inl (.inl (HG.out.q k HK.out).2.1))).grown (World.grownBy_alloc _ _ none) (fun j e => by cases e)
  clear g o y2 ys lb ls G1' R1 G0 R0
  go_wp2_with fail
  generalize w1.alloc (.cells #[.int .u64 (a : Nat), .int .u64 (x : Nat)] 25) = v at G2 R2 S2 C2 ⊢
  generalize hf : w1.heap.size = f at S2 zz ⊢
  obtain ⟨r, hr⟩ : ∃ r, w.heap.size = r := ⟨_, rfl⟩
  rw [hr] at R2 zz DL HB ⊢
  have HRW := Lib.hid hr
  clear hf hr
  have y3 := G2.out.og.cell 3 rfl
  have y4 := S2.out.cell 0 rfl
  have y5 := S2.out.cell 1 rfl
  have l1 := G2.out.og.lt (by simp)
  have l2 := S2.out.lt (by simp)
  have b1 : Hid (l.length + 1 ≤ maxLen) := by have := HL.out; simp only [maxLen, Hid]; omega
  have b2 : Hid ((l.length + 1) * 24 ≤ 140737488355328) := HL
  have hb5 : Hid (∀ o : Obj, B ≤ (v.alloc o).heap.size) := fun o => by have := G2.out.sz; rw [World.size_alloc]; omega
  have h1c : Hid (∀ u ∈ [Value.int .i64 (k : Nat), .int .u64 (a : Nat), .int .u64 (x : Nat)], u.oneCell' = true) := by intro u hu; simp at hu; rcases hu with rfl | rfl | rfl <;> rfl
  have h3 : Hid ([Value.int .i64 (k : Nat), .int .u64 (a : Nat), .int .u64 (x : Nat)].length = 1 * 3) := rfl
  have HN : Hid (∀ ad, some (⟨v.heap.size, 0, none⟩ : Addr) = some ad → ∀ (j : Nat) (u : Value), [Value.int .i64 (k : Nat), .int .u64 (a : Nat), .int .u64 (x : Nat)][j]? = some u → (v.alloc (.cells #[.int .i64 (k : Nat), .int .u64 (a : Nat), .int .u64 (x : Nat)] 27)).cell? (ad.add j) = some u) := news3 v _ _ _ _
  have hD : Hid (∀ j, r ≤ j → some j ≠ (Value.slice D l.length cd).ownBlock) := fun j hj e => by have := DL.out j e.symm; omega
  go_region_law (refine step_app rfl (.tmp 40) (.tmp 44) rfl eltStamp B (.slice D l.length cd) l.length (SVL l) rfl (G2.out.od.alloc _) (some ⟨v.heap.size, 0, none⟩) 1 1 [.int .i64 (k : Nat), .int .u64 (a : Nat), .int .u64 (x : Nat)] rfl h3.out (fun e => nomatch e) HN.out h1c.out b1.out b2.out (hb5.out _) ?_; intro D9 c9 w9 hown9 hgrow9 hblk9; have Q := G2.out.pushed HG.out (grown_alloc_drew v _ none) (Nat.le_trans (Nat.le_succ _) (Nat.le_of_eq (World.size_alloc v _).symm)) ((k : Int), a, x) hown9 hgrow9 hblk9; have q1 := Q.1; have q2 := Q.2.1; have HQ := Lib.hid Q.2.2.2.2; have HQD := Lib.hid Q.2.2.2.1; have R9 := Lib.hid (R2.out.kept Q.2.2.1 (hD.out _ (Nat.le_refl _))); have S9 := Lib.hid (S2.out.kept Q.2.2.1 (hD.out _ (Nat.le_of_lt zz.out))); have C9 := Lib.hid (C2.out.grown Q.2.2.1 (fun j e => .inl (.inr e))); clear hown9 hgrow9 hblk9 Q)
  all_goals
    have R10 := Lib.hid (R9.out.setOther (a := ⟨b, 3, none⟩) (.slice D9 (l.length + 1) c9) (by have := HG.out.b2; have := HB.out; simp only; omega))
    have S10 := Lib.hid (S9.out.setOther (a := ⟨b, 3, none⟩) (.slice D9 (l.length + 1) c9) (by have := HG.out.b2; have := HB.out; have := zz.out; simp only; omega))
    have C10 := Lib.hid (C9.out.grown (grown_setCell w9 ⟨b, 3, none⟩ (.slice D9 (l.length + 1) c9)) (fun j e => by cases e; exact .inl (.inl HG.out.b2)))
    generalize w9.setCell ⟨b, 3, none⟩ (.slice D9 (l.length + 1) c9) = v9 at HQ R10 S10 C10 ⊢
    clear R9 S9 C9 q1 q2 y3 y4 y5 l1 l2 b1 b2 hb5 h1c h3 HN
    have y4 := S10.out.cell 0 rfl
    have y5 := S10.out.cell 1 rfl
    have y6 := R10.out.cell 0 rfl
    have y7 := R10.out.cell 1 rfl
    have f6 := R10.out.fr 0 (by simp)
    have f7 := R10.out.fr 1 (by simp)
    have l1 := R10.out.lt (by simp)
    have l2 := S10.out.lt (by simp)
    have hrf : Hid (r < f) := zz.out
    go_wp2_with fail
    (try simp only [Exit.inBlock, Exit.then])
    refine ret_draw Try.results41 r _ _ _ rfl rfl ((R10.out.set 0 (by simp) _).set 1 (by simp) _) rfl ?_
    refine ⟨rfl, D9, c9, ?_⟩
    have hg : v9.grownBy ((v9.setCell ⟨r, 0, none⟩ (.int .u64 (a : Nat))).setCell ⟨r, 1, none⟩ (.int .u64 (x : Nat))) (some r) := gb_set (gb_set (World.grownBy.refl _ _) _ _ (.inl rfl)) _ _ (.inl rfl)
    have hne : (Value.slice D9 (l ++ [((k : Int), a, x)]).length c9).ownBlock ≠ some r := fun e => by
      have e' : (Value.slice D9 (l.length + 1) c9).ownBlock = some r := by simpa using e
      rcases HQD.out r e' with h | h
      · have := DL.out r h; omega
      · have := G2.out.sz; have := S2.out.lt (by simp); have := zz.out; omega
    refine ⟨HQ.out.other HG.out hg HB.out hne, C10.out.grown hg (fun j e => by cases e; exact .inr (Nat.le_of_eq HRW.out)), fun j e => ?_⟩
    rcases HQD.out j (by simpa using e) with h | h
    · exact .inl h
    · exact .inr (Nat.le_trans C2.out.size h)
end Go.Proofs.Ytgbjfmokfkdglaa
