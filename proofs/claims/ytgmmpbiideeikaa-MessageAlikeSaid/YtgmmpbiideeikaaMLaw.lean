/-
  The law MessageAlike (printed by gen_mlaw.py out of malike_law.txt).
-/
import Derived.Test.YtgmmpbiideeikaaMMsg
import Derived.Test.YtgmmpbiideeikaaMAlike
import Derived.Test.YtgmmpbiideeikaaMSameM
import Derived.Deep.RegionHeld3
set_option linter.unusedVariables false
set_option linter.unusedSimpArgs false
namespace Go.Proofs.Ytgmmpbiideeikaa
open Go.RowKit

/-- two messages in their boxes, Given, and new blocks X that are zero still -/
structure Sit (W w : World) (p ra rb : Nat) (a b : Mp) (X : List Nat) (us vs : List GD) (xs ys : List GE) : Prop where
  g : Gx (fun j => j ∈ X) w p us vs xs ys
  bel : Below W.heap.size W w
  la : W.heap.size ≤ ra ∧ ra < p ∧ W.heap.size ≤ rb ∧ rb < p
  oa : Ob w ra a.cells
  ob : Ob w rb b.cells
  z : ∀ r ∈ X, p < r ∧ r < w.heap.size ∧ w.heap[r]? = some (.cells #[.int .i64 0, .int .i64 0, .int .i64 0, .int .i64 0, .int .i64 0, .int .i64 0, .int .i64 0, .string (ByteArray.mk #[]), .int .i64 0, .int .i64 0, .string (ByteArray.mk #[]), .int .i64 0, .int .i64 0, .int .i64 0, .int .u64 0, .int .u64 0, .slice none 0 0, .slice none 0 0] 36 (0, 0))
  nd : X.Nodup
theorem Sit.drew {W w : World} {p ra rb : Nat} {a b : Mp} {X : List Nat} {us vs : List GD} {xs ys : List GE} (h : Sit W w p ra rb a b X us vs xs ys) : Sit W w.drew p ra rb a b X us vs xs ys :=
  ⟨h.g.below (Below.drewN (Below.refl _ _) 1), Below.drewN h.bel 1, h.la, h.oa.drewN 1, h.ob.drewN 1, h.z, h.nd⟩
theorem Sit.alloc {W w : World} {p ra rb : Nat} {a b : Mp} {X : List Nat} {us vs : List GD} {xs ys : List GE} (h : Sit W w p ra rb a b X us vs xs ys) : Sit W (w.alloc (.cells #[.int .i64 0, .int .i64 0, .int .i64 0, .int .i64 0, .int .i64 0, .int .i64 0, .int .i64 0, .string (ByteArray.mk #[]), .int .i64 0, .int .i64 0, .string (ByteArray.mk #[]), .int .i64 0, .int .i64 0, .int .i64 0, .int .u64 0, .int .u64 0, .slice none 0 0, .slice none 0 0] 36)) p ra rb a b (w.heap.size :: X) us vs xs ys := by
  have hp : p < w.heap.size := h.g.1.lt
  refine ⟨⟨?_, h.g.2⟩, h.bel.alloc h.bel.size _, h.la, h.oa.alloc _, h.ob.alloc _, fun r hr => ?_, ?_⟩
  · refine ((h.g.1.join (Y := fun j => j = w.heap.size) (fun j e => by omega)).below ((Below.refl _ _).alloc (Nat.le_refl _) _)).mono (fun j hj => ?_)
    rcases List.mem_cons.1 hj with e | e
    · exact .inr e
    · exact .inl e
  · rcases List.mem_cons.1 hr with e | e
    · subst e
      exact ⟨hp, by simp, heap_alloc_new w _⟩
    · have h1 := h.z r e
      exact ⟨h1.1, by simp; omega, (Below.heap_alloc w _ r h1.2.1).trans h1.2.2⟩
  · refine List.nodup_cons.2 ⟨fun e => ?_, h.nd⟩
    have := (h.z _ e).2.1
    omega
/-- what one Given.Msg answers beside them -/
def SitOut (W : World) (p ra rb : Nat) (a b : Mp) (X : List Nat) (us vs : List GD) (xs ys : List GE) (m : Ms) (e : Ending) (w' : World) : Prop :=
  ∃ (y : Mp) (u v : GD) (c d : GE), e = .returned y.agg ∧ y.m = m ∧ Lent y (us ++ [u]) (xs ++ [c]) ∧ Sit W w' p ra rb a b X (us ++ [u]) (vs ++ [v]) (xs ++ [c]) (ys ++ [d])
theorem Sit.msg {W w : World} {p ra rb : Nat} {a b : Mp} {X : List Nat} {us vs : List GD} {xs ys : List GE} (h : Sit W w p ra rb a b X us vs xs ys) (x : Mp) (hi : x.In W) (hs : x.Sm) (hu : us.length ≤ 2) (hx : xs.length ≤ 2) :
    Calls Try.prog 4 #[.pointer (some ⟨p, 0, none⟩), x.agg] w (SitOut W p ra rb a b X us vs xs ys x.m) := by
  refine (gmsg_any (fun j => j ∈ X) p us vs xs ys w h.g (fun j hj => (h.z j hj).2.1) (by omega) (by omega) x hi.ln hi.vn (fun w' hb => hi.rd.below (h.bel.trans (Below.mono hb (by have := h.la; omega)))) hs).mono ?_
  rintro e w' ⟨y, u, v, c, d, rfl, hg, hm, _, _, hl, hb, hx⟩
  refine ⟨y, u, v, c, d, rfl, hm, hl, hg, h.bel.trans (Below.mono hb (by have := h.la; omega)), h.la, h.oa.heap (hb.block _ h.la.2.1), h.ob.heap (hb.block _ h.la.2.2.2), fun r hr => ?_, h.nd⟩
  have h1 := h.z r hr
  exact ⟨h1.1, Nat.lt_of_lt_of_le h1.2.1 hb.size, (hx r hr).trans h1.2.2⟩
/-- behind the two: the copies in variables of their own -/
structure Two (W w : World) (p ra rb rx ry : Nat) (a b x y : Mp) (us vs : List GD) (xs ys : List GE) : Prop where
  g : Gw w p us vs xs ys
  bel : Below W.heap.size W w
  oa : Ob w ra a.cells
  ob : Ob w rb b.cells
  ox : Ob w rx x.cells
  oy : Ob w ry y.cells
  lx : Lent x us xs
  ly : Lent y us xs
  mx : x.m = a.m
  my : y.m = b.m
  lu : us.length ≤ 2
  le : xs.length ≤ 2
theorem Sit.fin {W w : World} {p ra rb : Nat} {a b : Mp} {X : List Nat} {us vs : List GD} {xs ys : List GE} (h : Sit W w p ra rb a b X us vs xs ys) {rx ry : Nat} (hx : rx ∈ X) (hy : ry ∈ X) (hne : rx ≠ ry) (x y : Mp) (lx : Lent x us xs) (ly : Lent y us xs) (mx : x.m = a.m) (my : y.m = b.m) (lu : us.length ≤ 2) (le : xs.length ≤ 2) :
    Two W ((w.setRow rx x.cells.toArray).setRow ry y.cells.toArray) p ra rb rx ry a b x y us vs xs ys := by
  have zx := h.z rx hx
  have zy := h.z ry hy
  have la := h.la
  have N : ∀ r, r < p → ∀ q, p < q → (some r ≠ some q) := fun r h1 q h2 e => by injection e; omega
  refine ⟨⟨((h.g.1.row hx _).row hy _).toB, h.g.2⟩, below_row (below_row h.bel (by omega) _) (by omega) _, (h.oa.kept (grown_setRow _ _ _) (N _ la.2.1 _ zx.1)).kept (grown_setRow _ _ _) (N _ la.2.1 _ zy.1), (h.ob.kept (grown_setRow _ _ _) (N _ la.2.2.2 _ zx.1)).kept (grown_setRow _ _ _) (N _ la.2.2.2 _ zy.1), ?_, ?_, lx, ly, mx, my, lu, le⟩
  · exact (ob_row (cs := x.cells.toArray) zx.2.2).kept (grown_setRow _ _ _) (fun e => hne (by injection e))
  · exact ob_row (cs := y.cells.toArray) ((setRow_other w rx ry _ (fun e => hne e.symm)).trans zy.2.2)
theorem Sit.zrow {W w : World} {p ra rb : Nat} {a b : Mp} {X : List Nat} {us vs : List GD} {xs ys : List GE} (h : Sit W w p ra rb a b X us vs xs ys) {rx ry : Nat} (hy : ry ∈ X) (hne : rx ≠ ry) (cs : Array Value) : (w.setRow rx cs).heap[ry]? = some (.cells #[.int .i64 0, .int .i64 0, .int .i64 0, .int .i64 0, .int .i64 0, .int .i64 0, .int .i64 0, .string (ByteArray.mk #[]), .int .i64 0, .int .i64 0, .string (ByteArray.mk #[]), .int .i64 0, .int .i64 0, .int .i64 0, .int .u64 0, .int .u64 0, .slice none 0 0, .slice none 0 0] 36 (0, 0)) :=
  (setRow_other w rx ry _ (fun e => hne e.symm)).trans (h.z ry hy).2.2
theorem Sit.rowKeep {W w : World} {p ra rb : Nat} {a b : Mp} {X : List Nat} {us vs : List GD} {xs ys : List GE} (h : Sit W w p ra rb a b X us vs xs ys) {rx : Nat} (hx : rx ∈ X) (cs : Array Value) : Ob (w.setRow rx cs) ra a.cells ∧ Ob (w.setRow rx cs) rb b.cells := by
  have zx := h.z rx hx
  have la := h.la
  exact ⟨h.oa.kept (grown_setRow _ _ _) (fun e => by injection e; omega), h.ob.kept (grown_setRow _ _ _) (fun e => by injection e; omega)⟩
theorem run_load_ob {P : Program} {o : Oper} {t : Act} {w : World} (ty : TypeId) (x : Operand) (ho : o.op = .load ty x) {r : Nat} (hx : t.eval x = .pointer (some ⟨r, 0, none⟩)) {cs : List Value} (hc : Ob w r cs) {fs : Array Field} (hu : P.underlying ty = some (.struct fs)) (hi : (P.info? ty).map (·.size) = some cs.length) :
    (execOp t.eval o).run P w = .ok (.value (.agg cs.toArray)) w := by
  unfold execOp
  simp only [ho, hx, Instr.loadAt, Instr.sureAddr, Sem.run_bind, Sem.run_pure, Result.andThen_ok, run_loadVar_cells w ⟨r, 0, none⟩ ty cs _ hc.adds hu rfl hi]
theorem Two.below {W w w1 : World} {p ra rb rx ry : Nat} {a b x y : Mp} {us vs : List GD} {xs ys : List GE} (h : Two W w p ra rb rx ry a b x y us vs xs ys) (hb : Below w.heap.size w w1) : Two W w1 p ra rb rx ry a b x y us vs xs ys :=
  ⟨h.g.below hb, h.bel.trans (Below.mono hb h.bel.size), h.oa.below hb, h.ob.below hb, h.ox.below hb, h.oy.below hb, h.lx, h.ly, h.mx, h.my, h.lu, h.le⟩
/-- all that the last statement reads -/
structure Five (W w : World) (p ra rb rx ry rc : Nat) (a b x y z : Mp) (us vs : List GD) (xs ys : List GE) : Prop where
  t : Two W w p ra rb rx ry a b x y us vs xs ys
  oc : Ob w rc z.cells
  ar : a.Rd w
  br : b.Rd w
  zr : z.Rd w
  mz : z.m = a.m
theorem Five.below {W w w1 : World} {p ra rb rx ry rc : Nat} {a b x y z : Mp} {us vs : List GD} {xs ys : List GE} (h : Five W w p ra rb rx ry rc a b x y z us vs xs ys) (hb : Below w.heap.size w w1) : Five W w1 p ra rb rx ry rc a b x y z us vs xs ys :=
  ⟨h.t.below hb, h.oc.below hb, h.ar.below hb, h.br.below hb, h.zr.below hb, h.mz⟩
section
variable {W w : World} {p ra rb rx ry rc : Nat} {a b x y z : Mp} {us vs : List GD} {xs ys : List GE} {bb : Bool}
theorem Five.xy (h : Five W w p ra rb rx ry rc a b x y z us vs xs ys) (hb : bb = true ↔ a.m = b.m) : Calls Try.prog 6 #[x.agg, y.agg] w fun e w' => e = .returned (.bool bb) ∧ Five W w' p ra rb rx ry rc a b x y z us vs xs ys :=
  (alike_any x y w (h.t.lx.rd h.t.g) (h.t.ly.rd h.t.g)).mono fun e w' h9 => by
    obtain ⟨⟨b1, rfl, h1⟩, h2⟩ := h9
    rw [h.t.mx, h.t.my, ← hb] at h1
    exact ⟨by rw [Bool.eq_iff_iff.2 h1], h.below h2⟩
theorem Five.yx (h : Five W w p ra rb rx ry rc a b x y z us vs xs ys) (hb : bb = true ↔ a.m = b.m) : Calls Try.prog 6 #[y.agg, x.agg] w fun e w' => e = .returned (.bool bb) ∧ Five W w' p ra rb rx ry rc a b x y z us vs xs ys :=
  (alike_any y x w (h.t.ly.rd h.t.g) (h.t.lx.rd h.t.g)).mono fun e w' h9 => by
    obtain ⟨⟨b1, rfl, h1⟩, h2⟩ := h9
    rw [h.t.mx, h.t.my, eq_comm (a := b.m), ← hb] at h1
    exact ⟨by rw [Bool.eq_iff_iff.2 h1], h.below h2⟩
theorem Five.xz (h : Five W w p ra rb rx ry rc a b x y z us vs xs ys) : Calls Try.prog 6 #[x.agg, z.agg] w fun e w' => e = .returned (.bool true) ∧ Five W w' p ra rb rx ry rc a b x y z us vs xs ys :=
  (alike_any x z w (h.t.lx.rd h.t.g) h.zr).mono fun e w' h9 => by
    obtain ⟨⟨b1, rfl, h1⟩, h2⟩ := h9
    exact ⟨by rw [h1.2 (h.t.mx.trans h.mz.symm)], h.below h2⟩
theorem Five.ab (h : Five W w p ra rb rx ry rc a b x y z us vs xs ys) (hb : bb = true ↔ a.m = b.m) : Calls Try.prog 7 #[a.agg, b.agg] w fun e w' => e = .returned (.bool bb) ∧ Five W w' p ra rb rx ry rc a b x y z us vs xs ys :=
  (sameMsg_any a b w h.ar h.br).mono fun e w' h9 => by
    obtain ⟨⟨b1, rfl, h1⟩, h2⟩ := h9
    rw [← hb] at h1
    exact ⟨by rw [Bool.eq_iff_iff.2 h1], h.below h2⟩
theorem Five.intact (h : Five W w p ra rb rx ry rc a b x y z us vs xs ys) : Calls Try.prog 8 #[.pointer (some ⟨p, 0, none⟩)] w fun e w' => e = .returned (.bool true) ∧ Five W w' p ra rb rx ry rc a b x y z us vs xs ys :=
  (intactG_any h.t.g (by have := h.t.le; omega) (by have := h.t.lu; omega)).mono fun e w' h9 => by
    obtain ⟨rfl, q, rfl⟩ := h9
    exact ⟨rfl, h.below (Below.drewN (Below.refl _ _) q)⟩
end
theorem rdc_zero {α : Type} {size : Nat} {cells : α → List Value} {w : World} {A : Option Addr} {n : Nat} {L : List α} (h : RdC size cells w A n L) (hn : n = 0) (B : Option Addr) : RdC size cells w B 0 L := by
  have := h.len
  rw [hn] at this
  rw [List.eq_nil_of_length_eq_zero this]
  exact RdC.nil _ _ _ _
/-- an empty list in place of one that has nothing -/
theorem emptyLog {w3 w4 : World} {rc : Nat} {z : Mp} {m : Ms} (hb : Below rc w3 w4) (hrc : rc < w4.heap.size) (ho : Ob w4 rc z.cells) (hm : z.m = m) (hr : z.Rd w3) (hn : z.n = 0) (ad : Addr) (o : Obj) :
    Below rc w3 ((w4.setCell ⟨rc, 16, none⟩ (.slice (some ad) 0 0)).alloc o) ∧ Ob ((w4.setCell ⟨rc, 16, none⟩ (.slice (some ad) 0 0)).alloc o) rc (Mp.mk z.m (some ad) 0 0 z.B z.k z.d).cells ∧ (Mp.mk z.m (some ad) 0 0 z.B z.k z.d).m = m ∧ (Mp.mk z.m (some ad) 0 0 z.B z.k z.d).Rd w3 :=
  ⟨(hb.setCell (Nat.le_refl _) _).alloc (by simp; omega) _, (ho.set 16 (by simp) _).alloc _, hm, rdc_zero hr.lg hn _, hr.vc⟩
theorem emptyVec {w3 w4 : World} {rc : Nat} {z : Mp} {m : Ms} (hb : Below rc w3 w4) (hrc : rc < w4.heap.size) (ho : Ob w4 rc z.cells) (hm : z.m = m) (hr : z.Rd w3) (hn : z.k = 0) (ad : Addr) (o : Obj) :
    Below rc w3 ((w4.setCell ⟨rc, 17, none⟩ (.slice (some ad) 0 0)).alloc o) ∧ Ob ((w4.setCell ⟨rc, 17, none⟩ (.slice (some ad) 0 0)).alloc o) rc (Mp.mk z.m z.A z.n z.c (some ad) 0 0).cells ∧ (Mp.mk z.m z.A z.n z.c (some ad) 0 0).m = m ∧ (Mp.mk z.m z.A z.n z.c (some ad) 0 0).Rd w3 :=
  ⟨(hb.setCell (Nat.le_refl _) _).alloc (by simp; omega) _, (ho.set 17 (by simp) _).alloc _, hm, hr.lg, rdc_zero hr.vc hn _⟩
set_option maxHeartbeats 8000000 in
set_option maxRecDepth 100000 in
theorem messageAlike_walk (a b : Mp) (W : World) (ha : a.m.Ok ∧ a.In W) (sa : a.Sm) (hb : b.m.Ok ∧ b.In W) (sb : b.Sm) :
    Calls Try.prog 3 #[a.agg, b.agg] W fun e W' => e = .returned (.bool true) ∧ Below W.heap.size W W' := by
  have HA := Lib.hid ha
  have HB := Lib.hid hb
  have SA := Lib.hid sa
  have SB := Lib.hid sb
  clear ha hb sa sb
  have S0 : Hid (Sit W (((W.alloc (.cells a.cells.toArray 36)).alloc (.cells b.cells.toArray 36)).alloc (.cells nil10.toArray 43)) (W.heap.size + 2) W.heap.size (W.heap.size + 1) a b [] [] [] [] []) := by
    have s1 : (W.alloc (.cells a.cells.toArray 36)).heap.size = W.heap.size + 1 := by simp
    have s2 : ((W.alloc (.cells a.cells.toArray 36)).alloc (.cells b.cells.toArray 36)).heap.size = W.heap.size + 2 := by simp
    refine ⟨Gw.toX (Gw.start ?_) (fun j hj => by simp at hj), (msgBelow W _ _).alloc (by omega) _, by omega, ((Ob.fresh W _ _).alloc _).alloc _, ?_, fun r hr => by simp at hr, List.nodup_nil⟩
    · have := Ob.fresh ((W.alloc (.cells a.cells.toArray 36)).alloc (.cells b.cells.toArray 36)) nil10.toArray 43
      rw [s2] at this
      exact this
    · have := Ob.fresh (W.alloc (.cells a.cells.toArray 36)) b.cells.toArray 36
      rw [s1] at this
      exact this.alloc _
  go_enter Try.func3, Try.ntmps3
  go_upto_region 2 with fail
  go_cut [6, 7] (fun vx vy wx => ∃ (rx ry : Nat) (x y : Mp) (us vs : List GD) (xs ys : List GE), vx = .pointer (some ⟨rx, 0, none⟩) ∧ vy = .pointer (some ⟨ry, 0, none⟩) ∧ Hid (Two W wx (W.heap.size + 2) W.heap.size (W.heap.size + 1) rx ry a b x y us vs xs ys))
  case first =>
    refine wp_region_held_drew (S := (fun y => Ob y W.heap.size a.cells ∧ Ob y (W.heap.size + 1) b.cells)) (by kernel_rfl) ⟨S0.out.drew.oa, S0.out.drew.ob⟩ (fun hHeld => ?_)
    have S1 := Lib.hid S0.out.drew
    clear S0
    generalize World.drew _ = w0 at S1 hHeld ⊢
    have S0 := S1
    clear S1
    refine wpAnyH_take (i := 0) rfl (by kernel_rfl) (by kernel_rfl) (by kernel_rfl) (fun _ _ _ h => h) (Or.inl ⟨by rfl, fun y hy => run_load_ob 36 (.tmp 2) rfl rfl hy.1 Try.underlying36 (by kernel_rfl)⟩) (by assumption) ?_
    try simp only [Act.put, List.setIfInBounds_toArray, List.set_cons_zero, List.set_cons_succ]
    refine wpAnyH_take (i := 2) rfl (by kernel_rfl) (by kernel_rfl) (by kernel_rfl) (fun _ _ _ h => h) (Or.inl ⟨by rfl, fun y hy => run_load_ob 36 (.tmp 3) rfl rfl hy.2 Try.underlying36 (by kernel_rfl)⟩) (by assumption) ?_
    try simp only [Act.put, List.setIfInBounds_toArray, List.set_cons_zero, List.set_cons_succ]
    refine wpAnyH_ready (rs := [1, 4, 5]) (by kernel_rfl) (by simp) ?_
    refine AllReadyH.cons rfl (fun K hK => ?_) ?_
    · have FC := Lib.hid (S0.out.msg a HA.out.2 SA.out (by simp) (by simp))
      first | (go_at_call 4; refine FC.out.mono ?_) | (go_simp; go_at_call 4; refine FC.out.mono ?_)
      rintro e w1 ⟨y1, u1, v1, c1, d1, rfl, hm1, hl1, hs⟩
      have S1 := Lib.hid hs
      have L1 := Lib.hid hl1
      have M1 := Lib.hid hm1
      clear hs hl1 hm1 FC
      refine hK.out _ _ ⟨S1.out.oa, S1.out.ob⟩ (fun hHeld => ?_)
      clear hK K
      clear S0
      try simp only [Act.put, List.setIfInBounds_toArray, List.set_cons_zero, List.set_cons_succ]
      refine wpAnyH_ready (rs := [3, 4, 5]) (by kernel_rfl) (by simp) ?_
      refine AllReadyH.cons rfl (fun K hK => ?_) ?_
      · have FC := Lib.hid (S1.out.msg b HB.out.2 SB.out (by simp) (by simp))
        first | (go_at_call 4; refine FC.out.mono ?_) | (go_simp; go_at_call 4; refine FC.out.mono ?_)
        rintro e w2 ⟨y2, u2, v2, c2, d2, rfl, hm2, hl2, hs⟩
        have S2 := Lib.hid hs
        have L2 := Lib.hid hl2
        have M2 := Lib.hid hm2
        clear hs hl2 hm2 FC
        refine hK.out _ _ ⟨S2.out.oa, S2.out.ob⟩ (fun hHeld => ?_)
        clear hK K
        clear S1
        try simp only [Act.put, List.setIfInBounds_toArray, List.set_cons_zero, List.set_cons_succ]
        refine wpAnyH_ready (rs := [4, 5]) (by kernel_rfl) (by simp) ?_
        refine AllReadyH.cons rfl (fun K hK => ?_) ?_
        · have S3 := Lib.hid S2.out.alloc
          go_simp
          refine hK.out _ _ ⟨S3.out.oa, S3.out.ob⟩ (fun hHeld => ?_)
          clear hK K
          clear S2
          try simp only [Act.put, List.setIfInBounds_toArray, List.set_cons_zero, List.set_cons_succ]
          generalize w2.alloc (.cells #[.int .i64 0, .int .i64 0, .int .i64 0, .int .i64 0, .int .i64 0, .int .i64 0, .int .i64 0, .string (ByteArray.mk #[]), .int .i64 0, .int .i64 0, .string (ByteArray.mk #[]), .int .i64 0, .int .i64 0, .int .i64 0, .int .u64 0, .int .u64 0, .slice none 0 0, .slice none 0 0] 36) = w3 at S3 hHeld ⊢
          generalize w2.heap.size = r6 at S3 ⊢
          refine wpAnyH_ready (rs := [5]) (by kernel_rfl) (by simp) ?_
          refine AllReadyH.cons rfl (fun K hK => ?_) ?_
          · have S4 := Lib.hid S3.out.alloc
            go_simp
            refine hK.out _ _ ⟨S4.out.oa, S4.out.ob⟩ (fun hHeld => ?_)
            clear hK K
            clear S3
            try simp only [Act.put, List.setIfInBounds_toArray, List.set_cons_zero, List.set_cons_succ]
            generalize w3.alloc (.cells #[.int .i64 0, .int .i64 0, .int .i64 0, .int .i64 0, .int .i64 0, .int .i64 0, .int .i64 0, .string (ByteArray.mk #[]), .int .i64 0, .int .i64 0, .string (ByteArray.mk #[]), .int .i64 0, .int .i64 0, .int .i64 0, .int .u64 0, .int .u64 0, .slice none 0 0, .slice none 0 0] 36) = w4 at S4 hHeld ⊢
            generalize w3.heap.size = r7 at S4 ⊢
            refine wpAnyH_ready (rs := [6]) (by kernel_rfl) (by simp) ?_
            refine AllReadyH.cons rfl (fun K hK => ?_) AllReadyH.nil
            rw [if_pos (by rfl)]
            refine wp_store_row 36 (.tmp 6) (.tmp 10) rfl r6 y1.cells.toArray rfl rfl _ _ (S4.out.z r6 (by simp)).2.2 (by kernel_rfl) rfl (by simp [Value.oneCell']) ?_
            have NE : Hid (r6 ≠ r7) := by have := S4.out.nd; simp at this; show _ ≠ _; omega
            refine hK.out _ _ (S4.out.rowKeep (by simp) _) (fun hHeld => ?_)
            clear hK K
            simp only [Act.put, List.getElem_toArray, List.getElem_cons_succ, List.getElem_cons_zero]
            refine wpAnyH_ready (rs := [7]) (by kernel_rfl) (by simp) ?_
            refine AllReadyH.cons rfl (fun K hK => ?_) AllReadyH.nil
            rw [if_pos (by rfl)]
            refine wp_store_row 36 (.tmp 7) (.tmp 12) rfl r7 y2.cells.toArray rfl rfl _ _ (S4.out.zrow (by simp) NE.out _) (by kernel_rfl) rfl (by simp [Value.oneCell']) ?_
            have FN := Lib.hid (S4.out.fin (rx := r6) (ry := r7) (by simp) (by simp) NE.out y1 y2 (L1.out.more [u2] [c2]) L2.out M1.out M2.out (by simp) (by simp))
            refine hK.out _ _ ⟨FN.out.oa, FN.out.ob⟩ (fun hHeld => ?_)
            clear hK K
            simp only [Act.put, List.getElem_toArray, List.getElem_cons_succ, List.getElem_cons_zero]
            refine wpAnyH_done (by kernel_rfl) ?_ _
            go_wp2_with fail
            go_meet
            exact ⟨r6, r7, y1, y2, _, _, _, _, rfl, rfl, FN.out⟩
          exact AllReadyH.nil
        refine AllReadyH.cons rfl (fun K hK => ?_) ?_
        · have S3 := Lib.hid S2.out.alloc
          go_simp
          refine hK.out _ _ ⟨S3.out.oa, S3.out.ob⟩ (fun hHeld => ?_)
          clear hK K
          clear S2
          try simp only [Act.put, List.setIfInBounds_toArray, List.set_cons_zero, List.set_cons_succ]
          generalize w2.alloc (.cells #[.int .i64 0, .int .i64 0, .int .i64 0, .int .i64 0, .int .i64 0, .int .i64 0, .int .i64 0, .string (ByteArray.mk #[]), .int .i64 0, .int .i64 0, .string (ByteArray.mk #[]), .int .i64 0, .int .i64 0, .int .i64 0, .int .u64 0, .int .u64 0, .slice none 0 0, .slice none 0 0] 36) = w3 at S3 hHeld ⊢
          generalize w2.heap.size = r7 at S3 ⊢
          refine wpAnyH_ready (rs := [4]) (by kernel_rfl) (by simp) ?_
          refine AllReadyH.cons rfl (fun K hK => ?_) ?_
          · have S4 := Lib.hid S3.out.alloc
            go_simp
            refine hK.out _ _ ⟨S4.out.oa, S4.out.ob⟩ (fun hHeld => ?_)
            clear hK K
            clear S3
            try simp only [Act.put, List.setIfInBounds_toArray, List.set_cons_zero, List.set_cons_succ]
            generalize w3.alloc (.cells #[.int .i64 0, .int .i64 0, .int .i64 0, .int .i64 0, .int .i64 0, .int .i64 0, .int .i64 0, .string (ByteArray.mk #[]), .int .i64 0, .int .i64 0, .string (ByteArray.mk #[]), .int .i64 0, .int .i64 0, .int .i64 0, .int .u64 0, .int .u64 0, .slice none 0 0, .slice none 0 0] 36) = w4 at S4 hHeld ⊢
            generalize w3.heap.size = r6 at S4 ⊢
            refine wpAnyH_ready (rs := [6]) (by kernel_rfl) (by simp) ?_
            refine AllReadyH.cons rfl (fun K hK => ?_) AllReadyH.nil
            rw [if_pos (by rfl)]
            refine wp_store_row 36 (.tmp 6) (.tmp 10) rfl r6 y1.cells.toArray rfl rfl _ _ (S4.out.z r6 (by simp)).2.2 (by kernel_rfl) rfl (by simp [Value.oneCell']) ?_
            have NE : Hid (r6 ≠ r7) := by have := S4.out.nd; simp at this; show _ ≠ _; omega
            refine hK.out _ _ (S4.out.rowKeep (by simp) _) (fun hHeld => ?_)
            clear hK K
            simp only [Act.put, List.getElem_toArray, List.getElem_cons_succ, List.getElem_cons_zero]
            refine wpAnyH_ready (rs := [7]) (by kernel_rfl) (by simp) ?_
            refine AllReadyH.cons rfl (fun K hK => ?_) AllReadyH.nil
            rw [if_pos (by rfl)]
            refine wp_store_row 36 (.tmp 7) (.tmp 12) rfl r7 y2.cells.toArray rfl rfl _ _ (S4.out.zrow (by simp) NE.out _) (by kernel_rfl) rfl (by simp [Value.oneCell']) ?_
            have FN := Lib.hid (S4.out.fin (rx := r6) (ry := r7) (by simp) (by simp) NE.out y1 y2 (L1.out.more [u2] [c2]) L2.out M1.out M2.out (by simp) (by simp))
            refine hK.out _ _ ⟨FN.out.oa, FN.out.ob⟩ (fun hHeld => ?_)
            clear hK K
            simp only [Act.put, List.getElem_toArray, List.getElem_cons_succ, List.getElem_cons_zero]
            refine wpAnyH_done (by kernel_rfl) ?_ _
            go_wp2_with fail
            go_meet
            exact ⟨r6, r7, y1, y2, _, _, _, _, rfl, rfl, FN.out⟩
          exact AllReadyH.nil
        exact AllReadyH.nil
      refine AllReadyH.cons rfl (fun K hK => ?_) ?_
      · have S2 := Lib.hid S1.out.alloc
        go_simp
        refine hK.out _ _ ⟨S2.out.oa, S2.out.ob⟩ (fun hHeld => ?_)
        clear hK K
        clear S1
        try simp only [Act.put, List.setIfInBounds_toArray, List.set_cons_zero, List.set_cons_succ]
        generalize w1.alloc (.cells #[.int .i64 0, .int .i64 0, .int .i64 0, .int .i64 0, .int .i64 0, .int .i64 0, .int .i64 0, .string (ByteArray.mk #[]), .int .i64 0, .int .i64 0, .string (ByteArray.mk #[]), .int .i64 0, .int .i64 0, .int .i64 0, .int .u64 0, .int .u64 0, .slice none 0 0, .slice none 0 0] 36) = w2 at S2 hHeld ⊢
        generalize w1.heap.size = r6 at S2 ⊢
        refine wpAnyH_ready (rs := [3, 5]) (by kernel_rfl) (by simp) ?_
        refine AllReadyH.cons rfl (fun K hK => ?_) ?_
        · have FC := Lib.hid (S2.out.msg b HB.out.2 SB.out (by simp) (by simp))
          first | (go_at_call 4; refine FC.out.mono ?_) | (go_simp; go_at_call 4; refine FC.out.mono ?_)
          rintro e w3 ⟨y2, u2, v2, c2, d2, rfl, hm2, hl2, hs⟩
          have S3 := Lib.hid hs
          have L2 := Lib.hid hl2
          have M2 := Lib.hid hm2
          clear hs hl2 hm2 FC
          refine hK.out _ _ ⟨S3.out.oa, S3.out.ob⟩ (fun hHeld => ?_)
          clear hK K
          clear S2
          try simp only [Act.put, List.setIfInBounds_toArray, List.set_cons_zero, List.set_cons_succ]
          refine wpAnyH_ready (rs := [5]) (by kernel_rfl) (by simp) ?_
          refine AllReadyH.cons rfl (fun K hK => ?_) ?_
          · have S4 := Lib.hid S3.out.alloc
            go_simp
            refine hK.out _ _ ⟨S4.out.oa, S4.out.ob⟩ (fun hHeld => ?_)
            clear hK K
            clear S3
            try simp only [Act.put, List.setIfInBounds_toArray, List.set_cons_zero, List.set_cons_succ]
            generalize w3.alloc (.cells #[.int .i64 0, .int .i64 0, .int .i64 0, .int .i64 0, .int .i64 0, .int .i64 0, .int .i64 0, .string (ByteArray.mk #[]), .int .i64 0, .int .i64 0, .string (ByteArray.mk #[]), .int .i64 0, .int .i64 0, .int .i64 0, .int .u64 0, .int .u64 0, .slice none 0 0, .slice none 0 0] 36) = w4 at S4 hHeld ⊢
            generalize w3.heap.size = r7 at S4 ⊢
            refine wpAnyH_ready (rs := [6]) (by kernel_rfl) (by simp) ?_
            refine AllReadyH.cons rfl (fun K hK => ?_) AllReadyH.nil
            rw [if_pos (by rfl)]
            refine wp_store_row 36 (.tmp 6) (.tmp 10) rfl r6 y1.cells.toArray rfl rfl _ _ (S4.out.z r6 (by simp)).2.2 (by kernel_rfl) rfl (by simp [Value.oneCell']) ?_
            have NE : Hid (r6 ≠ r7) := by have := S4.out.nd; simp at this; show _ ≠ _; omega
            refine hK.out _ _ (S4.out.rowKeep (by simp) _) (fun hHeld => ?_)
            clear hK K
            simp only [Act.put, List.getElem_toArray, List.getElem_cons_succ, List.getElem_cons_zero]
            refine wpAnyH_ready (rs := [7]) (by kernel_rfl) (by simp) ?_
            refine AllReadyH.cons rfl (fun K hK => ?_) AllReadyH.nil
            rw [if_pos (by rfl)]
            refine wp_store_row 36 (.tmp 7) (.tmp 12) rfl r7 y2.cells.toArray rfl rfl _ _ (S4.out.zrow (by simp) NE.out _) (by kernel_rfl) rfl (by simp [Value.oneCell']) ?_
            have FN := Lib.hid (S4.out.fin (rx := r6) (ry := r7) (by simp) (by simp) NE.out y1 y2 (L1.out.more [u2] [c2]) L2.out M1.out M2.out (by simp) (by simp))
            refine hK.out _ _ ⟨FN.out.oa, FN.out.ob⟩ (fun hHeld => ?_)
            clear hK K
            simp only [Act.put, List.getElem_toArray, List.getElem_cons_succ, List.getElem_cons_zero]
            refine wpAnyH_done (by kernel_rfl) ?_ _
            go_wp2_with fail
            go_meet
            exact ⟨r6, r7, y1, y2, _, _, _, _, rfl, rfl, FN.out⟩
          exact AllReadyH.nil
        refine AllReadyH.cons rfl (fun K hK => ?_) ?_
        · have S3 := Lib.hid S2.out.alloc
          go_simp
          refine hK.out _ _ ⟨S3.out.oa, S3.out.ob⟩ (fun hHeld => ?_)
          clear hK K
          clear S2
          try simp only [Act.put, List.setIfInBounds_toArray, List.set_cons_zero, List.set_cons_succ]
          generalize w2.alloc (.cells #[.int .i64 0, .int .i64 0, .int .i64 0, .int .i64 0, .int .i64 0, .int .i64 0, .int .i64 0, .string (ByteArray.mk #[]), .int .i64 0, .int .i64 0, .string (ByteArray.mk #[]), .int .i64 0, .int .i64 0, .int .i64 0, .int .u64 0, .int .u64 0, .slice none 0 0, .slice none 0 0] 36) = w3 at S3 hHeld ⊢
          generalize w2.heap.size = r7 at S3 ⊢
          refine wpAnyH_ready (rs := [3]) (by kernel_rfl) (by simp) ?_
          refine AllReadyH.cons rfl (fun K hK => ?_) ?_
          · have FC := Lib.hid (S3.out.msg b HB.out.2 SB.out (by simp) (by simp))
            first | (go_at_call 4; refine FC.out.mono ?_) | (go_simp; go_at_call 4; refine FC.out.mono ?_)
            rintro e w4 ⟨y2, u2, v2, c2, d2, rfl, hm2, hl2, hs⟩
            have S4 := Lib.hid hs
            have L2 := Lib.hid hl2
            have M2 := Lib.hid hm2
            clear hs hl2 hm2 FC
            refine hK.out _ _ ⟨S4.out.oa, S4.out.ob⟩ (fun hHeld => ?_)
            clear hK K
            clear S3
            try simp only [Act.put, List.setIfInBounds_toArray, List.set_cons_zero, List.set_cons_succ]
            refine wpAnyH_ready (rs := [6]) (by kernel_rfl) (by simp) ?_
            refine AllReadyH.cons rfl (fun K hK => ?_) AllReadyH.nil
            rw [if_pos (by rfl)]
            refine wp_store_row 36 (.tmp 6) (.tmp 10) rfl r6 y1.cells.toArray rfl rfl _ _ (S4.out.z r6 (by simp)).2.2 (by kernel_rfl) rfl (by simp [Value.oneCell']) ?_
            have NE : Hid (r6 ≠ r7) := by have := S4.out.nd; simp at this; show _ ≠ _; omega
            refine hK.out _ _ (S4.out.rowKeep (by simp) _) (fun hHeld => ?_)
            clear hK K
            simp only [Act.put, List.getElem_toArray, List.getElem_cons_succ, List.getElem_cons_zero]
            refine wpAnyH_ready (rs := [7]) (by kernel_rfl) (by simp) ?_
            refine AllReadyH.cons rfl (fun K hK => ?_) AllReadyH.nil
            rw [if_pos (by rfl)]
            refine wp_store_row 36 (.tmp 7) (.tmp 12) rfl r7 y2.cells.toArray rfl rfl _ _ (S4.out.zrow (by simp) NE.out _) (by kernel_rfl) rfl (by simp [Value.oneCell']) ?_
            have FN := Lib.hid (S4.out.fin (rx := r6) (ry := r7) (by simp) (by simp) NE.out y1 y2 (L1.out.more [u2] [c2]) L2.out M1.out M2.out (by simp) (by simp))
            refine hK.out _ _ ⟨FN.out.oa, FN.out.ob⟩ (fun hHeld => ?_)
            clear hK K
            simp only [Act.put, List.getElem_toArray, List.getElem_cons_succ, List.getElem_cons_zero]
            refine wpAnyH_done (by kernel_rfl) ?_ _
            go_wp2_with fail
            go_meet
            exact ⟨r6, r7, y1, y2, _, _, _, _, rfl, rfl, FN.out⟩
          exact AllReadyH.nil
        exact AllReadyH.nil
      refine AllReadyH.cons rfl (fun K hK => ?_) ?_
      · have S2 := Lib.hid S1.out.alloc
        go_simp
        refine hK.out _ _ ⟨S2.out.oa, S2.out.ob⟩ (fun hHeld => ?_)
        clear hK K
        clear S1
        try simp only [Act.put, List.setIfInBounds_toArray, List.set_cons_zero, List.set_cons_succ]
        generalize w1.alloc (.cells #[.int .i64 0, .int .i64 0, .int .i64 0, .int .i64 0, .int .i64 0, .int .i64 0, .int .i64 0, .string (ByteArray.mk #[]), .int .i64 0, .int .i64 0, .string (ByteArray.mk #[]), .int .i64 0, .int .i64 0, .int .i64 0, .int .u64 0, .int .u64 0, .slice none 0 0, .slice none 0 0] 36) = w2 at S2 hHeld ⊢
        generalize w1.heap.size = r7 at S2 ⊢
        refine wpAnyH_ready (rs := [3, 4]) (by kernel_rfl) (by simp) ?_
        refine AllReadyH.cons rfl (fun K hK => ?_) ?_
        · have FC := Lib.hid (S2.out.msg b HB.out.2 SB.out (by simp) (by simp))
          first | (go_at_call 4; refine FC.out.mono ?_) | (go_simp; go_at_call 4; refine FC.out.mono ?_)
          rintro e w3 ⟨y2, u2, v2, c2, d2, rfl, hm2, hl2, hs⟩
          have S3 := Lib.hid hs
          have L2 := Lib.hid hl2
          have M2 := Lib.hid hm2
          clear hs hl2 hm2 FC
          refine hK.out _ _ ⟨S3.out.oa, S3.out.ob⟩ (fun hHeld => ?_)
          clear hK K
          clear S2
          try simp only [Act.put, List.setIfInBounds_toArray, List.set_cons_zero, List.set_cons_succ]
          refine wpAnyH_ready (rs := [4]) (by kernel_rfl) (by simp) ?_
          refine AllReadyH.cons rfl (fun K hK => ?_) ?_
          · have S4 := Lib.hid S3.out.alloc
            go_simp
            refine hK.out _ _ ⟨S4.out.oa, S4.out.ob⟩ (fun hHeld => ?_)
            clear hK K
            clear S3
            try simp only [Act.put, List.setIfInBounds_toArray, List.set_cons_zero, List.set_cons_succ]
            generalize w3.alloc (.cells #[.int .i64 0, .int .i64 0, .int .i64 0, .int .i64 0, .int .i64 0, .int .i64 0, .int .i64 0, .string (ByteArray.mk #[]), .int .i64 0, .int .i64 0, .string (ByteArray.mk #[]), .int .i64 0, .int .i64 0, .int .i64 0, .int .u64 0, .int .u64 0, .slice none 0 0, .slice none 0 0] 36) = w4 at S4 hHeld ⊢
            generalize w3.heap.size = r6 at S4 ⊢
            refine wpAnyH_ready (rs := [6]) (by kernel_rfl) (by simp) ?_
            refine AllReadyH.cons rfl (fun K hK => ?_) AllReadyH.nil
            rw [if_pos (by rfl)]
            refine wp_store_row 36 (.tmp 6) (.tmp 10) rfl r6 y1.cells.toArray rfl rfl _ _ (S4.out.z r6 (by simp)).2.2 (by kernel_rfl) rfl (by simp [Value.oneCell']) ?_
            have NE : Hid (r6 ≠ r7) := by have := S4.out.nd; simp at this; show _ ≠ _; omega
            refine hK.out _ _ (S4.out.rowKeep (by simp) _) (fun hHeld => ?_)
            clear hK K
            simp only [Act.put, List.getElem_toArray, List.getElem_cons_succ, List.getElem_cons_zero]
            refine wpAnyH_ready (rs := [7]) (by kernel_rfl) (by simp) ?_
            refine AllReadyH.cons rfl (fun K hK => ?_) AllReadyH.nil
            rw [if_pos (by rfl)]
            refine wp_store_row 36 (.tmp 7) (.tmp 12) rfl r7 y2.cells.toArray rfl rfl _ _ (S4.out.zrow (by simp) NE.out _) (by kernel_rfl) rfl (by simp [Value.oneCell']) ?_
            have FN := Lib.hid (S4.out.fin (rx := r6) (ry := r7) (by simp) (by simp) NE.out y1 y2 (L1.out.more [u2] [c2]) L2.out M1.out M2.out (by simp) (by simp))
            refine hK.out _ _ ⟨FN.out.oa, FN.out.ob⟩ (fun hHeld => ?_)
            clear hK K
            simp only [Act.put, List.getElem_toArray, List.getElem_cons_succ, List.getElem_cons_zero]
            refine wpAnyH_done (by kernel_rfl) ?_ _
            go_wp2_with fail
            go_meet
            exact ⟨r6, r7, y1, y2, _, _, _, _, rfl, rfl, FN.out⟩
          exact AllReadyH.nil
        refine AllReadyH.cons rfl (fun K hK => ?_) ?_
        · have S3 := Lib.hid S2.out.alloc
          go_simp
          refine hK.out _ _ ⟨S3.out.oa, S3.out.ob⟩ (fun hHeld => ?_)
          clear hK K
          clear S2
          try simp only [Act.put, List.setIfInBounds_toArray, List.set_cons_zero, List.set_cons_succ]
          generalize w2.alloc (.cells #[.int .i64 0, .int .i64 0, .int .i64 0, .int .i64 0, .int .i64 0, .int .i64 0, .int .i64 0, .string (ByteArray.mk #[]), .int .i64 0, .int .i64 0, .string (ByteArray.mk #[]), .int .i64 0, .int .i64 0, .int .i64 0, .int .u64 0, .int .u64 0, .slice none 0 0, .slice none 0 0] 36) = w3 at S3 hHeld ⊢
          generalize w2.heap.size = r6 at S3 ⊢
          refine wpAnyH_ready (rs := [3]) (by kernel_rfl) (by simp) ?_
          refine AllReadyH.cons rfl (fun K hK => ?_) ?_
          · have FC := Lib.hid (S3.out.msg b HB.out.2 SB.out (by simp) (by simp))
            first | (go_at_call 4; refine FC.out.mono ?_) | (go_simp; go_at_call 4; refine FC.out.mono ?_)
            rintro e w4 ⟨y2, u2, v2, c2, d2, rfl, hm2, hl2, hs⟩
            have S4 := Lib.hid hs
            have L2 := Lib.hid hl2
            have M2 := Lib.hid hm2
            clear hs hl2 hm2 FC
            refine hK.out _ _ ⟨S4.out.oa, S4.out.ob⟩ (fun hHeld => ?_)
            clear hK K
            clear S3
            try simp only [Act.put, List.setIfInBounds_toArray, List.set_cons_zero, List.set_cons_succ]
            refine wpAnyH_ready (rs := [6]) (by kernel_rfl) (by simp) ?_
            refine AllReadyH.cons rfl (fun K hK => ?_) AllReadyH.nil
            rw [if_pos (by rfl)]
            refine wp_store_row 36 (.tmp 6) (.tmp 10) rfl r6 y1.cells.toArray rfl rfl _ _ (S4.out.z r6 (by simp)).2.2 (by kernel_rfl) rfl (by simp [Value.oneCell']) ?_
            have NE : Hid (r6 ≠ r7) := by have := S4.out.nd; simp at this; show _ ≠ _; omega
            refine hK.out _ _ (S4.out.rowKeep (by simp) _) (fun hHeld => ?_)
            clear hK K
            simp only [Act.put, List.getElem_toArray, List.getElem_cons_succ, List.getElem_cons_zero]
            refine wpAnyH_ready (rs := [7]) (by kernel_rfl) (by simp) ?_
            refine AllReadyH.cons rfl (fun K hK => ?_) AllReadyH.nil
            rw [if_pos (by rfl)]
            refine wp_store_row 36 (.tmp 7) (.tmp 12) rfl r7 y2.cells.toArray rfl rfl _ _ (S4.out.zrow (by simp) NE.out _) (by kernel_rfl) rfl (by simp [Value.oneCell']) ?_
            have FN := Lib.hid (S4.out.fin (rx := r6) (ry := r7) (by simp) (by simp) NE.out y1 y2 (L1.out.more [u2] [c2]) L2.out M1.out M2.out (by simp) (by simp))
            refine hK.out _ _ ⟨FN.out.oa, FN.out.ob⟩ (fun hHeld => ?_)
            clear hK K
            simp only [Act.put, List.getElem_toArray, List.getElem_cons_succ, List.getElem_cons_zero]
            refine wpAnyH_done (by kernel_rfl) ?_ _
            go_wp2_with fail
            go_meet
            exact ⟨r6, r7, y1, y2, _, _, _, _, rfl, rfl, FN.out⟩
          exact AllReadyH.nil
        exact AllReadyH.nil
      exact AllReadyH.nil
    refine AllReadyH.cons rfl (fun K hK => ?_) ?_
    · have S1 := Lib.hid S0.out.alloc
      go_simp
      refine hK.out _ _ ⟨S1.out.oa, S1.out.ob⟩ (fun hHeld => ?_)
      clear hK K
      clear S0
      try simp only [Act.put, List.setIfInBounds_toArray, List.set_cons_zero, List.set_cons_succ]
      generalize w0.alloc (.cells #[.int .i64 0, .int .i64 0, .int .i64 0, .int .i64 0, .int .i64 0, .int .i64 0, .int .i64 0, .string (ByteArray.mk #[]), .int .i64 0, .int .i64 0, .string (ByteArray.mk #[]), .int .i64 0, .int .i64 0, .int .i64 0, .int .u64 0, .int .u64 0, .slice none 0 0, .slice none 0 0] 36) = w1 at S1 hHeld ⊢
      generalize w0.heap.size = r6 at S1 ⊢
      refine wpAnyH_ready (rs := [1, 5]) (by kernel_rfl) (by simp) ?_
      refine AllReadyH.cons rfl (fun K hK => ?_) ?_
      · have FC := Lib.hid (S1.out.msg a HA.out.2 SA.out (by simp) (by simp))
        first | (go_at_call 4; refine FC.out.mono ?_) | (go_simp; go_at_call 4; refine FC.out.mono ?_)
        rintro e w2 ⟨y1, u1, v1, c1, d1, rfl, hm1, hl1, hs⟩
        have S2 := Lib.hid hs
        have L1 := Lib.hid hl1
        have M1 := Lib.hid hm1
        clear hs hl1 hm1 FC
        refine hK.out _ _ ⟨S2.out.oa, S2.out.ob⟩ (fun hHeld => ?_)
        clear hK K
        clear S1
        try simp only [Act.put, List.setIfInBounds_toArray, List.set_cons_zero, List.set_cons_succ]
        refine wpAnyH_ready (rs := [3, 5]) (by kernel_rfl) (by simp) ?_
        refine AllReadyH.cons rfl (fun K hK => ?_) ?_
        · have FC := Lib.hid (S2.out.msg b HB.out.2 SB.out (by simp) (by simp))
          first | (go_at_call 4; refine FC.out.mono ?_) | (go_simp; go_at_call 4; refine FC.out.mono ?_)
          rintro e w3 ⟨y2, u2, v2, c2, d2, rfl, hm2, hl2, hs⟩
          have S3 := Lib.hid hs
          have L2 := Lib.hid hl2
          have M2 := Lib.hid hm2
          clear hs hl2 hm2 FC
          refine hK.out _ _ ⟨S3.out.oa, S3.out.ob⟩ (fun hHeld => ?_)
          clear hK K
          clear S2
          try simp only [Act.put, List.setIfInBounds_toArray, List.set_cons_zero, List.set_cons_succ]
          refine wpAnyH_ready (rs := [5]) (by kernel_rfl) (by simp) ?_
          refine AllReadyH.cons rfl (fun K hK => ?_) ?_
          · have S4 := Lib.hid S3.out.alloc
            go_simp
            refine hK.out _ _ ⟨S4.out.oa, S4.out.ob⟩ (fun hHeld => ?_)
            clear hK K
            clear S3
            try simp only [Act.put, List.setIfInBounds_toArray, List.set_cons_zero, List.set_cons_succ]
            generalize w3.alloc (.cells #[.int .i64 0, .int .i64 0, .int .i64 0, .int .i64 0, .int .i64 0, .int .i64 0, .int .i64 0, .string (ByteArray.mk #[]), .int .i64 0, .int .i64 0, .string (ByteArray.mk #[]), .int .i64 0, .int .i64 0, .int .i64 0, .int .u64 0, .int .u64 0, .slice none 0 0, .slice none 0 0] 36) = w4 at S4 hHeld ⊢
            generalize w3.heap.size = r7 at S4 ⊢
            refine wpAnyH_ready (rs := [6]) (by kernel_rfl) (by simp) ?_
            refine AllReadyH.cons rfl (fun K hK => ?_) AllReadyH.nil
            rw [if_pos (by rfl)]
            refine wp_store_row 36 (.tmp 6) (.tmp 10) rfl r6 y1.cells.toArray rfl rfl _ _ (S4.out.z r6 (by simp)).2.2 (by kernel_rfl) rfl (by simp [Value.oneCell']) ?_
            have NE : Hid (r6 ≠ r7) := by have := S4.out.nd; simp at this; show _ ≠ _; omega
            refine hK.out _ _ (S4.out.rowKeep (by simp) _) (fun hHeld => ?_)
            clear hK K
            simp only [Act.put, List.getElem_toArray, List.getElem_cons_succ, List.getElem_cons_zero]
            refine wpAnyH_ready (rs := [7]) (by kernel_rfl) (by simp) ?_
            refine AllReadyH.cons rfl (fun K hK => ?_) AllReadyH.nil
            rw [if_pos (by rfl)]
            refine wp_store_row 36 (.tmp 7) (.tmp 12) rfl r7 y2.cells.toArray rfl rfl _ _ (S4.out.zrow (by simp) NE.out _) (by kernel_rfl) rfl (by simp [Value.oneCell']) ?_
            have FN := Lib.hid (S4.out.fin (rx := r6) (ry := r7) (by simp) (by simp) NE.out y1 y2 (L1.out.more [u2] [c2]) L2.out M1.out M2.out (by simp) (by simp))
            refine hK.out _ _ ⟨FN.out.oa, FN.out.ob⟩ (fun hHeld => ?_)
            clear hK K
            simp only [Act.put, List.getElem_toArray, List.getElem_cons_succ, List.getElem_cons_zero]
            refine wpAnyH_done (by kernel_rfl) ?_ _
            go_wp2_with fail
            go_meet
            exact ⟨r6, r7, y1, y2, _, _, _, _, rfl, rfl, FN.out⟩
          exact AllReadyH.nil
        refine AllReadyH.cons rfl (fun K hK => ?_) ?_
        · have S3 := Lib.hid S2.out.alloc
          go_simp
          refine hK.out _ _ ⟨S3.out.oa, S3.out.ob⟩ (fun hHeld => ?_)
          clear hK K
          clear S2
          try simp only [Act.put, List.setIfInBounds_toArray, List.set_cons_zero, List.set_cons_succ]
          generalize w2.alloc (.cells #[.int .i64 0, .int .i64 0, .int .i64 0, .int .i64 0, .int .i64 0, .int .i64 0, .int .i64 0, .string (ByteArray.mk #[]), .int .i64 0, .int .i64 0, .string (ByteArray.mk #[]), .int .i64 0, .int .i64 0, .int .i64 0, .int .u64 0, .int .u64 0, .slice none 0 0, .slice none 0 0] 36) = w3 at S3 hHeld ⊢
          generalize w2.heap.size = r7 at S3 ⊢
          refine wpAnyH_ready (rs := [3]) (by kernel_rfl) (by simp) ?_
          refine AllReadyH.cons rfl (fun K hK => ?_) ?_
          · have FC := Lib.hid (S3.out.msg b HB.out.2 SB.out (by simp) (by simp))
            first | (go_at_call 4; refine FC.out.mono ?_) | (go_simp; go_at_call 4; refine FC.out.mono ?_)
            rintro e w4 ⟨y2, u2, v2, c2, d2, rfl, hm2, hl2, hs⟩
            have S4 := Lib.hid hs
            have L2 := Lib.hid hl2
            have M2 := Lib.hid hm2
            clear hs hl2 hm2 FC
            refine hK.out _ _ ⟨S4.out.oa, S4.out.ob⟩ (fun hHeld => ?_)
            clear hK K
            clear S3
            try simp only [Act.put, List.setIfInBounds_toArray, List.set_cons_zero, List.set_cons_succ]
            refine wpAnyH_ready (rs := [6]) (by kernel_rfl) (by simp) ?_
            refine AllReadyH.cons rfl (fun K hK => ?_) AllReadyH.nil
            rw [if_pos (by rfl)]
            refine wp_store_row 36 (.tmp 6) (.tmp 10) rfl r6 y1.cells.toArray rfl rfl _ _ (S4.out.z r6 (by simp)).2.2 (by kernel_rfl) rfl (by simp [Value.oneCell']) ?_
            have NE : Hid (r6 ≠ r7) := by have := S4.out.nd; simp at this; show _ ≠ _; omega
            refine hK.out _ _ (S4.out.rowKeep (by simp) _) (fun hHeld => ?_)
            clear hK K
            simp only [Act.put, List.getElem_toArray, List.getElem_cons_succ, List.getElem_cons_zero]
            refine wpAnyH_ready (rs := [7]) (by kernel_rfl) (by simp) ?_
            refine AllReadyH.cons rfl (fun K hK => ?_) AllReadyH.nil
            rw [if_pos (by rfl)]
            refine wp_store_row 36 (.tmp 7) (.tmp 12) rfl r7 y2.cells.toArray rfl rfl _ _ (S4.out.zrow (by simp) NE.out _) (by kernel_rfl) rfl (by simp [Value.oneCell']) ?_
            have FN := Lib.hid (S4.out.fin (rx := r6) (ry := r7) (by simp) (by simp) NE.out y1 y2 (L1.out.more [u2] [c2]) L2.out M1.out M2.out (by simp) (by simp))
            refine hK.out _ _ ⟨FN.out.oa, FN.out.ob⟩ (fun hHeld => ?_)
            clear hK K
            simp only [Act.put, List.getElem_toArray, List.getElem_cons_succ, List.getElem_cons_zero]
            refine wpAnyH_done (by kernel_rfl) ?_ _
            go_wp2_with fail
            go_meet
            exact ⟨r6, r7, y1, y2, _, _, _, _, rfl, rfl, FN.out⟩
          exact AllReadyH.nil
        exact AllReadyH.nil
      refine AllReadyH.cons rfl (fun K hK => ?_) ?_
      · have S2 := Lib.hid S1.out.alloc
        go_simp
        refine hK.out _ _ ⟨S2.out.oa, S2.out.ob⟩ (fun hHeld => ?_)
        clear hK K
        clear S1
        try simp only [Act.put, List.setIfInBounds_toArray, List.set_cons_zero, List.set_cons_succ]
        generalize w1.alloc (.cells #[.int .i64 0, .int .i64 0, .int .i64 0, .int .i64 0, .int .i64 0, .int .i64 0, .int .i64 0, .string (ByteArray.mk #[]), .int .i64 0, .int .i64 0, .string (ByteArray.mk #[]), .int .i64 0, .int .i64 0, .int .i64 0, .int .u64 0, .int .u64 0, .slice none 0 0, .slice none 0 0] 36) = w2 at S2 hHeld ⊢
        generalize w1.heap.size = r7 at S2 ⊢
        refine wpAnyH_ready (rs := [1]) (by kernel_rfl) (by simp) ?_
        refine AllReadyH.cons rfl (fun K hK => ?_) ?_
        · have FC := Lib.hid (S2.out.msg a HA.out.2 SA.out (by simp) (by simp))
          first | (go_at_call 4; refine FC.out.mono ?_) | (go_simp; go_at_call 4; refine FC.out.mono ?_)
          rintro e w3 ⟨y1, u1, v1, c1, d1, rfl, hm1, hl1, hs⟩
          have S3 := Lib.hid hs
          have L1 := Lib.hid hl1
          have M1 := Lib.hid hm1
          clear hs hl1 hm1 FC
          refine hK.out _ _ ⟨S3.out.oa, S3.out.ob⟩ (fun hHeld => ?_)
          clear hK K
          clear S2
          try simp only [Act.put, List.setIfInBounds_toArray, List.set_cons_zero, List.set_cons_succ]
          refine wpAnyH_ready (rs := [3]) (by kernel_rfl) (by simp) ?_
          refine AllReadyH.cons rfl (fun K hK => ?_) ?_
          · have FC := Lib.hid (S3.out.msg b HB.out.2 SB.out (by simp) (by simp))
            first | (go_at_call 4; refine FC.out.mono ?_) | (go_simp; go_at_call 4; refine FC.out.mono ?_)
            rintro e w4 ⟨y2, u2, v2, c2, d2, rfl, hm2, hl2, hs⟩
            have S4 := Lib.hid hs
            have L2 := Lib.hid hl2
            have M2 := Lib.hid hm2
            clear hs hl2 hm2 FC
            refine hK.out _ _ ⟨S4.out.oa, S4.out.ob⟩ (fun hHeld => ?_)
            clear hK K
            clear S3
            try simp only [Act.put, List.setIfInBounds_toArray, List.set_cons_zero, List.set_cons_succ]
            refine wpAnyH_ready (rs := [6]) (by kernel_rfl) (by simp) ?_
            refine AllReadyH.cons rfl (fun K hK => ?_) AllReadyH.nil
            rw [if_pos (by rfl)]
            refine wp_store_row 36 (.tmp 6) (.tmp 10) rfl r6 y1.cells.toArray rfl rfl _ _ (S4.out.z r6 (by simp)).2.2 (by kernel_rfl) rfl (by simp [Value.oneCell']) ?_
            have NE : Hid (r6 ≠ r7) := by have := S4.out.nd; simp at this; show _ ≠ _; omega
            refine hK.out _ _ (S4.out.rowKeep (by simp) _) (fun hHeld => ?_)
            clear hK K
            simp only [Act.put, List.getElem_toArray, List.getElem_cons_succ, List.getElem_cons_zero]
            refine wpAnyH_ready (rs := [7]) (by kernel_rfl) (by simp) ?_
            refine AllReadyH.cons rfl (fun K hK => ?_) AllReadyH.nil
            rw [if_pos (by rfl)]
            refine wp_store_row 36 (.tmp 7) (.tmp 12) rfl r7 y2.cells.toArray rfl rfl _ _ (S4.out.zrow (by simp) NE.out _) (by kernel_rfl) rfl (by simp [Value.oneCell']) ?_
            have FN := Lib.hid (S4.out.fin (rx := r6) (ry := r7) (by simp) (by simp) NE.out y1 y2 (L1.out.more [u2] [c2]) L2.out M1.out M2.out (by simp) (by simp))
            refine hK.out _ _ ⟨FN.out.oa, FN.out.ob⟩ (fun hHeld => ?_)
            clear hK K
            simp only [Act.put, List.getElem_toArray, List.getElem_cons_succ, List.getElem_cons_zero]
            refine wpAnyH_done (by kernel_rfl) ?_ _
            go_wp2_with fail
            go_meet
            exact ⟨r6, r7, y1, y2, _, _, _, _, rfl, rfl, FN.out⟩
          exact AllReadyH.nil
        exact AllReadyH.nil
      exact AllReadyH.nil
    refine AllReadyH.cons rfl (fun K hK => ?_) ?_
    · have S1 := Lib.hid S0.out.alloc
      go_simp
      refine hK.out _ _ ⟨S1.out.oa, S1.out.ob⟩ (fun hHeld => ?_)
      clear hK K
      clear S0
      try simp only [Act.put, List.setIfInBounds_toArray, List.set_cons_zero, List.set_cons_succ]
      generalize w0.alloc (.cells #[.int .i64 0, .int .i64 0, .int .i64 0, .int .i64 0, .int .i64 0, .int .i64 0, .int .i64 0, .string (ByteArray.mk #[]), .int .i64 0, .int .i64 0, .string (ByteArray.mk #[]), .int .i64 0, .int .i64 0, .int .i64 0, .int .u64 0, .int .u64 0, .slice none 0 0, .slice none 0 0] 36) = w1 at S1 hHeld ⊢
      generalize w0.heap.size = r7 at S1 ⊢
      refine wpAnyH_ready (rs := [1, 4]) (by kernel_rfl) (by simp) ?_
      refine AllReadyH.cons rfl (fun K hK => ?_) ?_
      · have FC := Lib.hid (S1.out.msg a HA.out.2 SA.out (by simp) (by simp))
        first | (go_at_call 4; refine FC.out.mono ?_) | (go_simp; go_at_call 4; refine FC.out.mono ?_)
        rintro e w2 ⟨y1, u1, v1, c1, d1, rfl, hm1, hl1, hs⟩
        have S2 := Lib.hid hs
        have L1 := Lib.hid hl1
        have M1 := Lib.hid hm1
        clear hs hl1 hm1 FC
        refine hK.out _ _ ⟨S2.out.oa, S2.out.ob⟩ (fun hHeld => ?_)
        clear hK K
        clear S1
        try simp only [Act.put, List.setIfInBounds_toArray, List.set_cons_zero, List.set_cons_succ]
        refine wpAnyH_ready (rs := [3, 4]) (by kernel_rfl) (by simp) ?_
        refine AllReadyH.cons rfl (fun K hK => ?_) ?_
        · have FC := Lib.hid (S2.out.msg b HB.out.2 SB.out (by simp) (by simp))
          first | (go_at_call 4; refine FC.out.mono ?_) | (go_simp; go_at_call 4; refine FC.out.mono ?_)
          rintro e w3 ⟨y2, u2, v2, c2, d2, rfl, hm2, hl2, hs⟩
          have S3 := Lib.hid hs
          have L2 := Lib.hid hl2
          have M2 := Lib.hid hm2
          clear hs hl2 hm2 FC
          refine hK.out _ _ ⟨S3.out.oa, S3.out.ob⟩ (fun hHeld => ?_)
          clear hK K
          clear S2
          try simp only [Act.put, List.setIfInBounds_toArray, List.set_cons_zero, List.set_cons_succ]
          refine wpAnyH_ready (rs := [4]) (by kernel_rfl) (by simp) ?_
          refine AllReadyH.cons rfl (fun K hK => ?_) ?_
          · have S4 := Lib.hid S3.out.alloc
            go_simp
            refine hK.out _ _ ⟨S4.out.oa, S4.out.ob⟩ (fun hHeld => ?_)
            clear hK K
            clear S3
            try simp only [Act.put, List.setIfInBounds_toArray, List.set_cons_zero, List.set_cons_succ]
            generalize w3.alloc (.cells #[.int .i64 0, .int .i64 0, .int .i64 0, .int .i64 0, .int .i64 0, .int .i64 0, .int .i64 0, .string (ByteArray.mk #[]), .int .i64 0, .int .i64 0, .string (ByteArray.mk #[]), .int .i64 0, .int .i64 0, .int .i64 0, .int .u64 0, .int .u64 0, .slice none 0 0, .slice none 0 0] 36) = w4 at S4 hHeld ⊢
            generalize w3.heap.size = r6 at S4 ⊢
            refine wpAnyH_ready (rs := [6]) (by kernel_rfl) (by simp) ?_
            refine AllReadyH.cons rfl (fun K hK => ?_) AllReadyH.nil
            rw [if_pos (by rfl)]
            refine wp_store_row 36 (.tmp 6) (.tmp 10) rfl r6 y1.cells.toArray rfl rfl _ _ (S4.out.z r6 (by simp)).2.2 (by kernel_rfl) rfl (by simp [Value.oneCell']) ?_
            have NE : Hid (r6 ≠ r7) := by have := S4.out.nd; simp at this; show _ ≠ _; omega
            refine hK.out _ _ (S4.out.rowKeep (by simp) _) (fun hHeld => ?_)
            clear hK K
            simp only [Act.put, List.getElem_toArray, List.getElem_cons_succ, List.getElem_cons_zero]
            refine wpAnyH_ready (rs := [7]) (by kernel_rfl) (by simp) ?_
            refine AllReadyH.cons rfl (fun K hK => ?_) AllReadyH.nil
            rw [if_pos (by rfl)]
            refine wp_store_row 36 (.tmp 7) (.tmp 12) rfl r7 y2.cells.toArray rfl rfl _ _ (S4.out.zrow (by simp) NE.out _) (by kernel_rfl) rfl (by simp [Value.oneCell']) ?_
            have FN := Lib.hid (S4.out.fin (rx := r6) (ry := r7) (by simp) (by simp) NE.out y1 y2 (L1.out.more [u2] [c2]) L2.out M1.out M2.out (by simp) (by simp))
            refine hK.out _ _ ⟨FN.out.oa, FN.out.ob⟩ (fun hHeld => ?_)
            clear hK K
            simp only [Act.put, List.getElem_toArray, List.getElem_cons_succ, List.getElem_cons_zero]
            refine wpAnyH_done (by kernel_rfl) ?_ _
            go_wp2_with fail
            go_meet
            exact ⟨r6, r7, y1, y2, _, _, _, _, rfl, rfl, FN.out⟩
          exact AllReadyH.nil
        refine AllReadyH.cons rfl (fun K hK => ?_) ?_
        · have S3 := Lib.hid S2.out.alloc
          go_simp
          refine hK.out _ _ ⟨S3.out.oa, S3.out.ob⟩ (fun hHeld => ?_)
          clear hK K
          clear S2
          try simp only [Act.put, List.setIfInBounds_toArray, List.set_cons_zero, List.set_cons_succ]
          generalize w2.alloc (.cells #[.int .i64 0, .int .i64 0, .int .i64 0, .int .i64 0, .int .i64 0, .int .i64 0, .int .i64 0, .string (ByteArray.mk #[]), .int .i64 0, .int .i64 0, .string (ByteArray.mk #[]), .int .i64 0, .int .i64 0, .int .i64 0, .int .u64 0, .int .u64 0, .slice none 0 0, .slice none 0 0] 36) = w3 at S3 hHeld ⊢
          generalize w2.heap.size = r6 at S3 ⊢
          refine wpAnyH_ready (rs := [3]) (by kernel_rfl) (by simp) ?_
          refine AllReadyH.cons rfl (fun K hK => ?_) ?_
          · have FC := Lib.hid (S3.out.msg b HB.out.2 SB.out (by simp) (by simp))
            first | (go_at_call 4; refine FC.out.mono ?_) | (go_simp; go_at_call 4; refine FC.out.mono ?_)
            rintro e w4 ⟨y2, u2, v2, c2, d2, rfl, hm2, hl2, hs⟩
            have S4 := Lib.hid hs
            have L2 := Lib.hid hl2
            have M2 := Lib.hid hm2
            clear hs hl2 hm2 FC
            refine hK.out _ _ ⟨S4.out.oa, S4.out.ob⟩ (fun hHeld => ?_)
            clear hK K
            clear S3
            try simp only [Act.put, List.setIfInBounds_toArray, List.set_cons_zero, List.set_cons_succ]
            refine wpAnyH_ready (rs := [6]) (by kernel_rfl) (by simp) ?_
            refine AllReadyH.cons rfl (fun K hK => ?_) AllReadyH.nil
            rw [if_pos (by rfl)]
            refine wp_store_row 36 (.tmp 6) (.tmp 10) rfl r6 y1.cells.toArray rfl rfl _ _ (S4.out.z r6 (by simp)).2.2 (by kernel_rfl) rfl (by simp [Value.oneCell']) ?_
            have NE : Hid (r6 ≠ r7) := by have := S4.out.nd; simp at this; show _ ≠ _; omega
            refine hK.out _ _ (S4.out.rowKeep (by simp) _) (fun hHeld => ?_)
            clear hK K
            simp only [Act.put, List.getElem_toArray, List.getElem_cons_succ, List.getElem_cons_zero]
            refine wpAnyH_ready (rs := [7]) (by kernel_rfl) (by simp) ?_
            refine AllReadyH.cons rfl (fun K hK => ?_) AllReadyH.nil
            rw [if_pos (by rfl)]
            refine wp_store_row 36 (.tmp 7) (.tmp 12) rfl r7 y2.cells.toArray rfl rfl _ _ (S4.out.zrow (by simp) NE.out _) (by kernel_rfl) rfl (by simp [Value.oneCell']) ?_
            have FN := Lib.hid (S4.out.fin (rx := r6) (ry := r7) (by simp) (by simp) NE.out y1 y2 (L1.out.more [u2] [c2]) L2.out M1.out M2.out (by simp) (by simp))
            refine hK.out _ _ ⟨FN.out.oa, FN.out.ob⟩ (fun hHeld => ?_)
            clear hK K
            simp only [Act.put, List.getElem_toArray, List.getElem_cons_succ, List.getElem_cons_zero]
            refine wpAnyH_done (by kernel_rfl) ?_ _
            go_wp2_with fail
            go_meet
            exact ⟨r6, r7, y1, y2, _, _, _, _, rfl, rfl, FN.out⟩
          exact AllReadyH.nil
        exact AllReadyH.nil
      refine AllReadyH.cons rfl (fun K hK => ?_) ?_
      · have S2 := Lib.hid S1.out.alloc
        go_simp
        refine hK.out _ _ ⟨S2.out.oa, S2.out.ob⟩ (fun hHeld => ?_)
        clear hK K
        clear S1
        try simp only [Act.put, List.setIfInBounds_toArray, List.set_cons_zero, List.set_cons_succ]
        generalize w1.alloc (.cells #[.int .i64 0, .int .i64 0, .int .i64 0, .int .i64 0, .int .i64 0, .int .i64 0, .int .i64 0, .string (ByteArray.mk #[]), .int .i64 0, .int .i64 0, .string (ByteArray.mk #[]), .int .i64 0, .int .i64 0, .int .i64 0, .int .u64 0, .int .u64 0, .slice none 0 0, .slice none 0 0] 36) = w2 at S2 hHeld ⊢
        generalize w1.heap.size = r6 at S2 ⊢
        refine wpAnyH_ready (rs := [1]) (by kernel_rfl) (by simp) ?_
        refine AllReadyH.cons rfl (fun K hK => ?_) ?_
        · have FC := Lib.hid (S2.out.msg a HA.out.2 SA.out (by simp) (by simp))
          first | (go_at_call 4; refine FC.out.mono ?_) | (go_simp; go_at_call 4; refine FC.out.mono ?_)
          rintro e w3 ⟨y1, u1, v1, c1, d1, rfl, hm1, hl1, hs⟩
          have S3 := Lib.hid hs
          have L1 := Lib.hid hl1
          have M1 := Lib.hid hm1
          clear hs hl1 hm1 FC
          refine hK.out _ _ ⟨S3.out.oa, S3.out.ob⟩ (fun hHeld => ?_)
          clear hK K
          clear S2
          try simp only [Act.put, List.setIfInBounds_toArray, List.set_cons_zero, List.set_cons_succ]
          refine wpAnyH_ready (rs := [3]) (by kernel_rfl) (by simp) ?_
          refine AllReadyH.cons rfl (fun K hK => ?_) ?_
          · have FC := Lib.hid (S3.out.msg b HB.out.2 SB.out (by simp) (by simp))
            first | (go_at_call 4; refine FC.out.mono ?_) | (go_simp; go_at_call 4; refine FC.out.mono ?_)
            rintro e w4 ⟨y2, u2, v2, c2, d2, rfl, hm2, hl2, hs⟩
            have S4 := Lib.hid hs
            have L2 := Lib.hid hl2
            have M2 := Lib.hid hm2
            clear hs hl2 hm2 FC
            refine hK.out _ _ ⟨S4.out.oa, S4.out.ob⟩ (fun hHeld => ?_)
            clear hK K
            clear S3
            try simp only [Act.put, List.setIfInBounds_toArray, List.set_cons_zero, List.set_cons_succ]
            refine wpAnyH_ready (rs := [6]) (by kernel_rfl) (by simp) ?_
            refine AllReadyH.cons rfl (fun K hK => ?_) AllReadyH.nil
            rw [if_pos (by rfl)]
            refine wp_store_row 36 (.tmp 6) (.tmp 10) rfl r6 y1.cells.toArray rfl rfl _ _ (S4.out.z r6 (by simp)).2.2 (by kernel_rfl) rfl (by simp [Value.oneCell']) ?_
            have NE : Hid (r6 ≠ r7) := by have := S4.out.nd; simp at this; show _ ≠ _; omega
            refine hK.out _ _ (S4.out.rowKeep (by simp) _) (fun hHeld => ?_)
            clear hK K
            simp only [Act.put, List.getElem_toArray, List.getElem_cons_succ, List.getElem_cons_zero]
            refine wpAnyH_ready (rs := [7]) (by kernel_rfl) (by simp) ?_
            refine AllReadyH.cons rfl (fun K hK => ?_) AllReadyH.nil
            rw [if_pos (by rfl)]
            refine wp_store_row 36 (.tmp 7) (.tmp 12) rfl r7 y2.cells.toArray rfl rfl _ _ (S4.out.zrow (by simp) NE.out _) (by kernel_rfl) rfl (by simp [Value.oneCell']) ?_
            have FN := Lib.hid (S4.out.fin (rx := r6) (ry := r7) (by simp) (by simp) NE.out y1 y2 (L1.out.more [u2] [c2]) L2.out M1.out M2.out (by simp) (by simp))
            refine hK.out _ _ ⟨FN.out.oa, FN.out.ob⟩ (fun hHeld => ?_)
            clear hK K
            simp only [Act.put, List.getElem_toArray, List.getElem_cons_succ, List.getElem_cons_zero]
            refine wpAnyH_done (by kernel_rfl) ?_ _
            go_wp2_with fail
            go_meet
            exact ⟨r6, r7, y1, y2, _, _, _, _, rfl, rfl, FN.out⟩
          exact AllReadyH.nil
        exact AllReadyH.nil
      exact AllReadyH.nil
    exact AllReadyH.nil
  case rest =>
    obtain ⟨rx, ry, x, y, us, vs, xs, ys, rfl, rfl, T0⟩ := hcut
    clear S0
    go_wp2_with (refine wpList_load_cells rfl 36 (.tmp 2) rfl ⟨W.heap.size, 0, none⟩ rfl a.cells _ T0.out.oa.adds Try.underlying36 rfl (by kernel_rfl) ?_)
    refine (copyMsg_any a _ (HA.out.2.rd.below T0.out.bel) HA.out.2.ln HA.out.2.vn SA.out).mono ?_
    rintro e w3 ⟨z, rfl, hm3, hn3, hk3, hr3, hb3⟩
    have T3 := Lib.hid (T0.out.below hb3)
    have Z3 := Lib.hid (And.intro hm3 hr3)
    clear hm3 hn3 hk3 hr3 hb3 T0
    go_upto_region 4 with (refine wpList_store_row rfl 36 (.tmp 8) (.tmp 14) rfl w3.heap.size z.cells.toArray rfl rfl _ _ (heap_alloc_new w3 _) (by kernel_rfl) rfl (by simp [Value.oneCell']) ?_)
    have O4 : Hid (Ob ((w3.alloc (.cells #[.int .i64 0, .int .i64 0, .int .i64 0, .int .i64 0, .int .i64 0, .int .i64 0, .int .i64 0, .string (ByteArray.mk #[]), .int .i64 0, .int .i64 0, .string (ByteArray.mk #[]), .int .i64 0, .int .i64 0, .int .i64 0, .int .u64 0, .int .u64 0, .slice none 0 0, .slice none 0 0] 36)).setRow w3.heap.size z.cells.toArray) w3.heap.size z.cells) := ob_row (cs := z.cells.toArray) (heap_alloc_new w3 _)
    have B4 : Hid (Below w3.heap.size w3 ((w3.alloc (.cells #[.int .i64 0, .int .i64 0, .int .i64 0, .int .i64 0, .int .i64 0, .int .i64 0, .int .i64 0, .string (ByteArray.mk #[]), .int .i64 0, .int .i64 0, .string (ByteArray.mk #[]), .int .i64 0, .int .i64 0, .int .i64 0, .int .u64 0, .int .u64 0, .slice none 0 0, .slice none 0 0] 36)).setRow w3.heap.size z.cells.toArray)) := below_row ((Below.refl _ _).alloc (Nat.le_refl _) _) (Nat.le_refl _) _
    generalize (w3.alloc (.cells #[.int .i64 0, .int .i64 0, .int .i64 0, .int .i64 0, .int .i64 0, .int .i64 0, .int .i64 0, .string (ByteArray.mk #[]), .int .i64 0, .int .i64 0, .string (ByteArray.mk #[]), .int .i64 0, .int .i64 0, .int .i64 0, .int .u64 0, .int .u64 0, .slice none 0 0, .slice none 0 0] 36)).setRow w3.heap.size z.cells.toArray = w4 at O4 B4 ⊢
    generalize hrc : w3.heap.size = rc at *
    have HRC := Lib.hid hrc
    clear hrc
    have q16 := O4.out.cell 16 rfl
    have f16 := O4.out.fr 16 (by simp)
    have L4 := O4.out.lt (by simp)
    have B4' := B4.out.size
    go_upto_if 18 with fail
    go_cut [] (fun wx => ∃ z1 : Mp, Hid (Below rc w3 wx ∧ Ob wx rc z1.cells ∧ z1.m = a.m ∧ z1.Rd w3))
    case first =>
      by_cases h0 : z.n = 0
      · have hb : ((z.n : Int) == 0) = true := by simp [h0]
        have H0 := Lib.hid h0
        clear h0
        go_wp2_with fail
        go_meet
        exact ⟨_, emptyLog B4.out L4 O4.out Z3.out.1 Z3.out.2 H0.out _ _⟩
      · have hb : ((z.n : Int) == 0) = false := by simp [h0]
        clear h0
        go_wp2_with fail
        go_meet
        exact ⟨z, B4.out, O4.out, Z3.out.1, Z3.out.2⟩
    case rest =>
      obtain ⟨z1, HZ1⟩ := hcut
      have O5 := Lib.hid HZ1.out.2.1
      have B5 := Lib.hid HZ1.out.1
      have Z5 := Lib.hid HZ1.out.2.2
      clear HZ1 q16 f16 L4 B4' O4 B4
      have q17 := O5.out.cell 17 rfl
      have f17 := O5.out.fr 17 (by simp)
      have L5 := O5.out.lt (by simp)
      have B5' := B5.out.size
      go_upto_if 24 with fail
      obtain ⟨w5, rfl⟩ : ∃ z, z = wc := ⟨_, rfl⟩
      go_cut [] (fun wx => ∃ z2 : Mp, Hid (Below rc w3 wx ∧ Ob wx rc z2.cells ∧ z2.m = a.m ∧ z2.Rd w3))
      case first =>
        by_cases h0 : z1.k = 0
        · have hb : ((z1.k : Int) == 0) = true := by simp [h0]
          have H0 := Lib.hid h0
          clear h0
          go_wp2_with fail
          go_meet
          exact ⟨_, emptyVec B5.out L5 O5.out Z5.out.1 Z5.out.2 H0.out _ _⟩
        · have hb : ((z1.k : Int) == 0) = false := by simp [h0]
          clear h0
          go_wp2_with fail
          go_meet
          exact ⟨z1, B5.out, O5.out, Z5.out.1, Z5.out.2⟩
      case rest =>
        obtain ⟨z2, HZ2⟩ := hcut
        clear q17 f17 L5 B5' O5 B5 Z5
        have HB3 : Below w3.heap.size w3 wc := by rw [HRC.out]; exact HZ2.out.1
        have F0 : Hid (Five W wc (W.heap.size + 2) W.heap.size (W.heap.size + 1) rx ry rc a b x y z2 us vs xs ys) :=
          ⟨T3.out.below HB3, HZ2.out.2.1, HA.out.2.rd.below (T3.out.below HB3).bel, HB.out.2.rd.below (T3.out.below HB3).bel, HZ2.out.2.2.2.below HB3, HZ2.out.2.2.1⟩
        clear HB3 HZ2 Z3 T3 HRC HA HB SA SB
        obtain ⟨bb, hbb⟩ : ∃ bb : Bool, (bb = true ↔ a.m = b.m) := ⟨@decide (a.m = b.m) (Classical.propDecidable _), by simp⟩
        have BB := Lib.hid hbb
        clear hbb
        go_upto_region 8 with fail
        refine wp_region_held_drew (S := (fun y' => Five W y' (W.heap.size + 2) W.heap.size (W.heap.size + 1) rx ry rc a b x y z2 us vs xs ys)) (by kernel_rfl) (F0.out.below (Below.drewN (Below.refl _ _) 1)) (fun hHeld => ?_)
        clear F0
        generalize World.drew _ = w6 at hHeld ⊢
        refine wpAnyH_take (i := 0) rfl (by kernel_rfl) (by kernel_rfl) (by kernel_rfl) (fun _ _ _ h => h) (Or.inl ⟨by rfl, fun y hy => run_load_ob 36 (.tmp 6) rfl rfl hy.t.ox Try.underlying36 (by kernel_rfl)⟩) (by assumption) ?_
        simp only [Act.put, List.getElem_toArray, List.getElem_cons_succ, List.getElem_cons_zero, List.setIfInBounds_toArray, List.set_cons_zero, List.set_cons_succ]
        refine wpAnyH_take (i := 1) rfl (by kernel_rfl) (by kernel_rfl) (by kernel_rfl) (fun _ _ _ h => h) (Or.inl ⟨by rfl, fun y hy => run_load_ob 36 (.tmp 7) rfl rfl hy.t.oy Try.underlying36 (by kernel_rfl)⟩) (by assumption) ?_
        simp only [Act.put, List.getElem_toArray, List.getElem_cons_succ, List.getElem_cons_zero, List.setIfInBounds_toArray, List.set_cons_zero, List.set_cons_succ]
        refine wpAnyH_take (i := 3) rfl (by kernel_rfl) (by kernel_rfl) (by kernel_rfl) (fun _ _ _ h => h) (Or.inl ⟨by rfl, fun y hy => run_load_ob 36 (.tmp 2) rfl rfl hy.t.oa Try.underlying36 (by kernel_rfl)⟩) (by assumption) ?_
        simp only [Act.put, List.getElem_toArray, List.getElem_cons_succ, List.getElem_cons_zero, List.setIfInBounds_toArray, List.set_cons_zero, List.set_cons_succ]
        refine wpAnyH_take (i := 4) rfl (by kernel_rfl) (by kernel_rfl) (by kernel_rfl) (fun _ _ _ h => h) (Or.inl ⟨by rfl, fun y hy => run_load_ob 36 (.tmp 3) rfl rfl hy.t.ob Try.underlying36 (by kernel_rfl)⟩) (by assumption) ?_
        simp only [Act.put, List.getElem_toArray, List.getElem_cons_succ, List.getElem_cons_zero, List.setIfInBounds_toArray, List.set_cons_zero, List.set_cons_succ]
        refine wpAnyH_ready (rs := [2]) (by kernel_rfl) (by simp) ?_
        refine AllReadyH.cons rfl (fun K hK => ?_) AllReadyH.nil
        have FC := Lib.hid (hHeld.xy BB.out)
        first | (go_at_call 6; refine FC.out.mono ?_) | (go_simp; go_at_call 6; refine FC.out.mono ?_)
        rintro e w12 ⟨rfl, h9⟩
        refine hK.out _ _ h9 (fun hHeld => ?_)
        clear hK K FC
        try simp only [Act.put, List.setIfInBounds_toArray, List.set_cons_zero, List.set_cons_succ]
        refine wpAnyH_ready (rs := [5]) (by kernel_rfl) (by simp) ?_
        refine AllReadyH.cons rfl (fun K hK => ?_) AllReadyH.nil
        have FC := Lib.hid (hHeld.ab BB.out)
        first | (go_at_call 7; refine FC.out.mono ?_) | (go_simp; go_at_call 7; refine FC.out.mono ?_)
        rintro e w15 ⟨rfl, h9⟩
        refine hK.out _ _ h9 (fun hHeld => ?_)
        clear hK K FC
        try simp only [Act.put, List.setIfInBounds_toArray, List.set_cons_zero, List.set_cons_succ]
        refine wpAnyH_take (i := 6) (v := .bool true) rfl (by kernel_rfl) (by kernel_rfl) (by kernel_rfl) (fun _ _ _ h => h) (Or.inl ⟨by rfl, ?y6⟩) (by assumption) ?_
        case y6 => (intro w hSw; go_simp)
        simp only [Act.put, List.getElem_toArray, List.getElem_cons_succ, List.getElem_cons_zero, List.setIfInBounds_toArray, List.set_cons_zero, List.set_cons_succ]
        refine wpAnyH_take (i := 7) (v := .bool true) rfl (by kernel_rfl) (by kernel_rfl) (by kernel_rfl) (fun _ _ _ h => h) (Or.inl ⟨by rfl, ?y7⟩) (by assumption) ?_
        case y7 => (intro w hSw; go_simp)
        simp only [Act.put, List.getElem_toArray, List.getElem_cons_succ, List.getElem_cons_zero, List.setIfInBounds_toArray, List.set_cons_zero, List.set_cons_succ]
        refine wpAnyH_take (i := 8) rfl (by kernel_rfl) (by kernel_rfl) (by kernel_rfl) (fun _ _ _ h => h) (Or.inl ⟨by rfl, fun y hy => run_load_ob 36 (.tmp 7) rfl rfl hy.t.oy Try.underlying36 (by kernel_rfl)⟩) (by assumption) ?_
        simp only [Act.put, List.getElem_toArray, List.getElem_cons_succ, List.getElem_cons_zero, List.setIfInBounds_toArray, List.set_cons_zero, List.set_cons_succ]
        refine wpAnyH_take (i := 9) rfl (by kernel_rfl) (by kernel_rfl) (by kernel_rfl) (fun _ _ _ h => h) (Or.inl ⟨by rfl, fun y hy => run_load_ob 36 (.tmp 6) rfl rfl hy.t.ox Try.underlying36 (by kernel_rfl)⟩) (by assumption) ?_
        simp only [Act.put, List.getElem_toArray, List.getElem_cons_succ, List.getElem_cons_zero, List.setIfInBounds_toArray, List.set_cons_zero, List.set_cons_succ]
        refine wpAnyH_take (i := 11) rfl (by kernel_rfl) (by kernel_rfl) (by kernel_rfl) (fun _ _ _ h => h) (Or.inl ⟨by rfl, fun y hy => run_load_ob 36 (.tmp 2) rfl rfl hy.t.oa Try.underlying36 (by kernel_rfl)⟩) (by assumption) ?_
        simp only [Act.put, List.getElem_toArray, List.getElem_cons_succ, List.getElem_cons_zero, List.setIfInBounds_toArray, List.set_cons_zero, List.set_cons_succ]
        refine wpAnyH_take (i := 12) rfl (by kernel_rfl) (by kernel_rfl) (by kernel_rfl) (fun _ _ _ h => h) (Or.inl ⟨by rfl, fun y hy => run_load_ob 36 (.tmp 3) rfl rfl hy.t.ob Try.underlying36 (by kernel_rfl)⟩) (by assumption) ?_
        simp only [Act.put, List.getElem_toArray, List.getElem_cons_succ, List.getElem_cons_zero, List.setIfInBounds_toArray, List.set_cons_zero, List.set_cons_succ]
        refine wpAnyH_ready (rs := [10]) (by kernel_rfl) (by simp) ?_
        refine AllReadyH.cons rfl (fun K hK => ?_) AllReadyH.nil
        have FC := Lib.hid (hHeld.yx BB.out)
        first | (go_at_call 6; refine FC.out.mono ?_) | (go_simp; go_at_call 6; refine FC.out.mono ?_)
        rintro e w20 ⟨rfl, h9⟩
        refine hK.out _ _ h9 (fun hHeld => ?_)
        clear hK K FC
        try simp only [Act.put, List.setIfInBounds_toArray, List.set_cons_zero, List.set_cons_succ]
        refine wpAnyH_ready (rs := [13]) (by kernel_rfl) (by simp) ?_
        refine AllReadyH.cons rfl (fun K hK => ?_) AllReadyH.nil
        have FC := Lib.hid (hHeld.ab BB.out)
        first | (go_at_call 7; refine FC.out.mono ?_) | (go_simp; go_at_call 7; refine FC.out.mono ?_)
        rintro e w23 ⟨rfl, h9⟩
        refine hK.out _ _ h9 (fun hHeld => ?_)
        clear hK K FC
        try simp only [Act.put, List.setIfInBounds_toArray, List.set_cons_zero, List.set_cons_succ]
        refine wpAnyH_take (i := 14) (v := .bool true) rfl (by kernel_rfl) (by kernel_rfl) (by kernel_rfl) (fun _ _ _ h => h) (Or.inl ⟨by rfl, ?y14⟩) (by assumption) ?_
        case y14 => (intro w hSw; go_simp)
        simp only [Act.put, List.getElem_toArray, List.getElem_cons_succ, List.getElem_cons_zero, List.setIfInBounds_toArray, List.set_cons_zero, List.set_cons_succ]
        refine wpAnyH_take (i := 15) (v := .bool true) rfl (by kernel_rfl) (by kernel_rfl) (by kernel_rfl) (fun _ _ _ h => h) (Or.inl ⟨by rfl, ?y15⟩) (by assumption) ?_
        case y15 => (intro w hSw; go_simp)
        simp only [Act.put, List.getElem_toArray, List.getElem_cons_succ, List.getElem_cons_zero, List.setIfInBounds_toArray, List.set_cons_zero, List.set_cons_succ]
        refine wpAnyH_take (i := 16) (v := .bool true) rfl (by kernel_rfl) (by kernel_rfl) (by kernel_rfl) (fun _ _ _ h => h) (Or.inl ⟨by rfl, ?y16⟩) (by assumption) ?_
        case y16 => (intro w hSw; go_simp)
        simp only [Act.put, List.getElem_toArray, List.getElem_cons_succ, List.getElem_cons_zero, List.setIfInBounds_toArray, List.set_cons_zero, List.set_cons_succ]
        refine wpAnyH_take (i := 17) rfl (by kernel_rfl) (by kernel_rfl) (by kernel_rfl) (fun _ _ _ h => h) (Or.inl ⟨by rfl, fun y hy => run_load_ob 36 (.tmp 6) rfl rfl hy.t.ox Try.underlying36 (by kernel_rfl)⟩) (by assumption) ?_
        simp only [Act.put, List.getElem_toArray, List.getElem_cons_succ, List.getElem_cons_zero, List.setIfInBounds_toArray, List.set_cons_zero, List.set_cons_succ]
        refine wpAnyH_take (i := 18) rfl (by kernel_rfl) (by kernel_rfl) (by kernel_rfl) (fun _ _ _ h => h) (Or.inl ⟨by rfl, fun y hy => run_load_ob 36 (.tmp 8) rfl rfl hy.oc Try.underlying36 (by kernel_rfl)⟩) (by assumption) ?_
        simp only [Act.put, List.getElem_toArray, List.getElem_cons_succ, List.getElem_cons_zero, List.setIfInBounds_toArray, List.set_cons_zero, List.set_cons_succ]
        refine wpAnyH_ready (rs := [19]) (by kernel_rfl) (by simp) ?_
        refine AllReadyH.cons rfl (fun K hK => ?_) AllReadyH.nil
        have FC := Lib.hid (hHeld.xz)
        first | (go_at_call 6; refine FC.out.mono ?_) | (go_simp; go_at_call 6; refine FC.out.mono ?_)
        rintro e w29 ⟨rfl, h9⟩
        refine hK.out _ _ h9 (fun hHeld => ?_)
        clear hK K FC
        try simp only [Act.put, List.setIfInBounds_toArray, List.set_cons_zero, List.set_cons_succ]
        refine wpAnyH_take (i := 20) (v := .bool true) rfl (by kernel_rfl) (by kernel_rfl) (by kernel_rfl) (fun _ _ _ h => h) (Or.inl ⟨by rfl, ?y20⟩) (by assumption) ?_
        case y20 => (intro w hSw; go_simp)
        simp only [Act.put, List.getElem_toArray, List.getElem_cons_succ, List.getElem_cons_zero, List.setIfInBounds_toArray, List.set_cons_zero, List.set_cons_succ]
        refine wpAnyH_take (i := 21) (v := .bool true) rfl (by kernel_rfl) (by kernel_rfl) (by kernel_rfl) (fun _ _ _ h => h) (Or.inl ⟨by rfl, ?y21⟩) (by assumption) ?_
        case y21 => (intro w hSw; go_simp)
        simp only [Act.put, List.getElem_toArray, List.getElem_cons_succ, List.getElem_cons_zero, List.setIfInBounds_toArray, List.set_cons_zero, List.set_cons_succ]
        refine wpAnyH_ready (rs := [22]) (by kernel_rfl) (by simp) ?_
        refine AllReadyH.cons rfl (fun K hK => ?_) AllReadyH.nil
        have FC := Lib.hid (hHeld.intact)
        first | (go_at_call 8; refine FC.out.mono ?_) | (go_simp; go_at_call 8; refine FC.out.mono ?_)
        rintro e w32 ⟨rfl, h9⟩
        refine hK.out _ _ h9 (fun hHeld => ?_)
        clear hK K FC
        try simp only [Act.put, List.setIfInBounds_toArray, List.set_cons_zero, List.set_cons_succ]
        refine wpAnyH_take (i := 23) (v := .bool true) rfl (by kernel_rfl) (by kernel_rfl) (by kernel_rfl) (fun _ _ _ h => h) (Or.inl ⟨by rfl, ?y23⟩) (by assumption) ?_
        case y23 => (intro w hSw; go_simp)
        simp only [Act.put, List.getElem_toArray, List.getElem_cons_succ, List.getElem_cons_zero, List.setIfInBounds_toArray, List.set_cons_zero, List.set_cons_succ]
        refine wpAnyH_take (i := 24) (v := .bool true) rfl (by kernel_rfl) (by kernel_rfl) (by kernel_rfl) (fun _ _ _ h => h) (Or.inl ⟨by rfl, ?y24⟩) (by assumption) ?_
        case y24 => (intro w hSw; go_simp)
        simp only [Act.put, List.getElem_toArray, List.getElem_cons_succ, List.getElem_cons_zero, List.setIfInBounds_toArray, List.set_cons_zero, List.set_cons_succ]
        refine wpAnyH_done (by kernel_rfl) ?_ _
        go_wp2_with fail
        go_ret
        exact ⟨rfl, hHeld.t.bel⟩
end Go.Proofs.Ytgmmpbiideeikaa
