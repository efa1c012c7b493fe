/-
  The walks of the document's Clock, Pairs and Mixed.
-/
import Derived.Test.YtgbjfmokfkdglaaNNilF
set_option linter.unusedVariables false
set_option linter.unusedSimpArgs false
namespace Go.Proofs.Ytgbjfmokfkdglaa
open Go.RowKit

theorem refSet_any (c a b : Nat) (w : World) (h : Ob w c [.int .u64 (a : Nat)]) :
    Calls Try.prog 50 #[.pointer (some ⟨c, 0, none⟩), .int .u64 (b : Nat)] w fun e w' => e = .returned (.int .i64 ((cSet a b).1 : Nat)) ∧ w.grownBy w' (some c) ∧ w'.heap.size = w.heap.size ∧ Ob w' c [.int .u64 ((cSet a b).2 : Nat)] := by
  have c0 := h.cell 0 rfl
  have f0 := h.fr 0 (by simp)
  have H := Lib.hid h
  clear h
  by_cases hlt : b < a
  · have e1 : cSet a b = (22, a) := if_pos hlt
    rw [e1]
    have hx : (b : Int) < a := by omega
    clear e1 hlt
    go_enter Try.func50, Try.ntmps50
    go_wp2
    go_ret
    exact ⟨rfl, World.grownBy.refl _ _, rfl, H.out⟩
  · have e1 : cSet a b = (0, b) := if_neg hlt
    rw [e1]
    have hx : ¬ (b : Int) < a := by omega
    clear e1 hlt
    go_enter Try.func50, Try.ntmps50
    go_wp2
    go_ret
    exact ⟨rfl, grown_setCell _ _ _, by simp, H.out.set 0 (by simp) _⟩
theorem refPass_any (c a b : Nat) (w : World) (h : Ob w c [.int .u64 (a : Nat)]) (ha : a < 18446744073709551616) (hb : b < 18446744073709551616) :
    Calls Try.prog 51 #[.pointer (some ⟨c, 0, none⟩), .int .u64 (b : Nat)] w fun e w' => e = .returned (.int .i64 ((cPass a b).1 : Nat)) ∧ w.grownBy w' (some c) ∧ w'.heap.size = w.heap.size ∧ Ob w' c [.int .u64 ((cPass a b).2 : Nat)] := by
  have c0 := h.cell 0 rfl
  have f0 := h.fr 0 (by simp)
  have H := Lib.hid h
  clear h
  by_cases hlt : 18446744073709551615 - a < b
  · have e1 : cPass a b = (20, a) := if_pos hlt
    rw [e1]
    have hx : (18446744073709551615 : Int) - a < b := by omega
    have hw : IntKind.u64.wrap (18446744073709551615 - (a : Int)) = 18446744073709551615 - a := by rw [IntKind.wrap_u64]; omega
    clear e1
    go_enter Try.func51, Try.ntmps51
    go_wp2
    go_ret
    exact ⟨rfl, World.grownBy.refl _ _, rfl, H.out⟩
  · have e1 : cPass a b = (0, a + b) := if_neg hlt
    rw [e1]
    have hx : ¬ (18446744073709551615 : Int) - a < b := by omega
    have hw : IntKind.u64.wrap (18446744073709551615 - (a : Int)) = 18446744073709551615 - a := by rw [IntKind.wrap_u64]; omega
    have hw2 : IntKind.u64.wrap ((a : Int) + b) = ((a + b : Nat) : Int) := by rw [IntKind.wrap_u64]; omega
    clear e1
    go_enter Try.func51, Try.ntmps51
    go_wp2
    go_ret
    exact ⟨rfl, grown_setCell _ _ _, by simp, by simpa using H.out.set 0 (by simp) _⟩
theorem refWipe_any (x : Nat) (d M : Value) (w : World) (h : Ob w x [d, M]) :
    Calls Try.prog 53 #[.pointer (some ⟨x, 0, none⟩)] w fun e w' => e = .returned (.tuple #[]) ∧ w.grownBy w' (some x) ∧ w'.heap.size = w.heap.size ∧ Ob w' x [d, .slice none 0 0] := by
  have c1 := h.cell 1 rfl
  have f1 := h.fr 1 (by simp)
  have H := Lib.hid h
  clear h
  go_enter Try.func53, Try.ntmps53
  go_wp2
  go_end0
  exact ⟨rfl, grown_setCell _ _ _, by simp, H.out.set 1 (by simp) _⟩
theorem refMixed_any (q : Nat) (s : Int) (w : World) (h : Ob w q [.int .u64 s]) :
    Calls Try.prog 54 #[.pointer (some ⟨q, 0, none⟩)] w fun e w' => e = .returned (.tuple #[.agg #[.int .u64 (mMix (mS s)), .int .u64 (mMix (mS (mS s)))], .int .i64 0]) ∧ w.grownBy w' (some q) ∧ Ob w' q [.int .u64 (mS (mS s))] := by
  have H := Lib.hid h
  have lq := h.lt (by simp)
  clear h
  go_enter Try.func54, Try.ntmps54
  go_wp2_with fail
  refine (refWord_any q s _ (H.out.alloc _)).mono ?_
  rintro e w1 ⟨rfl, g1, o1⟩
  have k1 := Lib.hid g1
  have k2 := Lib.hid o1
  have r1 : Hid (Ob w1 w.heap.size [.int .u64 0, .int .u64 0]) := (Ob.fresh w _ _).kept g1 (by simp; omega)
  clear g1 o1
  go_wp2_with fail
  refine (refWord_any q (mS s) _ k2.out).mono ?_
  rintro e w2 ⟨rfl, g2, o2⟩
  have k3 := Lib.hid g2
  have k4 := Lib.hid o2
  have r2 : Hid (Ob w2 w.heap.size [.int .u64 0, .int .u64 0]) := r1.out.kept g2 (by simp; omega)
  clear g2 o2
  have z0 := r2.out.cell 0 rfl
  have z1 := r2.out.cell 1 rfl
  have z2 := r2.out.fr 0 (by simp)
  have z3 := r2.out.fr 1 (by simp)
  go_wp2_with fail
  (try simp only [Exit.inBlock, Exit.then])
  refine ret_draw Try.results54 w.heap.size _ _ _ rfl rfl ((r2.out.set 0 (by simp) _).set 1 (by simp) _) rfl ?_
  refine ⟨rfl, ?_, ?_⟩
  · refine gb_set (gb_set ?_ _ _ (.inr (Nat.le_refl _))) _ _ (.inr (Nat.le_refl _))
    exact (gb_alloc (World.grownBy.refl _ _) _).trans (k1.out.trans k3.out)
  · exact (k4.out.setOther _ (by simp; omega)).setOther _ (by simp; omega)

/-- what the document's Pairs has made: n draws at the reading m -/
def made (m n : Nat) : List (Nat × Nat) := (List.range n).map fun i => (m, i + 1)
theorem made_len (m n : Nat) : (made m n).length = n := by simp [made]
theorem made_succ (m n : Nat) : made m (n + 1) = made m n ++ [(m, n + 1)] := by simp [made, List.range_succ]
theorem made_get (m n j : Nat) (h : j < n) : (made m n)[j]? = some (m, j + 1) := by simp [made, List.getElem?_map, List.getElem?_range h]
/-- the document's Pairs at block x over the clock d -/
structure Rp (w : World) (x d B : Nat) (M : Option Addr) (c m n : Nat) : Prop where
  ob : Ob w x [.pointer (some ⟨d, 0, none⟩), .slice M n c]
  own : w.ownsRow B 25 2 (.slice M n c) n (DV (made m n))
  xB : x < B
/-- what a world changes: the blocks in S alone -/
structure Chg (S : Nat → Prop) (w w' : World) : Prop where
  os : w'.os = w.os
  tape : w'.tape = w.tape
  output : w'.output = w.output
  size : w.heap.size ≤ w'.heap.size
  block : ∀ k, k < w.heap.size → ¬ S k → w'.heap[k]? = w.heap[k]?
theorem Ob.chg {S : Nat → Prop} {w w' : World} {b : Nat} {cs : List Value} (h : Ob w b cs) (hc : Chg S w w') (hb : ¬ S b) : Ob w' b cs := fun j v hv => by
  have h1 := h j v hv
  have hb : w'.heap[b]? = w.heap[b]? := hc.block b (World.block_lt_of_cell? w _ h1.1) hb
  exact ⟨(World.cell?_of_block (a := ⟨b, j, none⟩) hb).trans h1.1, (World.frozen?_of_block (a := ⟨b, j, none⟩) hb).trans h1.2⟩
/-- the count of the draws at the reading a -/
def cnt (a m n : Nat) : Nat := if m = a then n else 0
theorem Chg.refl (S : Nat → Prop) (w : World) : Chg S w w := ⟨rfl, rfl, rfl, Nat.le_refl _, fun _ _ _ => rfl⟩
theorem Chg.grown {S : Nat → Prop} {w a b : World} {row : Option Nat} (h : Chg S w a) (g : a.grownBy b row) (hr : ∀ j, row = some j → S j ∨ w.heap.size ≤ j) : Chg S w b :=
  ⟨g.os.trans h.os, g.tape.trans h.tape, g.output.trans h.output, Nat.le_trans h.size g.size, fun k hk hS => (g.block k (Nat.lt_of_lt_of_le hk h.size) (fun e => by rcases hr k e.symm with h1 | h1; { exact hS h1 }; { omega })).trans (h.block k hk hS)⟩
theorem Chg.mono {S S' : Nat → Prop} {w w' : World} (h : Chg S w w') (hS : ∀ k, S k → S' k) : Chg S' w w' := ⟨h.os, h.tape, h.output, h.size, fun k hk hn => h.block k hk (fun e => hn (hS k e))⟩
theorem Chg.trans {S : Nat → Prop} {w a w' : World} (h : Chg S w a) (g : Chg (fun k => S k ∨ w.heap.size ≤ k) a w') : Chg S w w' :=
  ⟨g.os.trans h.os, g.tape.trans h.tape, g.output.trans h.output, Nat.le_trans h.size g.size, fun k hk hS => (g.block k (Nat.lt_of_lt_of_le hk h.size) (fun e => by rcases e with e | e; { exact hS e }; { omega })).trans (h.block k hk hS)⟩
theorem own_chg {S : Nat → Prop} {w w' : World} {base size n : Nat} {e : TypeId} {v : Value} {xs : List Value} (h : w.ownsRow base e size v n xs) (hc : Chg S w w') (hb : ∀ j, v.ownBlock = some j → ¬ S j) : w'.ownsRow base e size v n xs := by
  rcases h.2 with hn | ⟨g, cap, cur, rfl, h1, h2, rest⟩
  · exact ⟨h.1, .inl hn⟩
  · exact ⟨h.1, .inr ⟨g, cap, cur, rfl, h1, (hc.block g (Array.getElem?_eq_some_iff.1 h2).1 (hb g rfl)).trans h2, rest⟩⟩
theorem rp_pushed {v V w9 : World} {x d B : Nat} {M1 : Option Addr} {c1 k a : Nat} (ob : Ob v x [.pointer (some ⟨d, 0, none⟩), .slice M1 k c1]) (own : v.ownsRow B 25 2 (.slice M1 k c1) k (DV (made a k))) (xB : x < B)
    (hV : v.grownBy V none) (hVs : v.heap.size ≤ V.heap.size) {D9 : Option Addr} {c9 : Nat} (ho : w9.ownsRow B 25 2 (.slice D9 (k + 1) c9) (k + 1) (DV (made a k) ++ [.int .u64 (a : Nat), .int .u64 ((k : Int) + 1)]))
    (hg : V.grownBy w9 (Value.slice M1 k c1).ownBlock) (hb : (Value.slice D9 (k + 1) c9).ownBlock = (Value.slice M1 k c1).ownBlock ∨ (Value.slice D9 (k + 1) c9).ownBlock = some V.heap.size) :
    w9.cell? ⟨x, 1, none⟩ = some (.slice M1 k c1) ∧ w9.frozen? ⟨x, 1, none⟩ = false ∧ v.grownBy w9 (Value.slice M1 k c1).ownBlock ∧ (∀ j, (Value.slice D9 (k + 1) c9).ownBlock = some j → (Value.slice M1 k c1).ownBlock = some j ∨ v.heap.size ≤ j) ∧
      Rp (w9.setCell ⟨x, 1, none⟩ (.slice D9 (k + 1) c9)) x d B D9 c9 a (k + 1) := by
  have g9 : v.grownBy w9 (Value.slice M1 k c1).ownBlock := (hV.but _).trans hg
  have og := ob.kept g9 (fun e => by have := (own.lt _ e.symm).1; omega)
  refine ⟨og.cell 1 rfl, og.fr 1 (by simp), g9, fun j e => by rcases hb with hb | hb; { left; rw [← hb]; exact e }; { right; rw [hb] at e; cases e; exact hVs }, og.set 1 (by simp) _, ?_, xB⟩
  have e1 : DV (made a (k + 1)) = DV (made a k) ++ [.int .u64 (a : Nat), .int .u64 ((k : Int) + 1)] := by rw [made_succ, DV_append]; rfl
  rw [e1]
  exact ho.kept (grown_setCell w9 ⟨x, 1, none⟩ _) (.inr (fun e => by have := (ho.lt _ e).1; simp only at this; omega))
theorem nw2 (w : World) (x y : Value) (t : TypeId) : ∀ ad, some (⟨w.heap.size, 0, none⟩ : Addr) = some ad → ∀ (j : Nat) (u : Value), [x, y][j]? = some u → (w.alloc (.cells #[x, y] t)).cell? (ad.add j) = some u := by
  intro ad e
  cases e
  exact World.news_of_block (cs := #[x, y]) (t := t) (fr := (0, 0)) (heap_alloc_new w _)
def RefOut (w : World) (x d B : Nat) (M : Option Addr) (c m n a : Nat) (e : Ending) (w' : World) : Prop :=
  ∃ (M' : Option Addr) (c' : Nat), e = .returned (.tuple #[.agg #[.int .u64 ((pDraw a m n).1 : Nat), .int .u64 ((pDraw a m n).2.1 : Nat)], .int .i64 ((pDraw a m n).2.2.1 : Nat)]) ∧ Rp w' x d B M' c' a (pDraw a m n).2.2.2 ∧
    Chg (fun k => k = x ∨ (Value.slice M n c).ownBlock = some k) w w' ∧ (∀ j, (Value.slice M' (pDraw a m n).2.2.2 c').ownBlock = some j → (Value.slice M n c).ownBlock = some j ∨ w.heap.size ≤ j)
set_option maxRecDepth 100000 in
set_option maxHeartbeats 3200000 in
theorem refDraw_any (a d x B : Nat) (M : Option Addr) (c m n : Nat) (w : World) (hr : Rp w x d B M c m n) (hd : Ob w d [.int .u64 (a : Nat)]) (hn : n ≤ 65535) (hB : B ≤ w.heap.size) (hdB : d < B) (hdx : d ≠ x) :
    Calls Try.prog 52 #[.pointer (some ⟨x, 0, none⟩)] w (RefOut w x d B M c m n a) := by
  have HR := Lib.hid hr
  have HD := Lib.hid hd
  have HN := Lib.hid hn
  have HBB := Lib.hid (And.intro hB (And.intro hdB hdx))
  have c1 := hr.ob.cell 1 rfl
  have lx := hr.ob.lt (by simp)
  obtain ⟨kc, hkc⟩ : ∃ k, cnt a m n = k := ⟨_, rfl⟩
  have HKC := Lib.hid hkc
  clear hr hd hn hB hdB hdx hkc
  go_enter Try.func52, Try.ntmps52
  go_upto_block 0 with fail
  go_cut [4, 5] (fun kv iv wx => kv = .int .i64 kc ∧ ∃ q, wx = (w.alloc (.cells #[.int .u64 0, .int .u64 0] 25)).drewN q)
  case first =>
    go_wp2_with fail
    have hw0 : IntKind.i64.wrap ((n : Int) - 1) = (n : Int) - 1 := by have := HN.out; rw [IntKind.wrap_i64]; omega
    go_loopw [4, 5] (fun kv iv wr => ∃ (j p q : Nat), j + p = n ∧ kv = .int .i64 j ∧ iv = .int .i64 ((p : Int) - 1) ∧ Hid ((0 < j → m = a) ∧ wr = (w.alloc (.cells #[.int .u64 0, .int .u64 0] 25)).drewN q)) (fun _ iv _ => (intOf iv + 1).toNat)
    case atStart => exact ⟨0, n, 0, by omega, rfl, by have := HN.out; simp [wrap64]; omega, fun h => by omega, rfl⟩
    case round =>
      obtain ⟨j, p, q, hjp, rfl, rfl, HY⟩ := hrel
      clear hw0
      have HJP : Hid (j + p ≤ n ∧ n ≤ j + p) := ⟨Nat.le_of_eq hjp, Nat.le_of_eq hjp.symm⟩
      have y0 : wr.cell? ⟨x, 0, none⟩ = some (.pointer (some ⟨d, 0, none⟩)) := by rw [HY.out.2]; exact (HR.out.ob.alloc _).cell 0 rfl
      have y1 : wr.cell? ⟨x, 1, none⟩ = some (.slice M n c) := by rw [HY.out.2]; exact (HR.out.ob.alloc _).cell 1 rfl
      have y2 : wr.cell? ⟨d, 0, none⟩ = some (.int .u64 (a : Nat)) := by rw [HY.out.2]; exact (HD.out.alloc _).cell 0 rfl
      clear hjp
      rcases Nat.eq_zero_or_pos p with hp | hp
      · subst hp
        go_wp2
        go_quiet (fail)
        go_wp2_with fail
        go_meet
        refine ⟨?_, q + nq, by rw [HY.out.2, World.drewN_drewN]⟩
        have hj : j = n := by have := HJP.out; omega
        have hk : kc = n := by
          rw [← HKC.out]
          unfold cnt
          by_cases h0 : m = a
          · rw [if_pos h0]
          · rw [if_neg h0]
            rcases Nat.eq_zero_or_pos j with h1 | h1
            · omega
            · exact absurd (HY.out.1 h1) h0
        rw [hk, hj]
      · obtain ⟨p, rfl⟩ : ∃ r, p = r + 1 := ⟨p - 1, by omega⟩
        obtain ⟨g, e1, _, hlt, hc0, _⟩ := own_draw (HR.out.own) (made_len m n) (k := p) (made_get m n p (by have := HJP.out; omega))
        subst e1
        have y3 : wr.cell? ⟨g, p * 2, none⟩ = some (.int .u64 (m : Nat)) := by
          rw [HY.out.2]
          exact ((World.grownBy_alloc w (.cells #[.int .u64 0, .int .u64 0] 25) none).cell hc0 (by simp))
        have hpn : (p : Int) < (n : Int) := by have := HJP.out; omega
        have hp0 : (0 : Int) ≤ (p : Int) := by omega
        clear hlt hc0 hp
        by_cases hma : m = a
        · have HMA : Hid (m ≤ a ∧ a ≤ m) := ⟨Nat.le_of_eq hma, Nat.le_of_eq hma.symm⟩
          rw [hma] at y3
          have e1 : IntKind.i64.wrap ((j : Int) + 1) = (j : Int) + 1 := by have := HN.out; have := HJP.out; rw [IntKind.wrap_i64]; omega
          have e2 : IntKind.i64.wrap ((p : Int) - 1) = (p : Int) - 1 := by have := HN.out; have := HJP.out; rw [IntKind.wrap_i64]; omega
          have E12 := Lib.hid (And.intro e1 e2)
          clear hma e1 e2
          go_wp2
          go_quiet (fail)
          obtain ⟨e1, e2⟩ := E12.out
          go_wp2
          go_roundw
          case rel => exact ⟨j + 1, p, q + nq, by have := HJP.out; omega, by go_num, by go_num, fun _ => by have := HMA.out; omega, by rw [HY.out.2, World.drewN_drewN]⟩
          case measure => (simp [intOf]; try omega)
        · have hne : ((m : Int) == a) = false := beq_eq_false_iff_ne.2 (by omega)
          have HMA := Lib.hid hma
          clear hma
          go_wp2
          go_quiet (fail)
          go_wp2_with fail
          go_meet
          refine ⟨?_, q + nq, by rw [HY.out.2, World.drewN_drewN]⟩
          have hk : kc = 0 := by rw [← HKC.out]; unfold cnt; rw [if_neg HMA.out]
          have hj : j = 0 := by
            rcases Nat.eq_zero_or_pos j with h1 | h1
            · exact h1
            · exact absurd (HY.out.1 h1) HMA.out
          rw [hk, hj]
  case rest =>
    obtain ⟨rfl, q, rfl⟩ := hcut
    have O0 := Lib.hid (Ob.fresh w #[.int .u64 0, .int .u64 0] 25)
    have hg0 : w.grownBy ((w.alloc (.cells #[.int .u64 0, .int .u64 0] 25)).drewN q) none := grown_drewN (World.grownBy_alloc w _ none) q
    have Z0 : Hid (Ob ((w.alloc (.cells #[.int .u64 0, .int .u64 0] 25)).drewN q) w.heap.size [.int .u64 0, .int .u64 0]) := O0.out.drewN q
    have X0 : Hid (Ob ((w.alloc (.cells #[.int .u64 0, .int .u64 0] 25)).drewN q) x [.pointer (some ⟨d, 0, none⟩), .slice M n c]) := HR.out.ob.kept hg0 (by simp)
    have D0 : Hid (Ob ((w.alloc (.cells #[.int .u64 0, .int .u64 0] 25)).drewN q) d [.int .u64 (a : Nat)]) := HD.out.kept hg0 (by simp)
    have W0 : Hid (((w.alloc (.cells #[.int .u64 0, .int .u64 0] 25)).drewN q).ownsRow B 25 2 (.slice M n c) n (DV (made m n))) := HR.out.own.kept hg0 (by cases (Value.slice M n c).ownBlock <;> simp)
    have HG0 := Lib.hid hg0
    generalize (w.alloc (.cells #[.int .u64 0, .int .u64 0] 25)).drewN q = v at Z0 X0 D0 W0 HG0 ⊢
    clear O0 hg0 c1
    have hkn : kc ≤ n := by rw [← HKC.out]; unfold cnt; split <;> omega
    by_cases hfull : kc = 65535
    · have hpd : pDraw a m n = (0, 0, 20, 65535) := by
        unfold pDraw
        have := HKC.out
        unfold cnt at this
        rw [this, if_pos hfull]
      have hma : m = a ∧ n = 65535 := by
        have h1 := HKC.out
        unfold cnt at h1
        have h2 := HN.out
        by_cases h : m = a
        · rw [if_pos h] at h1; exact ⟨h, by omega⟩
        · rw [if_neg h] at h1; omega
      have HPD := Lib.hid (And.intro hpd hma)
      have hk5 : ((kc : Int) == 65535) = true := by rw [hfull]; rfl
      have z0 := Z0.out.cell 0 rfl
      have z1 := Z0.out.cell 1 rfl
      have z2 := Z0.out.fr 0 (by simp)
      have z3 := Z0.out.fr 1 (by simp)
      clear hpd hma hfull hkn
      go_wp2_with fail
      (try simp only [Exit.inBlock, Exit.then])
      refine ret_draw Try.results52 w.heap.size _ _ _ rfl rfl ((Z0.out.set 0 (by simp) _).set 1 (by simp) _) rfl ?_
      have hgF : v.grownBy ((v.setCell ⟨w.heap.size, 0, none⟩ (.int .u64 0)).setCell ⟨w.heap.size, 1, none⟩ (.int .u64 0)) (some w.heap.size) := gb_set (gb_set (World.grownBy.refl _ _) _ _ (.inl rfl)) _ _ (.inl rfl)
      have hML : ∀ j, (Value.slice M n c).ownBlock = some j → j < w.heap.size := fun j e => (HR.out.own.lt j e).2
      have hob := X0.out.kept hgF (by simp; omega)
      have how := W0.out.kept hgF (.inr (fun e => by have := hML _ e; omega))
      obtain ⟨hp, hma, hn5⟩ := HPD.out
      have hc : Chg (fun k => k = x ∨ (Value.slice M n c).ownBlock = some k) w ((v.setCell ⟨w.heap.size, 0, none⟩ (.int .u64 0)).setCell ⟨w.heap.size, 1, none⟩ (.int .u64 0)) :=
        ((Chg.refl _ w).grown HG0.out (fun j e => by cases e)).grown hgF (fun j e => by cases e; exact .inr (Nat.le_refl _))
      refine ⟨M, c, by rw [hp]; exact rfl, ?_, hc, ?_⟩
      · rw [hp, ← hma]
        exact ⟨by rw [← hn5]; exact hob, by rw [← hn5]; exact how, HR.out.xB⟩
      · rw [hp]
        intro j e
        left
        rw [hn5]
        exact e
    · have hpd : pDraw a m n = (a, kc + 1, 0, kc + 1) := by
        have h1 := HKC.out
        unfold cnt at h1
        unfold pDraw
        rw [h1, if_neg hfull]
      have hk65 : kc < 65535 := by have := HN.out; omega
      have HPD := Lib.hid (And.intro hpd hk65)
      have hk5 : ((kc : Int) == 65535) = false := beq_eq_false_iff_ne.2 (by omega)
      have hw1 : IntKind.i64.wrap ((kc : Int) + 1) = (kc : Int) + 1 := by rw [IntKind.wrap_i64]; omega
      have hw2 : IntKind.u64.wrap ((kc : Int) + 1) = (kc : Int) + 1 := by rw [IntKind.wrap_u64]; omega
      have x0 := X0.out.cell 0 rfl
      have x1 := X0.out.cell 1 rfl
      have xf := X0.out.fr 1 (by simp)
      have y0 := D0.out.cell 0 rfl
      have lv := X0.out.lt (by simp)
      have ld := D0.out.lt (by simp)
      clear hpd hk65 hfull
      go_upto_if 52 with fail
      have F1 := Lib.hid (Ob.fresh v #[.int .u64 (a : Nat), .int .u64 ((kc : Int) + 1)] 25)
      have hg1 := World.grownBy_alloc v (.cells #[.int .u64 (a : Nat), .int .u64 ((kc : Int) + 1)] 25) none
      have Z1 := Lib.hid (Z0.out.kept hg1 (by simp))
      have X1 := Lib.hid (X0.out.kept hg1 (by simp))
      have W1 := Lib.hid (W0.out.kept hg1 (by cases (Value.slice M n c).ownBlock <;> simp))
      have HG1 : Hid (w.grownBy (v.alloc (.cells #[.int .u64 (a : Nat), .int .u64 ((kc : Int) + 1)] 25)) none) := HG0.out.trans hg1
      have LZ : Hid (w.heap.size < v.heap.size) := Z0.out.lt (by simp)
      generalize hv1 : v.alloc (.cells #[.int .u64 (a : Nat), .int .u64 ((kc : Int) + 1)] 25) = v1 at F1 Z1 X1 W1 HG1 ⊢
      generalize hf : v.heap.size = f at F1 LZ ⊢
      clear hg1 hv1 hf x0 x1 xf y0 lv ld hk5 Z0 X0 D0 W0 HG0 hw1 hw2
      have x1 := X1.out.cell 1 rfl
      have xf := X1.out.fr 1 (by simp)
      go_cut [] (fun wx => ∃ (M1 : Option Addr) (c1 : Nat), Hid (Ob wx x [.pointer (some ⟨d, 0, none⟩), .slice M1 kc c1] ∧ wx.ownsRow B 25 2 (.slice M1 kc c1) kc (DV (made a kc)) ∧ v1.grownBy wx (some x) ∧ (∀ j, (Value.slice M1 kc c1).ownBlock = some j → (Value.slice M n c).ownBlock = some j)))
      case first =>
        rcases Nat.eq_zero_or_pos kc with h0 | h0
        · subst h0
          go_wp2_with fail
          go_meet
          exact ⟨none, 0, X1.out.set 1 (by simp) _, World.ownsRow_nil _ _ _ _, grown_setCell _ _ _, fun j e => by cases e⟩
        · have hk0 : ((kc : Int) == 0) = false := beq_eq_false_iff_ne.2 (by omega)
          go_wp2_with fail
          go_meet
          have h1 := HKC.out
          unfold cnt at h1
          have hma : m = a ∧ n = kc := by
            by_cases h : m = a
            · rw [if_pos h] at h1; exact ⟨h, h1⟩
            · rw [if_neg h] at h1; omega
          obtain ⟨rfl, rfl⟩ := hma
          exact ⟨M, c, X1.out, W1.out, World.grownBy.refl _ _, fun j e => e⟩
      case rest =>
        obtain ⟨M1, c1, HC⟩ := hcut
        have hML : Hid (∀ j, (Value.slice M1 kc c1).ownBlock = some j → j < w.heap.size) := fun j e => (HR.out.own.lt j (HC.out.2.2.2 j e)).2
        have F2 : Hid (Ob wc f [.int .u64 (a : Nat), .int .u64 ((kc : Int) + 1)]) := F1.out.kept HC.out.2.2.1 (by have := LZ.out; simp; omega)
        have Z2 : Hid (Ob wc w.heap.size [.int .u64 0, .int .u64 0]) := Z1.out.kept HC.out.2.2.1 (by simp; omega)
        have HG2 : Hid (v1.grownBy wc (some x)) := HC.out.2.2.1
        have HO2 := Lib.hid (And.intro HC.out.1 HC.out.2.1)
        have HMM := Lib.hid HC.out.2.2.2
        clear HC F1 Z1 X1 W1 x1 xf
        have y3 := HO2.out.1.cell 1 rfl
        have y4 := F2.out.cell 0 rfl
        have y5 := F2.out.cell 1 rfl
        have l1 := HO2.out.1.lt (by simp)
        have l2 := F2.out.lt (by simp)
        have b1 : Hid (kc + 1 ≤ maxLen) := by have := HPD.out.2; simp only [maxLen, Hid]; omega
        have b2 : Hid ((kc + 1) * 16 ≤ 140737488355328) := by have := HPD.out.2; simp only [Hid]; omega
        have hb5 : Hid (∀ o : Obj, B ≤ (wc.alloc o).heap.size) := fun o => by have := Z2.out.lt (by simp); have := HBB.out.1; rw [World.size_alloc]; omega
        have h1c : Hid (∀ u ∈ [Value.int .u64 (a : Nat), .int .u64 ((kc : Int) + 1)], u.oneCell' = true) := by intro u hu; simp at hu; rcases hu with rfl | rfl <;> rfl
        have h3 : Hid ([Value.int .u64 (a : Nat), .int .u64 ((kc : Int) + 1)].length = 1 * 2) := rfl
        have HN2 : Hid (∀ ad, some (⟨wc.heap.size, 0, none⟩ : Addr) = some ad → ∀ (j : Nat) (u : Value), [Value.int .u64 (a : Nat), .int .u64 ((kc : Int) + 1)][j]? = some u → (wc.alloc (.cells #[.int .u64 (a : Nat), .int .u64 ((kc : Int) + 1)] 25)).cell? (ad.add j) = some u) := nw2 wc _ _ _
        have hD : Hid (∀ j, w.heap.size ≤ j → some j ≠ (Value.slice M1 kc c1).ownBlock) := fun j hj e => by have := hML.out j e.symm; omega
        go_wp2_with fail
        go_region_law (refine step_app rfl (.tmp 60) (.tmp 62) rfl eltDraw B (.slice M1 kc c1) kc (DV (made a kc)) rfl (HO2.out.2.alloc _) (some ⟨wc.heap.size, 0, none⟩) 1 1 [.int .u64 (a : Nat), .int .u64 ((kc : Int) + 1)] rfl h3.out (fun e => nomatch e) HN2.out h1c.out b1.out b2.out (hb5.out _) ?_; intro D9 c9 w9 hown9 hgrow9 hblk9; have Q := rp_pushed HO2.out.1 HO2.out.2 HR.out.xB (grown_alloc_drew wc _ none) (Nat.le_trans (Nat.le_succ _) (Nat.le_of_eq (World.size_alloc wc _).symm)) hown9 hgrow9 hblk9; have q1 := Q.1; have q2 := Q.2.1; have HQ := Lib.hid Q.2.2.2.2; have HQD := Lib.hid Q.2.2.2.1; have HQG := Lib.hid Q.2.2.1; have Z9 := Lib.hid (Z2.out.kept Q.2.2.1 (hD.out _ (Nat.le_refl _))); have F9 := Lib.hid (F2.out.kept Q.2.2.1 (hD.out _ (Nat.le_of_lt LZ.out))); clear hown9 hgrow9 hblk9 Q)
        all_goals
          have hzx : Hid (w.heap.size ≠ x) := fun e => by omega
          have Z10 := Lib.hid (Z9.out.setOther (a := ⟨x, 1, none⟩) (.slice D9 (kc + 1) c9) hzx.out)
          have F10 := Lib.hid (F9.out.setOther (a := ⟨x, 1, none⟩) (.slice D9 (kc + 1) c9) (by have := LZ.out; simp only; omega))
          have HG10 : Hid (w9.grownBy (w9.setCell ⟨x, 1, none⟩ (.slice D9 (kc + 1) c9)) (some x)) := grown_setCell _ _ _
          generalize w9.setCell ⟨x, 1, none⟩ (.slice D9 (kc + 1) c9) = v9 at HQ Z10 F10 HG10 ⊢
          clear Z9 F9 q1 q2 y3 y4 y5 l1 l2 b1 b2 hb5 h1c h3 HN2
          have y4 := F10.out.cell 0 rfl
          have y5 := F10.out.cell 1 rfl
          have z0 := Z10.out.cell 0 rfl
          have z1 := Z10.out.cell 1 rfl
          have z2 := Z10.out.fr 0 (by simp)
          have z3 := Z10.out.fr 1 (by simp)
          have l1 := Z10.out.lt (by simp)
          have l2 := F10.out.lt (by simp)
          have hrf := LZ.out
          go_wp2_with fail
          (try simp only [Exit.inBlock, Exit.then])
          refine ret_draw Try.results52 w.heap.size _ _ _ rfl rfl ((Z10.out.set 0 (by simp) _).set 1 (by simp) _) rfl ?_
          have hgF : v9.grownBy ((v9.setCell ⟨w.heap.size, 0, none⟩ (.int .u64 (a : Nat))).setCell ⟨w.heap.size, 1, none⟩ (.int .u64 ((kc : Int) + 1))) (some w.heap.size) := gb_set (gb_set (World.grownBy.refl _ _) _ _ (.inl rfl)) _ _ (.inl rfl)
          have hD9 : ∀ j, (Value.slice D9 (kc + 1) c9).ownBlock = some j → (Value.slice M n c).ownBlock = some j ∨ wc.heap.size ≤ j := fun j e => by
            rcases HQD.out j e with h | h
            · exact .inl (HMM.out j h)
            · exact .inr h
          have hwz : w.heap.size < wc.heap.size := Z2.out.lt (by simp)
          refine ⟨D9, c9, by rw [HPD.out.1]; exact rfl, ?_, ?_, ?_⟩
          · rw [HPD.out.1]
            refine ⟨HQ.out.ob.kept hgF (by simp; omega), HQ.out.own.kept hgF (.inr (fun e => ?_)), HR.out.xB⟩
            rcases hD9 _ e with h | h
            · have := (HR.out.own.lt _ h).2; omega
            · omega
          · exact (((((Chg.refl _ w).grown HG1.out (fun j e => by cases e)).grown HG2.out (fun j e => by cases e; exact .inl (.inl rfl))).grown HQG.out (fun j e => .inl (.inr (HMM.out j e)))).grown HG10.out (fun j e => by cases e; exact .inl (.inl rfl))).grown hgF (fun j e => by cases e; exact .inr (Nat.le_refl _))
          · rw [HPD.out.1]
            intro j e
            rcases hD9 j e with h | h
            · exact .inl h
            · exact .inr (by omega)
end Go.Proofs.Ytgbjfmokfkdglaa
