/-
  The walks of tally.box.prune of ballots and of tally.PruneBallots.
-/
import Derived.Test.YtjjobgolpedgeaaTPruneP
import Derived.Test.YtjjobgolpedgeaaTPutX
set_option linter.unusedVariables false
set_option linter.unusedSimpArgs false
namespace Go.Proofs.Ytjjobgolpedgeaa
open Go.RowKit

set_option maxHeartbeats 8000000 in
set_option maxRecDepth 100000 in
theorem pruneBallot_box (A : Option Addr) (n c : Nat) (L : List Bt) (B : Option Addr) (m d : Nat) (V : List Dw) (lg : Bt → List Et) (w : World) (h : RdC 6 Bt.cells w A n L) (hlg : ∀ r, r ∈ L → LgOk lg w r) (hv : RdC 2 Dw.cells w B m V) (hsm : (n + 2) * 64 ≤ 140737488355328) (hsv : m ≤ 100000000000000) :
    Calls Try.prog 109 #[.agg #[.slice A n c], .slice B m d] w (RetB 144 lg w (pruneF (Bt.over V) L)) := by
  have H := Lib.hid h
  have HV := Lib.hid hv
  have HL := Lib.hid h.len
  have HVL := Lib.hid hv.len
  have hn : (n : Int) ≤ 6000000000000 := by omega
  have hm : (m : Int) ≤ 100000000000000 := by omega
  have HSM := Lib.hid hsm
  have HLG := Lib.hid hlg
  clear h hv hsm hsv hlg
  go_enter Try.func109, Try.ntmps109
  go_wp2_with fail
  have BW : Hid (Below w.heap.size w (w.alloc (.cells #[.slice A n c] 149))) := (Below.refl _ _).alloc (Nat.le_refl _) _
  generalize w.alloc (.cells #[.slice A n c] 149) = w2 at BW ⊢
  obtain ⟨b, hb⟩ : ∃ b, w.heap.size = b := ⟨_, rfl⟩
  rw [hb]
  clear hb
  go_loopw [5, 12] (fun vv iv wr => ∃ (k : Nat) (A' : Option Addr) (c' : Nat) (R : List Bt), k ≤ n ∧ iv = .int .i64 k ∧ vv = .slice A' (pruneF (Bt.over V) (L.take k)).length c' ∧ Hid (Below w.heap.size w wr) ∧ Hid (wr.ownsRow w.heap.size 144 6 (.slice A' (pruneF (Bt.over V) (L.take k)).length c') (pruneF (Bt.over V) (L.take k)).length (CL Bt.cells R)) ∧ Hid (Cpy w.heap.size lg (RowB (.slice A' (pruneF (Bt.over V) (L.take k)).length c')) wr R (pruneF (Bt.over V) (L.take k)))) (fun _ iv _ => n - (intOf iv).toNat)
  case atStart => exact ⟨0, none, 0, [], by omega, rfl, rfl, BW.out, World.ownsRow_nil _ _ _ _, Cpy.nil _ _ _ _⟩
  case round =>
    obtain ⟨k, A', c', R, hk, rfl, rfl, HR, HO, HCP⟩ := hrel
    by_cases hkn : k < n
    · obtain ⟨x, hx⟩ : ∃ x, L[k]? = some x := ⟨_, List.getElem?_eq_getElem (by have := HL.out; omega)⟩
      obtain ⟨ad, rfl, g0, g1, g2, g3, g4, g5⟩ := (H.out.below HR.out).atBt hx
      have hki : (k : Int) < (n : Int) := by omega
      have HPX : Hid (pruneF (Bt.over V) (L.take (k + 1)) = (pruneF (Bt.over V) (L.take k)) ++ if x.over V then [] else [x]) := by rw [take_next hx]; exact pruneF_push _ _ _
      have HLE : Hid ((pruneF (Bt.over V) (L.take k)).length ≤ k) := by have := pruneF_len (Bt.over V) (L.take k); rw [List.length_take] at this; simp only [Hid]; omega
      obtain ⟨P, hP⟩ : ∃ P, (pruneF (Bt.over V) (L.take k)) = P := ⟨_, rfl⟩
      rw [hP] at HO HCP HPX HLE ⊢
      have HKN := Lib.hid hkn
      have HXX := Lib.hid hx
      clear hx hkn hk hP
      have hmn := mBallot_node
      go_wp2_with fail
      clear hmn
      have OX := Lib.hid (Ob.fresh wr #[.int .i64 x.n, .int .u64 (x.h : Nat), .int .u64 (x.l : Nat), .int .i64 x.v, .int .i64 x.c, .slice x.A x.m x.k] 144)
      have BX : Hid (Below w.heap.size w (wr.alloc (.cells #[.int .i64 x.n, .int .u64 (x.h : Nat), .int .u64 (x.l : Nat), .int .i64 x.v, .int .i64 x.c, .slice x.A x.m x.k] 144))) := HR.out.alloc HR.out.size _
      have OO := Lib.hid (HO.out.alloc (.cells #[.int .i64 x.n, .int .u64 (x.h : Nat), .int .u64 (x.l : Nat), .int .i64 x.v, .int .i64 x.c, .slice x.A x.m x.k] 144))
      have OP := Lib.hid (HCP.out.alloc (.cells #[.int .i64 x.n, .int .u64 (x.h : Nat), .int .u64 (x.l : Nat), .int .i64 x.v, .int .i64 x.c, .slice x.A x.m x.k] 144))
      generalize wr.alloc (.cells #[.int .i64 x.n, .int .u64 (x.h : Nat), .int .u64 (x.l : Nat), .int .i64 x.v, .int .i64 x.c, .slice x.A x.m x.k] 144) = w3 at OX BX OO OP ⊢
      generalize wr.heap.size = r at OX ⊢
      clear g0 g1 g2 g3 g4 g5 HO HR HCP
      refine (nodeBallot_any x _).mono ?_
      rintro e w5 ⟨rfl, hb5⟩
      replace OX := Lib.hid (OX.out.below hb5)
      replace BX := Lib.hid (BX.out.trans (hb5.mono BX.out.size))
      replace OO := Lib.hid (own_kept OO.out hb5)
      replace OP := Lib.hid (OP.out.below hb5)
      clear hb5
      go_upto_region 6 with fail
      go_cut [37] (fun bv wx => bv = .bool (!x.over V) ∧ Hid (Below w5.heap.size w5 wx))
      case first =>
        by_cases h1 : x.n < 0
        case pos =>
          have HOV : Hid (x.over V = false) := overV_neg h1
          obtain ⟨p0, p1, p2, p3, p4, p5⟩ := OX.out.all6
          go_quiet (fail)
          go_wp2_with fail
          go_meet
          exact ⟨by rw [HOV.out]; rfl, Below.drewN (Below.refl _ _) _⟩
        by_cases h2 : x.n < (m : Int)
        case neg =>
          have HOV : Hid (x.over V = false) := overV_far HVL.out h2
          have h3 : (m : Int) ≤ x.n := by omega
          obtain ⟨p0, p1, p2, p3, p4, p5⟩ := OX.out.all6
          go_quiet (fail)
          go_wp2_with fail
          go_meet
          exact ⟨by rw [HOV.out]; rfl, Below.drewN (Below.refl _ _) _⟩
        have h3 : ¬ (m : Int) ≤ x.n := by omega
        have h4 : (0 : Int) ≤ x.n := by omega
        have d1 : decide (x.n < 0) = false := decide_eq_false h1
        have d3 : decide ((m : Int) ≤ x.n) = false := decide_eq_false h3
        obtain ⟨y0, hy⟩ : ∃ y, V[x.n.toNat]? = some y := ⟨_, List.getElem?_eq_getElem (by have := HVL.out; omega)⟩
        have HOV : Hid (x.over V = decide (dCmp x.h x.l y0.h y0.l < 0)) := overV_at h1 hy
        obtain ⟨vd, rfl, v0, v1⟩ := (HV.out.below BX.out).atDw hy
        obtain ⟨p0, p1, p2, p3, p4, p5⟩ := OX.out.all6
        have HX0 := Lib.hid (show ((w5.cell? ⟨r, 0, none⟩ = some (.int .i64 x.n) ∧ w5.cell? ⟨r, 1, none⟩ = some (.int .u64 (x.h : Nat)) ∧ w5.cell? ⟨r, 2, none⟩ = some (.int .u64 (x.l : Nat)) ∧ w5.cell? ⟨r, 3, none⟩ = some (.int .i64 x.v) ∧ w5.cell? ⟨r, 4, none⟩ = some (.int .i64 x.c) ∧ w5.cell? ⟨r, 5, none⟩ = some (.slice x.A x.m x.k)) ∧ (w5.cell? (vd.add (x.n.toNat * 2)) = some (.int .u64 (y0.h : Nat)) ∧ w5.cell? ⟨(vd.add (x.n.toNat * 2)).block, (vd.add (x.n.toNat * 2)).off + 1, none⟩ = some (.int .u64 (y0.l : Nat))) ∧ Below w5.heap.size w5 w5) from ⟨⟨p0, p1, p2, p3, p4, p5⟩, ⟨v0, v1⟩, Below.refl _ _⟩)
        have kp : ∀ y y', ((y.cell? ⟨r, 0, none⟩ = some (.int .i64 x.n) ∧ y.cell? ⟨r, 1, none⟩ = some (.int .u64 (x.h : Nat)) ∧ y.cell? ⟨r, 2, none⟩ = some (.int .u64 (x.l : Nat)) ∧ y.cell? ⟨r, 3, none⟩ = some (.int .i64 x.v) ∧ y.cell? ⟨r, 4, none⟩ = some (.int .i64 x.c) ∧ y.cell? ⟨r, 5, none⟩ = some (.slice x.A x.m x.k)) ∧ (y.cell? (vd.add (x.n.toNat * 2)) = some (.int .u64 (y0.h : Nat)) ∧ y.cell? ⟨(vd.add (x.n.toNat * 2)).block, (vd.add (x.n.toNat * 2)).off + 1, none⟩ = some (.int .u64 (y0.l : Nat))) ∧ Below w5.heap.size w5 y) → Below y.heap.size y y' → ((y'.cell? ⟨r, 0, none⟩ = some (.int .i64 x.n) ∧ y'.cell? ⟨r, 1, none⟩ = some (.int .u64 (x.h : Nat)) ∧ y'.cell? ⟨r, 2, none⟩ = some (.int .u64 (x.l : Nat)) ∧ y'.cell? ⟨r, 3, none⟩ = some (.int .i64 x.v) ∧ y'.cell? ⟨r, 4, none⟩ = some (.int .i64 x.c) ∧ y'.cell? ⟨r, 5, none⟩ = some (.slice x.A x.m x.k)) ∧ (y'.cell? (vd.add (x.n.toNat * 2)) = some (.int .u64 (y0.h : Nat)) ∧ y'.cell? ⟨(vd.add (x.n.toNat * 2)).block, (vd.add (x.n.toNat * 2)).off + 1, none⟩ = some (.int .u64 (y0.l : Nat))) ∧ Below w5.heap.size w5 y') := fun y y' hx hb => ⟨keep6 hb hx.1, ⟨(hb.cell (World.block_lt_of_cell? y _ hx.2.1.1)).trans hx.2.1.1, (hb.cell (World.block_lt_of_cell? y _ hx.2.1.2)).trans hx.2.1.2⟩, hx.2.2.trans (hb.mono hx.2.2.size)⟩
        have Fdraw := Lib.hid (fun y (hx : ((y.cell? ⟨r, 0, none⟩ = some (.int .i64 x.n) ∧ y.cell? ⟨r, 1, none⟩ = some (.int .u64 (x.h : Nat)) ∧ y.cell? ⟨r, 2, none⟩ = some (.int .u64 (x.l : Nat)) ∧ y.cell? ⟨r, 3, none⟩ = some (.int .i64 x.v) ∧ y.cell? ⟨r, 4, none⟩ = some (.int .i64 x.c) ∧ y.cell? ⟨r, 5, none⟩ = some (.slice x.A x.m x.k)) ∧ (y.cell? (vd.add (x.n.toNat * 2)) = some (.int .u64 (y0.h : Nat)) ∧ y.cell? ⟨(vd.add (x.n.toNat * 2)).block, (vd.add (x.n.toNat * 2)).off + 1, none⟩ = some (.int .u64 (y0.l : Nat))) ∧ Below w5.heap.size w5 y)) => (drawBallot_any x y).mono (fun e y' (h : _ ∧ _) => show e = .returned (.agg #[.int .u64 (x.h : Nat), .int .u64 (x.l : Nat)]) ∧ ((y'.cell? ⟨r, 0, none⟩ = some (.int .i64 x.n) ∧ y'.cell? ⟨r, 1, none⟩ = some (.int .u64 (x.h : Nat)) ∧ y'.cell? ⟨r, 2, none⟩ = some (.int .u64 (x.l : Nat)) ∧ y'.cell? ⟨r, 3, none⟩ = some (.int .i64 x.v) ∧ y'.cell? ⟨r, 4, none⟩ = some (.int .i64 x.c) ∧ y'.cell? ⟨r, 5, none⟩ = some (.slice x.A x.m x.k)) ∧ (y'.cell? (vd.add (x.n.toNat * 2)) = some (.int .u64 (y0.h : Nat)) ∧ y'.cell? ⟨(vd.add (x.n.toNat * 2)).block, (vd.add (x.n.toNat * 2)).off + 1, none⟩ = some (.int .u64 (y0.l : Nat))) ∧ Below w5.heap.size w5 y') from And.intro h.1 (kp y y' hx h.2)))
        have hmdraw := mBallot_draw
        have FC := Lib.hid (fun y (hx : ((y.cell? ⟨r, 0, none⟩ = some (.int .i64 x.n) ∧ y.cell? ⟨r, 1, none⟩ = some (.int .u64 (x.h : Nat)) ∧ y.cell? ⟨r, 2, none⟩ = some (.int .u64 (x.l : Nat)) ∧ y.cell? ⟨r, 3, none⟩ = some (.int .i64 x.v) ∧ y.cell? ⟨r, 4, none⟩ = some (.int .i64 x.c) ∧ y.cell? ⟨r, 5, none⟩ = some (.slice x.A x.m x.k)) ∧ (y.cell? (vd.add (x.n.toNat * 2)) = some (.int .u64 (y0.h : Nat)) ∧ y.cell? ⟨(vd.add (x.n.toNat * 2)).block, (vd.add (x.n.toNat * 2)).off + 1, none⟩ = some (.int .u64 (y0.l : Nat))) ∧ Below w5.heap.size w5 y)) => (compare_any x.h x.l y0.h y0.l y).mono (fun e y' (h : _ ∧ _) => show e = .returned (.int .i64 (dCmp x.h x.l y0.h y0.l)) ∧ ((y'.cell? ⟨r, 0, none⟩ = some (.int .i64 x.n) ∧ y'.cell? ⟨r, 1, none⟩ = some (.int .u64 (x.h : Nat)) ∧ y'.cell? ⟨r, 2, none⟩ = some (.int .u64 (x.l : Nat)) ∧ y'.cell? ⟨r, 3, none⟩ = some (.int .i64 x.v) ∧ y'.cell? ⟨r, 4, none⟩ = some (.int .i64 x.c) ∧ y'.cell? ⟨r, 5, none⟩ = some (.slice x.A x.m x.k)) ∧ (y'.cell? (vd.add (x.n.toNat * 2)) = some (.int .u64 (y0.h : Nat)) ∧ y'.cell? ⟨(vd.add (x.n.toNat * 2)).block, (vd.add (x.n.toNat * 2)).off + 1, none⟩ = some (.int .u64 (y0.l : Nat))) ∧ Below w5.heap.size w5 y') from And.intro h.1 (kp y y' hx h.2)))
        clear kp hy
        go_region_held3 (fun y => ((y.cell? ⟨r, 0, none⟩ = some (.int .i64 x.n) ∧ y.cell? ⟨r, 1, none⟩ = some (.int .u64 (x.h : Nat)) ∧ y.cell? ⟨r, 2, none⟩ = some (.int .u64 (x.l : Nat)) ∧ y.cell? ⟨r, 3, none⟩ = some (.int .i64 x.v) ∧ y.cell? ⟨r, 4, none⟩ = some (.int .i64 x.c) ∧ y.cell? ⟨r, 5, none⟩ = some (.slice x.A x.m x.k)) ∧ (y.cell? (vd.add (x.n.toNat * 2)) = some (.int .u64 (y0.h : Nat)) ∧ y.cell? ⟨(vd.add (x.n.toNat * 2)).block, (vd.add (x.n.toNat * 2)).off + 1, none⟩ = some (.int .u64 (y0.l : Nat))) ∧ Below w5.heap.size w5 y)) (first | exact ⟨⟨p0, p1, p2, p3, p4, p5⟩, ⟨v0, v1⟩, Below.drew (Below.refl _ _)⟩ | assumption | go_keep)
          (first
           | (go_at_call 135; refine (FC.out _ (by first | assumption | (simp [*]))).mono ?_; rintro e x' ⟨rfl, hx'⟩)
           | (go_at_call 184; refine (Fdraw.out _ (by first | assumption | (simp [*]))).mono ?_; rintro e x' ⟨rfl, hx'⟩))
        have HBF := Lib.hid hx'.2.2
        clear hx'
        go_wp2_with fail
        go_meet
        refine ⟨?_, HBF.out⟩
        rw [HOV.out]
        by_cases hc : dCmp x.h x.l y0.h y0.l < 0
        · rw [decide_eq_true hc, decide_eq_false (by omega)]; rfl
        · rw [decide_eq_false hc, decide_eq_true (by omega)]; rfl
      case rest =>
        obtain ⟨rfl, HC⟩ := hcut
        replace OX := Lib.hid (OX.out.below HC.out)
        replace BX := Lib.hid (BX.out.trans (HC.out.mono BX.out.size))
        replace OO := Lib.hid (own_kept OO.out HC.out)
        replace OP := Lib.hid (OP.out.below HC.out)
        clear HC
        have hk2 : (k : Int) + 1 ≤ 6000000000001 := by have := HKN.out; omega
        obtain ⟨bb, hbb⟩ : ∃ bb, (!x.over V) = bb := ⟨_, rfl⟩
        rw [hbb]
        have HBB := Lib.hid hbb
        clear hbb
        cases bb with
        | false =>
          replace HBB := Lib.hid (show x.over V = true by simpa using HBB.out)
          rw [HBB.out] at HPX
          have HQ : Hid (pruneF (Bt.over V) (L.take (k + 1)) = P) := by rw [HPX.out]; simp [Hid]
          clear HPX
          go_wp2_with fail
          go_roundw
          case rel => exact ⟨k + 1, A', c', R, HKN.out, by go_num, by rw [HQ.out], BX.out, by rw [HQ.out]; exact OO.out, by rw [HQ.out]; exact OP.out⟩
          case measure => have := HKN.out; simp [intOf]; omega
        | true =>
          replace HBB := Lib.hid (show x.over V = false by simpa using HBB.out)
          rw [HBB.out] at HPX
          have HQ : Hid (pruneF (Bt.over V) (L.take (k + 1)) = P ++ [x]) := HPX.out
          clear HPX
          obtain ⟨p0, p1, p2, p3, p4, p5⟩ := OX.out.all6
          have hmf := mBallot_fresh
          go_wp2_with fail
          clear hmf
          have HL0 := HLG.out _ (List.mem_of_getElem? HXX.out)
          refine (freshBallot_any x (lg x) _ (HL0.1.below BX.out) HL0.2.1 HL0.2.2).mono ?_
          rintro e x2 ⟨fA, fk, rfl, hb2, hof⟩
          clear HL0
          have B5 : Hid (Below w.heap.size w x2) := BX.out.trans (hb2.mono BX.out.size)
          have O5 : Hid (x2.ownsRow w.heap.size 144 6 (.slice A' P.length c') P.length (CL Bt.cells R)) := own_kept OO.out hb2
          have HBB := Lib.hid hb2
          have HOF := Lib.hid hof
          clear hof
          clear hb2 p0 p1 p2 p3 p4 p5
          go_wp2_with (at_builtin; refine wpList_app rfl (.tmp 38) (.tmp 42) rfl eltBallot w.heap.size (.slice A' P.length c') P.length (CL Bt.cells R) rfl (O5.out.alloc _) (some ⟨x2.heap.size, 0, none⟩) 1 1 ({ x with A := fA, k := fk } : Bt).cells rfl rfl (fun h => by cases h) (fresh_news x2 ({ x with A := fA, k := fk } : Bt).cells.toArray 144) (Bt.one ({ x with A := fA, k := fk } : Bt)) ?d3 ?d4 ?d5 ?_)
          case d3 => have := HLE.out; have := HKN.out; have := HSM.out; simp only [maxLen]; omega
          case d4 => have := HLE.out; have := HKN.out; have := HSM.out; omega
          case d5 => have := B5.out.size; simp; omega
          intro A9 c9 w9 ho9 hg9 hbk9
          have B9 : Hid (Below w.heap.size w w9) := below_own B5.out B5.out.size O5.out ((World.grownBy_alloc x2 _ _).trans hg9)
          have C9 := Lib.hid (OP.out.push x OO.out BX.out.size HBB.out HOF.out hg9 (q := _) hbk9 (by simp))
          have HE : Hid (P.length + 1 = (pruneF (Bt.over V) (L.take (k + 1))).length) := by rw [HQ.out, List.length_append]; exact rfl
          have O10 : Hid (w9.ownsRow w.heap.size 144 6 (.slice A9 (pruneF (Bt.over V) (L.take (k + 1))).length c9) (pruneF (Bt.over V) (L.take (k + 1))).length (CL Bt.cells (R ++ [({ x with A := fA, k := fk } : Bt)]))) := by rw [← HE.out, CL_push]; exact ho9
          have C10 : Hid (Cpy w.heap.size lg (RowB (.slice A9 (pruneF (Bt.over V) (L.take (k + 1))).length c9)) w9 (R ++ [({ x with A := fA, k := fk } : Bt)]) (pruneF (Bt.over V) (L.take (k + 1)))) := by rw [← HE.out, HQ.out]; exact C9.out
          clear ho9 hg9 O5 B5 hbk9 HBB HOF
          rw [HE.out]
          go_wp2_with fail
          go_roundw
          case rel => exact ⟨k + 1, A9, c9, _, HKN.out, by go_num, rfl, B9.out, O10.out, C10.out⟩
          case measure => have := HKN.out; simp [intOf]; omega
    · obtain rfl : k = n := by omega
      have hki : ¬ (k : Int) < (k : Int) := by omega
      rw [List.take_of_length_le (Nat.le_of_eq HL.out)] at HO HCP ⊢
      clear hkn hk
      go_wp2_with fail
      go_ret
      exact ⟨A', c', _, rfl, HR.out, HO.out, HCP.out⟩
set_option maxHeartbeats 1600000 in
set_option maxRecDepth 100000 in
theorem pruneBallot_fn (A : Option Addr) (n c : Nat) (L : List Bt) (B : Option Addr) (m d : Nat) (V : List Dw) (lg : Bt → List Et) (w : World) (h : RdC 6 Bt.cells w A n L) (hlg : ∀ r, r ∈ L → LgOk lg w r) (hv : RdC 2 Dw.cells w B m V) (hsm : (n + 2) * 64 ≤ 140737488355328) (hsv : m ≤ 100000000000000) :
    Calls Try.prog 46 #[.slice A n c, .slice B m d] w (RetB 53 lg w (pruneF (Bt.over V) L)) := by
  have H := Lib.hid h
  have HV := Lib.hid hv
  have HL := Lib.hid h.len
  have HSM := Lib.hid hsm
  have HLG := Lib.hid hlg
  have HSV := Lib.hid hsv
  clear h hv hsm hsv hlg
  go_enter Try.func46, Try.ntmps46
  go_wp2_with fail
  refine (turn_toBallot A n c L _ H.out (by have := HSM.out; omega)).mono ?_
  rintro e w2 ⟨A1, c1, rfl, hb2, ho2⟩
  have B2 := Lib.hid hb2
  have R2 := Lib.hid (rdBt ho2 rfl)
  have V2 := Lib.hid (HV.out.below hb2)
  clear hb2 ho2
  go_wp2_with fail
  refine (pruneBallot_box A1 L.length c1 L B m d V lg _ R2.out (fun r hr => ⟨(HLG.out r hr).1.below B2.out, (HLG.out r hr).2⟩) V2.out (by have := HSM.out; have := HL.out; omega) HSV.out).mono ?_
  rintro e w3 ⟨A2, c2, RR, rfl, hb3, ho3, hc3⟩
  have hl2 := hc3.len
  have HCP := Lib.hid hc3
  have B3 : Hid (Below w.heap.size w w3) := B2.out.trans (hb3.mono B2.out.size)
  have R3 := Lib.hid (rdBt ho3 hl2)
  clear hb3 ho3 R2 V2
  go_wp2_with fail
  refine (turn_fromBallot A2 _ c2 RR _ R3.out (by have h0 := pruneF_len (Bt.over V) L; have := HSM.out; have := HL.out; omega)).mono ?_
  rintro e w4 ⟨A3, c3, rfl, hb4, ho4⟩
  have B4 : Hid (Below w.heap.size w w4) := B3.out.trans (hb4.mono B3.out.size)
  have O4 := Lib.hid (own_mono ho4 B3.out.size)
  have HC := Lib.hid (show Cpy w.heap.size lg (RowB (.slice A3 (pruneF (Bt.over V) L).length c3)) w4 RR (pruneF (Bt.over V) L) from ((HCP.out.lower B2.out.size).more.below hb4).mono (fun j e => .inr (ho4.lt j (by rw [hl2]; exact e)).1))
  rw [hl2] at O4 ⊢
  clear hb4 ho4 R3 hc3 hl2 HCP
  go_wp2_with fail
  go_ret
  exact ⟨A3, c3, _, rfl, B4.out, O4.out, HC.out⟩
end Go.Proofs.Ytjjobgolpedgeaa
