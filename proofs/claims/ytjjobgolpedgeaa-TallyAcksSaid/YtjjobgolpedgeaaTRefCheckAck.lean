/-
  The walk of the document's CheckAcks (printed by gen_trefchk.py).
-/
import Derived.Test.YtjjobgolpedgeaaTCheckAck
import Derived.Test.YtjjobgolpedgeaaTTake
set_option linter.unusedVariables false
set_option linter.unusedSimpArgs false
namespace Go.Proofs.Ytjjobgolpedgeaa
open Go.RowKit

set_option maxHeartbeats 8000000 in
set_option maxRecDepth 100000 in
theorem refCheckAcks_any (c : Cg) (self : Int) (A : Option Addr) (n cp : Nat) (L : List Ak) (w : World) (h : RdC 4 Ak.cells w A n L) (hsm : n * 32 ≤ 140737488355328) :
    Calls Try.prog 53 #[c.agg, .int .i64 self, .slice A n cp] w fun e w' => e = .returned (.int .i64 (chkR Ak.n (Ak.may c.r) c self L)) ∧ Below w.heap.size w w' := by
  have H := Lib.hid h
  have HL := Lib.hid h.len
  have hn : (n : Int) ≤ 6000000000000 := by omega
  clear h hsm
  have FCF := Lib.hid (config_any c)
  have FV := Lib.hid (fun ahead node w hf => voter_any c self ahead node w hf)
  obtain ⟨R, hR⟩ : ∃ R, chkR Ak.n (Ak.may c.r) c self L = R := ⟨_, rfl⟩
  have HR := Lib.hid hR
  rw [hR]
  clear hR
  obtain ⟨cf, cr, cpp, cu⟩ := c
  go_enter Try.func53, Try.ntmps53
  go_wp2_with fail
  have OC := Lib.hid (Ob.fresh w #[.int .i64 cf, .int .i64 cr, .int .i64 cpp, .bool cu] 70)
  have BW : Hid (Below w.heap.size w (w.alloc (.cells #[.int .i64 cf, .int .i64 cr, .int .i64 cpp, .bool cu] 70))) := below_al _ _
  generalize w.alloc (.cells #[.int .i64 cf, .int .i64 cr, .int .i64 cpp, .bool cu] 70) = w1 at OC BW ⊢
  generalize w.heap.size = r at OC ⊢
  refine (FCF.out _).mono ?_
  rintro e w2 ⟨rfl, hb2⟩
  have OC2 := Lib.hid (OC.out.below hb2)
  have BW2 := Lib.hid (BW.out.trans (hb2.mono BW.out.size))
  clear hb2 OC BW FCF
  by_cases hbad : Cg.bad ⟨cf, cr, cpp, cu⟩
  · have HE : Hid (R = 1) := by rw [← HR.out]; exact chkR_bad hbad
    rw [if_pos hbad]
    clear hbad
    go_wp2_with fail
    go_ret
    exact ⟨by rw [HE.out]; exact rfl, BW2.out⟩
  rw [if_neg hbad]
  have HG := Lib.hid hbad
  have HF : Hid (1 ≤ cf ∧ cf ≤ 3) := by unfold Cg.bad at hbad; simp only at hbad; simp only [Hid]; omega
  clear hbad
  have H2 := Lib.hid (H.out.below BW2.out)
  go_wp2_with fail
  go_loopw [7, 8] (fun av iv wr => ∃ (k : Nat), k ≤ n ∧ av = .int .i64 (prevN Ak.n L k) ∧ iv = .int .i64 k ∧ Hid (Below w2.heap.size w2 wr) ∧ Hid (∀ i, i < k → okI Ak.n (Ak.may cr) cf self L i = true)) (fun _ iv _ => n - (intOf iv).toNat)
  case atStart => exact ⟨0, by omega, rfl, rfl, Below.refl _ _, fun i hi => by omega⟩
  case round =>
    obtain ⟨k, hk, rfl, rfl, HB, HO⟩ := hrel
    by_cases hkn : k < n
    · obtain ⟨x, hx⟩ : ∃ x, L[k]? = some x := ⟨_, List.getElem?_eq_getElem (by have := HL.out; omega)⟩
      obtain ⟨al, rfl, g0, g1, g2, g3⟩ := (H2.out.below HB.out).atAk hx
      obtain ⟨o0, o1, o2, o3⟩ := (OC2.out.below HB.out).all4
      have HPV : Hid (prevN Ak.n L (k + 1) = x.n) := by unfold prevN; rw [if_neg (by omega), Nat.add_sub_cancel, hx]; exact rfl
      obtain ⟨ahead, hah⟩ : ∃ a, prevN Ak.n L k = a := ⟨_, rfl⟩
      rw [hah]
      have HAH := Lib.hid hah
      have hki : (k : Int) < (n : Int) := by omega
      have HKN := Lib.hid hkn
      have HXX := Lib.hid hx
      clear hx hkn hk hah
      go_upto_region 7 with fail
      have FO := Lib.hid (fun y (hx : ((y.cell? ⟨r, 0, none⟩ = some (.int .i64 cf) ∧ y.cell? ⟨r, 1, none⟩ = some (.int .i64 cr) ∧ y.cell? ⟨r, 2, none⟩ = some (.int .i64 cpp) ∧ y.cell? ⟨r, 3, none⟩ = some (.bool cu)) ∧ (y.cell? (al.add (k * 4)) = some (.int .i64 x.n) ∧ y.cell? ⟨(al.add (k * 4)).block, (al.add (k * 4)).off + 3, none⟩ = some (.int .i64 x.p)) ∧ Below wr.heap.size wr y)) => (FV.out ahead x.n y HF.out).mono (fun e y' (h9 : _ ∧ _) => show e = .returned (.bool (voterF cf self ahead x.n)) ∧ ((y'.cell? ⟨r, 0, none⟩ = some (.int .i64 cf) ∧ y'.cell? ⟨r, 1, none⟩ = some (.int .i64 cr) ∧ y'.cell? ⟨r, 2, none⟩ = some (.int .i64 cpp) ∧ y'.cell? ⟨r, 3, none⟩ = some (.bool cu)) ∧ (y'.cell? (al.add (k * 4)) = some (.int .i64 x.n) ∧ y'.cell? ⟨(al.add (k * 4)).block, (al.add (k * 4)).off + 3, none⟩ = some (.int .i64 x.p)) ∧ Below wr.heap.size wr y') from ⟨h9.1, keep4 h9.2 hx.1, ⟨(h9.2.cell (World.block_lt_of_cell? y _ hx.2.1.1)).trans hx.2.1.1, (h9.2.cell (World.block_lt_of_cell? y _ hx.2.1.2)).trans hx.2.1.2⟩, hx.2.2.trans (h9.2.mono hx.2.2.size)⟩))
      obtain ⟨bb, hbb⟩ : ∃ bb, voterF cf self ahead x.n = bb := ⟨_, rfl⟩
      rw [hbb] at FO
      have HBB := Lib.hid hbb
      clear hbb
      cases bb with
      | false =>
        refine wp_region_held_drew (S := (fun y => ((y.cell? ⟨r, 0, none⟩ = some (.int .i64 cf) ∧ y.cell? ⟨r, 1, none⟩ = some (.int .i64 cr) ∧ y.cell? ⟨r, 2, none⟩ = some (.int .i64 cpp) ∧ y.cell? ⟨r, 3, none⟩ = some (.bool cu)) ∧ (y.cell? (al.add (k * 4)) = some (.int .i64 x.n) ∧ y.cell? ⟨(al.add (k * 4)).block, (al.add (k * 4)).off + 3, none⟩ = some (.int .i64 x.p)) ∧ Below wr.heap.size wr y))) (by kernel_rfl) ⟨⟨o0, o1, o2, o3⟩, ⟨g0, g3⟩, Below.drew (Below.refl _ _)⟩ (fun hHeld => ?_)
        refine takeH0 (v := ?v0) (by kernel_rfl) (by kernel_rfl) (by kernel_rfl) (fun _ _ _ h => h) (by rfl) ?y0 (by assumption) ?r0
        case y0 => (intro w hSw; (try dsimp only at hSw); go_simp; (try with_reducible rfl))
        try simp only [Act.put, List.setIfInBounds_toArray, List.set_cons_zero, List.set_cons_succ]
        refine takeH1 (v := ?v1) (by kernel_rfl) (by kernel_rfl) (by kernel_rfl) (fun _ _ _ h => h) (by rfl) ?y1 (by assumption) ?r1
        case y1 => (intro w hSw; (try dsimp only at hSw); go_simp; (try with_reducible rfl))
        try simp only [Act.put, List.setIfInBounds_toArray, List.set_cons_zero, List.set_cons_succ]
        refine takeH2 (v := ?v2) (by kernel_rfl) (by kernel_rfl) (by kernel_rfl) (fun _ _ _ h => h) (by rfl) ?y2 (by assumption) ?r2
        case y2 => (intro w hSw; (try dsimp only at hSw); go_simp; (try with_reducible rfl))
        try simp only [Act.put, List.setIfInBounds_toArray, List.set_cons_zero, List.set_cons_succ]
        refine takeH3 (v := ?v3) (by kernel_rfl) (by kernel_rfl) (by kernel_rfl) (fun _ _ _ h => h) (by rfl) ?y3 (by assumption) ?r3
        case y3 => (intro w hSw; (try dsimp only at hSw); go_simp; (try with_reducible rfl))
        try simp only [Act.put, List.setIfInBounds_toArray, List.set_cons_zero, List.set_cons_succ]
        refine takeH4 (v := ?v4) (by kernel_rfl) (by kernel_rfl) (by kernel_rfl) (fun _ _ _ h => h) (by rfl) ?y4 (by assumption) ?r4
        case y4 => (intro w hSw; (try dsimp only at hSw); go_simp; (try with_reducible rfl))
        try simp only [Act.put, List.setIfInBounds_toArray, List.set_cons_zero, List.set_cons_succ]
        refine takeH5 (v := ?v5) (by kernel_rfl) (by kernel_rfl) (by kernel_rfl) (fun _ _ _ h => h) (by rfl) ?y5 (by assumption) ?r5
        case y5 => (intro w hSw; (try dsimp only at hSw); go_simp; (try with_reducible rfl))
        try simp only [Act.put, List.setIfInBounds_toArray, List.set_cons_zero, List.set_cons_succ]
        refine takeH6 (v := ?v6) (by kernel_rfl) (by kernel_rfl) (by kernel_rfl) (fun _ _ _ h => h) (by rfl) ?y6 (by assumption) ?r6
        case y6 => (intro w hSw; (try dsimp only at hSw); go_simp; (try with_reducible rfl))
        try simp only [Act.put, List.setIfInBounds_toArray, List.set_cons_zero, List.set_cons_succ]
        refine takeH7 (v := ?v7) (by kernel_rfl) (by kernel_rfl) (by kernel_rfl) (fun _ _ _ h => h) (by rfl) ?y7 (by assumption) ?r7
        case y7 => (intro w hSw; (try dsimp only at hSw); go_simp; (try with_reducible rfl))
        try simp only [Act.put, List.setIfInBounds_toArray, List.set_cons_zero, List.set_cons_succ]
        refine callH8 (by kernel_rfl) (fun K hK => ?_)
        first | (go_at_call 100; refine (FO.out _ hHeld).mono ?_; rintro e x' ⟨rfl, hx'⟩) | (go_simp; go_at_call 100; refine (FO.out _ hHeld).mono ?_; rintro e x' ⟨rfl, hx'⟩)
        refine hK.out _ _ hx' (fun hHeld2 => ?_)
        clear hK K
        try simp only [Act.put, List.setIfInBounds_toArray, List.set_cons_zero, List.set_cons_succ]
        refine takeH9 (v := ?v9) (by kernel_rfl) (by kernel_rfl) (by kernel_rfl) (fun _ _ _ h => h) (by rfl) ?y9 (by assumption) ?r9
        case y9 => (intro w hSw; (try dsimp only at hSw); go_simp; (try with_reducible rfl))
        try simp only [Act.put, List.setIfInBounds_toArray, List.set_cons_zero, List.set_cons_succ]
        refine takeH10 (v := ?v10) (by kernel_rfl) (by kernel_rfl) (by kernel_rfl) (fun _ _ _ h => h) (by rfl) ?y10 (by assumption) ?r10
        case y10 => (intro w hSw; (try dsimp only at hSw); go_simp; (try with_reducible rfl))
        try simp only [Act.put, List.setIfInBounds_toArray, List.set_cons_zero, List.set_cons_succ]
        refine skipH11 (by kernel_rfl) (by kernel_rfl) (by kernel_rfl) (fun _ _ _ h => h) (by rfl) (by assumption) ?_
        try simp only [Act.put, List.setIfInBounds_toArray, List.set_cons_zero, List.set_cons_succ]
        refine skipH12 (by kernel_rfl) (by kernel_rfl) (by kernel_rfl) (fun _ _ _ h => h) (by rfl) (by assumption) ?_
        try simp only [Act.put, List.setIfInBounds_toArray, List.set_cons_zero, List.set_cons_succ]
        refine skipH13 (by kernel_rfl) (by kernel_rfl) (by kernel_rfl) (fun _ _ _ h => h) (by rfl) (by assumption) ?_
        try simp only [Act.put, List.setIfInBounds_toArray, List.set_cons_zero, List.set_cons_succ]
        refine skipH14 (by kernel_rfl) (by kernel_rfl) (by kernel_rfl) (fun _ _ _ h => h) (by rfl) (by assumption) ?_
        try simp only [Act.put, List.setIfInBounds_toArray, List.set_cons_zero, List.set_cons_succ]
        refine skipH15 (by kernel_rfl) (by kernel_rfl) (by kernel_rfl) (fun _ _ _ h => h) (by rfl) (by assumption) ?_
        try simp only [Act.put, List.setIfInBounds_toArray, List.set_cons_zero, List.set_cons_succ]
        refine skipH16 (by kernel_rfl) (by kernel_rfl) (by kernel_rfl) (fun _ _ _ h => h) (by rfl) (by assumption) ?_
        try simp only [Act.put, List.setIfInBounds_toArray, List.set_cons_zero, List.set_cons_succ]
        refine takeH17 (v := ?v17) (by kernel_rfl) (by kernel_rfl) (by kernel_rfl) (fun _ _ _ h => h) (by rfl) ?y17 (by assumption) ?r17
        case y17 => (intro w hSw; (try dsimp only at hSw); go_simp; (try with_reducible rfl))
        try simp only [Act.put, List.setIfInBounds_toArray, List.set_cons_zero, List.set_cons_succ]
        refine takeH18 (v := ?v18) (by kernel_rfl) (by kernel_rfl) (by kernel_rfl) (fun _ _ _ h => h) (by rfl) ?y18 (by assumption) ?r18
        case y18 => (intro w hSw; (try dsimp only at hSw); go_simp; (try with_reducible rfl))
        try simp only [Act.put, List.setIfInBounds_toArray, List.set_cons_zero, List.set_cons_succ]
        refine skipH19 (by kernel_rfl) (by kernel_rfl) (by kernel_rfl) (fun _ _ _ h => h) (by rfl) (by assumption) ?_
        try simp only [Act.put, List.setIfInBounds_toArray, List.set_cons_zero, List.set_cons_succ]
        refine skipH20 (by kernel_rfl) (by kernel_rfl) (by kernel_rfl) (fun _ _ _ h => h) (by rfl) (by assumption) ?_
        try simp only [Act.put, List.setIfInBounds_toArray, List.set_cons_zero, List.set_cons_succ]
        refine skipH21 (by kernel_rfl) (by kernel_rfl) (by kernel_rfl) (fun _ _ _ h => h) (by rfl) (by assumption) ?_
        try simp only [Act.put, List.setIfInBounds_toArray, List.set_cons_zero, List.set_cons_succ]
        refine skipH22 (by kernel_rfl) (by kernel_rfl) (by kernel_rfl) (fun _ _ _ h => h) (by rfl) (by assumption) ?_
        try simp only [Act.put, List.setIfInBounds_toArray, List.set_cons_zero, List.set_cons_succ]
        refine skipH23 (by kernel_rfl) (by kernel_rfl) (by kernel_rfl) (fun _ _ _ h => h) (by rfl) (by assumption) ?_
        try simp only [Act.put, List.setIfInBounds_toArray, List.set_cons_zero, List.set_cons_succ]
        refine skipH24 (by kernel_rfl) (by kernel_rfl) (by kernel_rfl) (fun _ _ _ h => h) (by rfl) (by assumption) ?_
        try simp only [Act.put, List.setIfInBounds_toArray, List.set_cons_zero, List.set_cons_succ]
        refine skipH25 (by kernel_rfl) (by kernel_rfl) (by kernel_rfl) (fun _ _ _ h => h) (by rfl) (by assumption) ?_
        try simp only [Act.put, List.setIfInBounds_toArray, List.set_cons_zero, List.set_cons_succ]
        refine skipH26 (by kernel_rfl) (by kernel_rfl) (by kernel_rfl) (fun _ _ _ h => h) (by rfl) (by assumption) ?_
        try simp only [Act.put, List.setIfInBounds_toArray, List.set_cons_zero, List.set_cons_succ]
        refine takeH27 (v := ?v27) (by kernel_rfl) (by kernel_rfl) (by kernel_rfl) (fun _ _ _ h => h) (by rfl) ?y27 (by assumption) ?r27
        case y27 => (intro w hSw; (try dsimp only at hSw); go_simp; (try with_reducible rfl))
        try simp only [Act.put, List.setIfInBounds_toArray, List.set_cons_zero, List.set_cons_succ]
        refine wpAnyH_done (by kernel_rfl) ?_ _
        have B3 : Hid (Below w2.heap.size w2 x') := HB.out.trans (hx'.2.2.mono HB.out.size)
        clear hx' FO HB g0 g1 g2 g3 o0 o1 o2 o3
        have HE : Hid (R = 80) := by rw [← HR.out]; exact chkR_one (i := k) HG.out (by have := HKN.out; have := HL.out; omega) (by unfold okI; rw [HXX.out, HAH.out]; show (voterF cf self ahead x.n && Ak.may cr x) = false; rw [HBB.out, Bool.false_and])
        go_wp2_with fail
        go_ret
        exact ⟨by rw [HE.out]; exact rfl, BW2.out.trans (B3.out.mono BW2.out.size)⟩
      | true =>
        by_cases hp0 : x.p < 0
        case pos =>
          have d0 := decide_eq_true hp0
          refine wp_region_held_drew (S := (fun y => ((y.cell? ⟨r, 0, none⟩ = some (.int .i64 cf) ∧ y.cell? ⟨r, 1, none⟩ = some (.int .i64 cr) ∧ y.cell? ⟨r, 2, none⟩ = some (.int .i64 cpp) ∧ y.cell? ⟨r, 3, none⟩ = some (.bool cu)) ∧ (y.cell? (al.add (k * 4)) = some (.int .i64 x.n) ∧ y.cell? ⟨(al.add (k * 4)).block, (al.add (k * 4)).off + 3, none⟩ = some (.int .i64 x.p)) ∧ Below wr.heap.size wr y))) (by kernel_rfl) ⟨⟨o0, o1, o2, o3⟩, ⟨g0, g3⟩, Below.drew (Below.refl _ _)⟩ (fun hHeld => ?_)
          refine takeH0 (v := ?vb0) (by kernel_rfl) (by kernel_rfl) (by kernel_rfl) (fun _ _ _ h => h) (by rfl) ?yb0 (by assumption) ?rb0
          case yb0 => (intro w hSw; (try dsimp only at hSw); go_simp; (try with_reducible rfl))
          try simp only [Act.put, List.setIfInBounds_toArray, List.set_cons_zero, List.set_cons_succ, d0]
          refine takeH1 (v := ?vb1) (by kernel_rfl) (by kernel_rfl) (by kernel_rfl) (fun _ _ _ h => h) (by rfl) ?yb1 (by assumption) ?rb1
          case yb1 => (intro w hSw; (try dsimp only at hSw); go_simp; (try with_reducible rfl))
          try simp only [Act.put, List.setIfInBounds_toArray, List.set_cons_zero, List.set_cons_succ, d0]
          refine takeH2 (v := ?vb2) (by kernel_rfl) (by kernel_rfl) (by kernel_rfl) (fun _ _ _ h => h) (by rfl) ?yb2 (by assumption) ?rb2
          case yb2 => (intro w hSw; (try dsimp only at hSw); go_simp; (try with_reducible rfl))
          try simp only [Act.put, List.setIfInBounds_toArray, List.set_cons_zero, List.set_cons_succ, d0]
          refine takeH3 (v := ?vb3) (by kernel_rfl) (by kernel_rfl) (by kernel_rfl) (fun _ _ _ h => h) (by rfl) ?yb3 (by assumption) ?rb3
          case yb3 => (intro w hSw; (try dsimp only at hSw); go_simp; (try with_reducible rfl))
          try simp only [Act.put, List.setIfInBounds_toArray, List.set_cons_zero, List.set_cons_succ, d0]
          refine takeH4 (v := ?vb4) (by kernel_rfl) (by kernel_rfl) (by kernel_rfl) (fun _ _ _ h => h) (by rfl) ?yb4 (by assumption) ?rb4
          case yb4 => (intro w hSw; (try dsimp only at hSw); go_simp; (try with_reducible rfl))
          try simp only [Act.put, List.setIfInBounds_toArray, List.set_cons_zero, List.set_cons_succ, d0]
          refine takeH5 (v := ?vb5) (by kernel_rfl) (by kernel_rfl) (by kernel_rfl) (fun _ _ _ h => h) (by rfl) ?yb5 (by assumption) ?rb5
          case yb5 => (intro w hSw; (try dsimp only at hSw); go_simp; (try with_reducible rfl))
          try simp only [Act.put, List.setIfInBounds_toArray, List.set_cons_zero, List.set_cons_succ, d0]
          refine takeH6 (v := ?vb6) (by kernel_rfl) (by kernel_rfl) (by kernel_rfl) (fun _ _ _ h => h) (by rfl) ?yb6 (by assumption) ?rb6
          case yb6 => (intro w hSw; (try dsimp only at hSw); go_simp; (try with_reducible rfl))
          try simp only [Act.put, List.setIfInBounds_toArray, List.set_cons_zero, List.set_cons_succ, d0]
          refine takeH7 (v := ?vb7) (by kernel_rfl) (by kernel_rfl) (by kernel_rfl) (fun _ _ _ h => h) (by rfl) ?yb7 (by assumption) ?rb7
          case yb7 => (intro w hSw; (try dsimp only at hSw); go_simp; (try with_reducible rfl))
          try simp only [Act.put, List.setIfInBounds_toArray, List.set_cons_zero, List.set_cons_succ, d0]
          refine callH8 (by kernel_rfl) (fun K hK => ?_)
          first | (go_at_call 100; refine (FO.out _ hHeld).mono ?_; rintro e x' ⟨rfl, hx'⟩) | (go_simp; go_at_call 100; refine (FO.out _ hHeld).mono ?_; rintro e x' ⟨rfl, hx'⟩)
          refine hK.out _ _ hx' (fun hHeld2 => ?_)
          clear hK K
          try simp only [Act.put, List.setIfInBounds_toArray, List.set_cons_zero, List.set_cons_succ]
          refine takeH9 (v := ?vb9) (by kernel_rfl) (by kernel_rfl) (by kernel_rfl) (fun _ _ _ h => h) (by rfl) ?yb9 (by assumption) ?rb9
          case yb9 => (intro w hSw; (try dsimp only at hSw); go_simp; (try with_reducible rfl))
          try simp only [Act.put, List.setIfInBounds_toArray, List.set_cons_zero, List.set_cons_succ, d0]
          refine takeH10 (v := ?vb10) (by kernel_rfl) (by kernel_rfl) (by kernel_rfl) (fun _ _ _ h => h) (by rfl) ?yb10 (by assumption) ?rb10
          case yb10 => (intro w hSw; (try dsimp only at hSw); go_simp; (try with_reducible rfl))
          try simp only [Act.put, List.setIfInBounds_toArray, List.set_cons_zero, List.set_cons_succ, d0]
          refine takeH11 (v := ?vb11) (by kernel_rfl) (by kernel_rfl) (by kernel_rfl) (fun _ _ _ h => h) (by rfl) ?yb11 (by assumption) ?rb11
          case yb11 => (intro w hSw; (try dsimp only at hSw); go_simp; (try with_reducible rfl))
          try simp only [Act.put, List.setIfInBounds_toArray, List.set_cons_zero, List.set_cons_succ, d0]
          refine takeH12 (v := ?vb12) (by kernel_rfl) (by kernel_rfl) (by kernel_rfl) (fun _ _ _ h => h) (by rfl) ?yb12 (by assumption) ?rb12
          case yb12 => (intro w hSw; (try dsimp only at hSw); go_simp; (try with_reducible rfl))
          try simp only [Act.put, List.setIfInBounds_toArray, List.set_cons_zero, List.set_cons_succ, d0]
          refine takeH13 (v := ?vb13) (by kernel_rfl) (by kernel_rfl) (by kernel_rfl) (fun _ _ _ h => h) (by rfl) ?yb13 (by assumption) ?rb13
          case yb13 => (intro w hSw; (try dsimp only at hSw); go_simp; (try with_reducible rfl))
          try simp only [Act.put, List.setIfInBounds_toArray, List.set_cons_zero, List.set_cons_succ, d0]
          refine takeH14 (v := ?vb14) (by kernel_rfl) (by kernel_rfl) (by kernel_rfl) (fun _ _ _ h => h) (by rfl) ?yb14 (by assumption) ?rb14
          case yb14 => (intro w hSw; (try dsimp only at hSw); go_simp; (try with_reducible rfl))
          try simp only [Act.put, List.setIfInBounds_toArray, List.set_cons_zero, List.set_cons_succ, d0]
          refine takeH15 (v := ?vb15) (by kernel_rfl) (by kernel_rfl) (by kernel_rfl) (fun _ _ _ h => h) (by rfl) ?yb15 (by assumption) ?rb15
          case yb15 => (intro w hSw; (try dsimp only at hSw); go_simp; (try with_reducible rfl))
          try simp only [Act.put, List.setIfInBounds_toArray, List.set_cons_zero, List.set_cons_succ, d0]
          refine takeH16 (v := ?vb16) (by kernel_rfl) (by kernel_rfl) (by kernel_rfl) (fun _ _ _ h => h) (by rfl) ?yb16 (by assumption) ?rb16
          case yb16 => (intro w hSw; (try dsimp only at hSw); go_simp; (try with_reducible rfl))
          try simp only [Act.put, List.setIfInBounds_toArray, List.set_cons_zero, List.set_cons_succ, d0]
          refine takeH17 (v := ?vb17) (by kernel_rfl) (by kernel_rfl) (by kernel_rfl) (fun _ _ _ h => h) (by rfl) ?yb17 (by assumption) ?rb17
          case yb17 => (intro w hSw; (try dsimp only at hSw); go_simp; (try with_reducible rfl))
          try simp only [Act.put, List.setIfInBounds_toArray, List.set_cons_zero, List.set_cons_succ, d0]
          refine takeH18 (v := ?vb18) (by kernel_rfl) (by kernel_rfl) (by kernel_rfl) (fun _ _ _ h => h) (by rfl) ?yb18 (by assumption) ?rb18
          case yb18 => (intro w hSw; (try dsimp only at hSw); go_simp; (try with_reducible rfl))
          try simp only [Act.put, List.setIfInBounds_toArray, List.set_cons_zero, List.set_cons_succ, d0]
          refine skipH19 (by kernel_rfl) (by kernel_rfl) (by kernel_rfl) (fun _ _ _ h => h) (by rfl) (by assumption) ?_
          try simp only [Act.put, List.setIfInBounds_toArray, List.set_cons_zero, List.set_cons_succ]
          refine skipH20 (by kernel_rfl) (by kernel_rfl) (by kernel_rfl) (fun _ _ _ h => h) (by rfl) (by assumption) ?_
          try simp only [Act.put, List.setIfInBounds_toArray, List.set_cons_zero, List.set_cons_succ]
          refine skipH21 (by kernel_rfl) (by kernel_rfl) (by kernel_rfl) (fun _ _ _ h => h) (by rfl) (by assumption) ?_
          try simp only [Act.put, List.setIfInBounds_toArray, List.set_cons_zero, List.set_cons_succ]
          refine skipH22 (by kernel_rfl) (by kernel_rfl) (by kernel_rfl) (fun _ _ _ h => h) (by rfl) (by assumption) ?_
          try simp only [Act.put, List.setIfInBounds_toArray, List.set_cons_zero, List.set_cons_succ]
          refine skipH23 (by kernel_rfl) (by kernel_rfl) (by kernel_rfl) (fun _ _ _ h => h) (by rfl) (by assumption) ?_
          try simp only [Act.put, List.setIfInBounds_toArray, List.set_cons_zero, List.set_cons_succ]
          refine skipH24 (by kernel_rfl) (by kernel_rfl) (by kernel_rfl) (fun _ _ _ h => h) (by rfl) (by assumption) ?_
          try simp only [Act.put, List.setIfInBounds_toArray, List.set_cons_zero, List.set_cons_succ]
          refine skipH25 (by kernel_rfl) (by kernel_rfl) (by kernel_rfl) (fun _ _ _ h => h) (by rfl) (by assumption) ?_
          try simp only [Act.put, List.setIfInBounds_toArray, List.set_cons_zero, List.set_cons_succ]
          refine skipH26 (by kernel_rfl) (by kernel_rfl) (by kernel_rfl) (fun _ _ _ h => h) (by rfl) (by assumption) ?_
          try simp only [Act.put, List.setIfInBounds_toArray, List.set_cons_zero, List.set_cons_succ]
          refine takeH27 (v := ?vb27) (by kernel_rfl) (by kernel_rfl) (by kernel_rfl) (fun _ _ _ h => h) (by rfl) ?yb27 (by assumption) ?rb27
          case yb27 => (intro w hSw; (try dsimp only at hSw); go_simp; (try with_reducible rfl))
          try simp only [Act.put, List.setIfInBounds_toArray, List.set_cons_zero, List.set_cons_succ, d0]
          refine wpAnyH_done (by kernel_rfl) ?_ _
          have B3 : Hid (Below w2.heap.size w2 x') := HB.out.trans (hx'.2.2.mono HB.out.size)
          clear hx' FO HB g0 g1 g2 g3 o0 o1 o2 o3
          have HE : Hid (R = 80) := by rw [← HR.out]; exact chkR_one (i := k) HG.out (by have := HKN.out; have := HL.out; omega) (by unfold okI; rw [HXX.out, HAH.out]; show (voterF cf self ahead x.n && Ak.may cr x) = false; rw [show Ak.may cr x = false by unfold Ak.may; rw [decide_eq_false (by omega), Bool.false_and], Bool.and_false])
          go_wp2_with fail
          go_ret
          exact ⟨by rw [HE.out]; exact rfl, BW2.out.trans (B3.out.mono BW2.out.size)⟩
        have HP0 := Lib.hid hp0
        by_cases hp1 : cr < x.p
        case pos =>
          have d0 := decide_eq_false hp0
          have d1 := decide_eq_true hp1
          refine wp_region_held_drew (S := (fun y => ((y.cell? ⟨r, 0, none⟩ = some (.int .i64 cf) ∧ y.cell? ⟨r, 1, none⟩ = some (.int .i64 cr) ∧ y.cell? ⟨r, 2, none⟩ = some (.int .i64 cpp) ∧ y.cell? ⟨r, 3, none⟩ = some (.bool cu)) ∧ (y.cell? (al.add (k * 4)) = some (.int .i64 x.n) ∧ y.cell? ⟨(al.add (k * 4)).block, (al.add (k * 4)).off + 3, none⟩ = some (.int .i64 x.p)) ∧ Below wr.heap.size wr y))) (by kernel_rfl) ⟨⟨o0, o1, o2, o3⟩, ⟨g0, g3⟩, Below.drew (Below.refl _ _)⟩ (fun hHeld => ?_)
          refine takeH0 (v := ?vc0) (by kernel_rfl) (by kernel_rfl) (by kernel_rfl) (fun _ _ _ h => h) (by rfl) ?yc0 (by assumption) ?rc0
          case yc0 => (intro w hSw; (try dsimp only at hSw); go_simp; (try with_reducible rfl))
          try simp only [Act.put, List.setIfInBounds_toArray, List.set_cons_zero, List.set_cons_succ, d0, d1]
          refine takeH1 (v := ?vc1) (by kernel_rfl) (by kernel_rfl) (by kernel_rfl) (fun _ _ _ h => h) (by rfl) ?yc1 (by assumption) ?rc1
          case yc1 => (intro w hSw; (try dsimp only at hSw); go_simp; (try with_reducible rfl))
          try simp only [Act.put, List.setIfInBounds_toArray, List.set_cons_zero, List.set_cons_succ, d0, d1]
          refine takeH2 (v := ?vc2) (by kernel_rfl) (by kernel_rfl) (by kernel_rfl) (fun _ _ _ h => h) (by rfl) ?yc2 (by assumption) ?rc2
          case yc2 => (intro w hSw; (try dsimp only at hSw); go_simp; (try with_reducible rfl))
          try simp only [Act.put, List.setIfInBounds_toArray, List.set_cons_zero, List.set_cons_succ, d0, d1]
          refine takeH3 (v := ?vc3) (by kernel_rfl) (by kernel_rfl) (by kernel_rfl) (fun _ _ _ h => h) (by rfl) ?yc3 (by assumption) ?rc3
          case yc3 => (intro w hSw; (try dsimp only at hSw); go_simp; (try with_reducible rfl))
          try simp only [Act.put, List.setIfInBounds_toArray, List.set_cons_zero, List.set_cons_succ, d0, d1]
          refine takeH4 (v := ?vc4) (by kernel_rfl) (by kernel_rfl) (by kernel_rfl) (fun _ _ _ h => h) (by rfl) ?yc4 (by assumption) ?rc4
          case yc4 => (intro w hSw; (try dsimp only at hSw); go_simp; (try with_reducible rfl))
          try simp only [Act.put, List.setIfInBounds_toArray, List.set_cons_zero, List.set_cons_succ, d0, d1]
          refine takeH5 (v := ?vc5) (by kernel_rfl) (by kernel_rfl) (by kernel_rfl) (fun _ _ _ h => h) (by rfl) ?yc5 (by assumption) ?rc5
          case yc5 => (intro w hSw; (try dsimp only at hSw); go_simp; (try with_reducible rfl))
          try simp only [Act.put, List.setIfInBounds_toArray, List.set_cons_zero, List.set_cons_succ, d0, d1]
          refine takeH6 (v := ?vc6) (by kernel_rfl) (by kernel_rfl) (by kernel_rfl) (fun _ _ _ h => h) (by rfl) ?yc6 (by assumption) ?rc6
          case yc6 => (intro w hSw; (try dsimp only at hSw); go_simp; (try with_reducible rfl))
          try simp only [Act.put, List.setIfInBounds_toArray, List.set_cons_zero, List.set_cons_succ, d0, d1]
          refine takeH7 (v := ?vc7) (by kernel_rfl) (by kernel_rfl) (by kernel_rfl) (fun _ _ _ h => h) (by rfl) ?yc7 (by assumption) ?rc7
          case yc7 => (intro w hSw; (try dsimp only at hSw); go_simp; (try with_reducible rfl))
          try simp only [Act.put, List.setIfInBounds_toArray, List.set_cons_zero, List.set_cons_succ, d0, d1]
          refine callH8 (by kernel_rfl) (fun K hK => ?_)
          first | (go_at_call 100; refine (FO.out _ hHeld).mono ?_; rintro e x' ⟨rfl, hx'⟩) | (go_simp; go_at_call 100; refine (FO.out _ hHeld).mono ?_; rintro e x' ⟨rfl, hx'⟩)
          refine hK.out _ _ hx' (fun hHeld2 => ?_)
          clear hK K
          try simp only [Act.put, List.setIfInBounds_toArray, List.set_cons_zero, List.set_cons_succ]
          refine takeH9 (v := ?vc9) (by kernel_rfl) (by kernel_rfl) (by kernel_rfl) (fun _ _ _ h => h) (by rfl) ?yc9 (by assumption) ?rc9
          case yc9 => (intro w hSw; (try dsimp only at hSw); go_simp; (try with_reducible rfl))
          try simp only [Act.put, List.setIfInBounds_toArray, List.set_cons_zero, List.set_cons_succ, d0, d1]
          refine takeH10 (v := ?vc10) (by kernel_rfl) (by kernel_rfl) (by kernel_rfl) (fun _ _ _ h => h) (by rfl) ?yc10 (by assumption) ?rc10
          case yc10 => (intro w hSw; (try dsimp only at hSw); go_simp; (try with_reducible rfl))
          try simp only [Act.put, List.setIfInBounds_toArray, List.set_cons_zero, List.set_cons_succ, d0, d1]
          refine takeH11 (v := ?vc11) (by kernel_rfl) (by kernel_rfl) (by kernel_rfl) (fun _ _ _ h => h) (by rfl) ?yc11 (by assumption) ?rc11
          case yc11 => (intro w hSw; (try dsimp only at hSw); go_simp; (try with_reducible rfl))
          try simp only [Act.put, List.setIfInBounds_toArray, List.set_cons_zero, List.set_cons_succ, d0, d1]
          refine takeH12 (v := ?vc12) (by kernel_rfl) (by kernel_rfl) (by kernel_rfl) (fun _ _ _ h => h) (by rfl) ?yc12 (by assumption) ?rc12
          case yc12 => (intro w hSw; (try dsimp only at hSw); go_simp; (try with_reducible rfl))
          try simp only [Act.put, List.setIfInBounds_toArray, List.set_cons_zero, List.set_cons_succ, d0, d1]
          refine takeH13 (v := ?vc13) (by kernel_rfl) (by kernel_rfl) (by kernel_rfl) (fun _ _ _ h => h) (by rfl) ?yc13 (by assumption) ?rc13
          case yc13 => (intro w hSw; (try dsimp only at hSw); go_simp; (try with_reducible rfl))
          try simp only [Act.put, List.setIfInBounds_toArray, List.set_cons_zero, List.set_cons_succ, d0, d1]
          refine takeH14 (v := ?vc14) (by kernel_rfl) (by kernel_rfl) (by kernel_rfl) (fun _ _ _ h => h) (by rfl) ?yc14 (by assumption) ?rc14
          case yc14 => (intro w hSw; (try dsimp only at hSw); go_simp; (try with_reducible rfl))
          try simp only [Act.put, List.setIfInBounds_toArray, List.set_cons_zero, List.set_cons_succ, d0, d1]
          refine takeH15 (v := ?vc15) (by kernel_rfl) (by kernel_rfl) (by kernel_rfl) (fun _ _ _ h => h) (by rfl) ?yc15 (by assumption) ?rc15
          case yc15 => (intro w hSw; (try dsimp only at hSw); go_simp; (try with_reducible rfl))
          try simp only [Act.put, List.setIfInBounds_toArray, List.set_cons_zero, List.set_cons_succ, d0, d1]
          refine takeH16 (v := ?vc16) (by kernel_rfl) (by kernel_rfl) (by kernel_rfl) (fun _ _ _ h => h) (by rfl) ?yc16 (by assumption) ?rc16
          case yc16 => (intro w hSw; (try dsimp only at hSw); go_simp; (try with_reducible rfl))
          try simp only [Act.put, List.setIfInBounds_toArray, List.set_cons_zero, List.set_cons_succ, d0, d1]
          refine takeH17 (v := ?vc17) (by kernel_rfl) (by kernel_rfl) (by kernel_rfl) (fun _ _ _ h => h) (by rfl) ?yc17 (by assumption) ?rc17
          case yc17 => (intro w hSw; (try dsimp only at hSw); go_simp; (try with_reducible rfl))
          try simp only [Act.put, List.setIfInBounds_toArray, List.set_cons_zero, List.set_cons_succ, d0, d1]
          refine takeH18 (v := ?vc18) (by kernel_rfl) (by kernel_rfl) (by kernel_rfl) (fun _ _ _ h => h) (by rfl) ?yc18 (by assumption) ?rc18
          case yc18 => (intro w hSw; (try dsimp only at hSw); go_simp; (try with_reducible rfl))
          try simp only [Act.put, List.setIfInBounds_toArray, List.set_cons_zero, List.set_cons_succ, d0, d1]
          refine takeH19 (v := ?vc19) (by kernel_rfl) (by kernel_rfl) (by kernel_rfl) (fun _ _ _ h => h) (by rfl) ?yc19 (by assumption) ?rc19
          case yc19 => (intro w hSw; (try dsimp only at hSw); go_simp; (try with_reducible rfl))
          try simp only [Act.put, List.setIfInBounds_toArray, List.set_cons_zero, List.set_cons_succ, d0, d1]
          refine takeH20 (v := ?vc20) (by kernel_rfl) (by kernel_rfl) (by kernel_rfl) (fun _ _ _ h => h) (by rfl) ?yc20 (by assumption) ?rc20
          case yc20 => (intro w hSw; (try dsimp only at hSw); go_simp; (try with_reducible rfl))
          try simp only [Act.put, List.setIfInBounds_toArray, List.set_cons_zero, List.set_cons_succ, d0, d1]
          refine takeH21 (v := ?vc21) (by kernel_rfl) (by kernel_rfl) (by kernel_rfl) (fun _ _ _ h => h) (by rfl) ?yc21 (by assumption) ?rc21
          case yc21 => (intro w hSw; (try dsimp only at hSw); go_simp; (try with_reducible rfl))
          try simp only [Act.put, List.setIfInBounds_toArray, List.set_cons_zero, List.set_cons_succ, d0, d1]
          refine takeH22 (v := ?vc22) (by kernel_rfl) (by kernel_rfl) (by kernel_rfl) (fun _ _ _ h => h) (by rfl) ?yc22 (by assumption) ?rc22
          case yc22 => (intro w hSw; (try dsimp only at hSw); go_simp; (try with_reducible rfl))
          try simp only [Act.put, List.setIfInBounds_toArray, List.set_cons_zero, List.set_cons_succ, d0, d1]
          refine takeH23 (v := ?vc23) (by kernel_rfl) (by kernel_rfl) (by kernel_rfl) (fun _ _ _ h => h) (by rfl) ?yc23 (by assumption) ?rc23
          case yc23 => (intro w hSw; (try dsimp only at hSw); go_simp; (try with_reducible rfl))
          try simp only [Act.put, List.setIfInBounds_toArray, List.set_cons_zero, List.set_cons_succ, d0, d1]
          refine takeH24 (v := ?vc24) (by kernel_rfl) (by kernel_rfl) (by kernel_rfl) (fun _ _ _ h => h) (by rfl) ?yc24 (by assumption) ?rc24
          case yc24 => (intro w hSw; (try dsimp only at hSw); go_simp; (try with_reducible rfl))
          try simp only [Act.put, List.setIfInBounds_toArray, List.set_cons_zero, List.set_cons_succ, d0, d1]
          refine takeH25 (v := ?vc25) (by kernel_rfl) (by kernel_rfl) (by kernel_rfl) (fun _ _ _ h => h) (by rfl) ?yc25 (by assumption) ?rc25
          case yc25 => (intro w hSw; (try dsimp only at hSw); go_simp; (try with_reducible rfl))
          try simp only [Act.put, List.setIfInBounds_toArray, List.set_cons_zero, List.set_cons_succ, d0, d1]
          refine takeH26 (v := ?vc26) (by kernel_rfl) (by kernel_rfl) (by kernel_rfl) (fun _ _ _ h => h) (by rfl) ?yc26 (by assumption) ?rc26
          case yc26 => (intro w hSw; (try dsimp only at hSw); go_simp; (try with_reducible rfl))
          try simp only [Act.put, List.setIfInBounds_toArray, List.set_cons_zero, List.set_cons_succ, d0, d1]
          refine takeH27 (v := ?vc27) (by kernel_rfl) (by kernel_rfl) (by kernel_rfl) (fun _ _ _ h => h) (by rfl) ?yc27 (by assumption) ?rc27
          case yc27 => (intro w hSw; (try dsimp only at hSw); go_simp; (try with_reducible rfl))
          try simp only [Act.put, List.setIfInBounds_toArray, List.set_cons_zero, List.set_cons_succ, d0, d1]
          refine wpAnyH_done (by kernel_rfl) ?_ _
          have B3 : Hid (Below w2.heap.size w2 x') := HB.out.trans (hx'.2.2.mono HB.out.size)
          clear hx' FO HB g0 g1 g2 g3 o0 o1 o2 o3
          have HE : Hid (R = 80) := by rw [← HR.out]; exact chkR_one (i := k) HG.out (by have := HKN.out; have := HL.out; omega) (by unfold okI; rw [HXX.out, HAH.out]; show (voterF cf self ahead x.n && Ak.may cr x) = false; rw [show Ak.may cr x = false by unfold Ak.may; rw [decide_eq_false (show ¬ x.p ≤ cr by omega), Bool.and_false], Bool.and_false])
          go_wp2_with fail
          go_ret
          exact ⟨by rw [HE.out]; exact rfl, BW2.out.trans (B3.out.mono BW2.out.size)⟩
        case neg =>
          have HP1 := Lib.hid hp1
          have d0 := decide_eq_false hp0
          have d1 := decide_eq_false hp1
          refine wp_region_held_drew (S := (fun y => ((y.cell? ⟨r, 0, none⟩ = some (.int .i64 cf) ∧ y.cell? ⟨r, 1, none⟩ = some (.int .i64 cr) ∧ y.cell? ⟨r, 2, none⟩ = some (.int .i64 cpp) ∧ y.cell? ⟨r, 3, none⟩ = some (.bool cu)) ∧ (y.cell? (al.add (k * 4)) = some (.int .i64 x.n) ∧ y.cell? ⟨(al.add (k * 4)).block, (al.add (k * 4)).off + 3, none⟩ = some (.int .i64 x.p)) ∧ Below wr.heap.size wr y))) (by kernel_rfl) ⟨⟨o0, o1, o2, o3⟩, ⟨g0, g3⟩, Below.drew (Below.refl _ _)⟩ (fun hHeld => ?_)
          refine takeH0 (v := ?vd0) (by kernel_rfl) (by kernel_rfl) (by kernel_rfl) (fun _ _ _ h => h) (by rfl) ?yd0 (by assumption) ?rd0
          case yd0 => (intro w hSw; (try dsimp only at hSw); go_simp; (try with_reducible rfl))
          try simp only [Act.put, List.setIfInBounds_toArray, List.set_cons_zero, List.set_cons_succ, d0, d1]
          refine takeH1 (v := ?vd1) (by kernel_rfl) (by kernel_rfl) (by kernel_rfl) (fun _ _ _ h => h) (by rfl) ?yd1 (by assumption) ?rd1
          case yd1 => (intro w hSw; (try dsimp only at hSw); go_simp; (try with_reducible rfl))
          try simp only [Act.put, List.setIfInBounds_toArray, List.set_cons_zero, List.set_cons_succ, d0, d1]
          refine takeH2 (v := ?vd2) (by kernel_rfl) (by kernel_rfl) (by kernel_rfl) (fun _ _ _ h => h) (by rfl) ?yd2 (by assumption) ?rd2
          case yd2 => (intro w hSw; (try dsimp only at hSw); go_simp; (try with_reducible rfl))
          try simp only [Act.put, List.setIfInBounds_toArray, List.set_cons_zero, List.set_cons_succ, d0, d1]
          refine takeH3 (v := ?vd3) (by kernel_rfl) (by kernel_rfl) (by kernel_rfl) (fun _ _ _ h => h) (by rfl) ?yd3 (by assumption) ?rd3
          case yd3 => (intro w hSw; (try dsimp only at hSw); go_simp; (try with_reducible rfl))
          try simp only [Act.put, List.setIfInBounds_toArray, List.set_cons_zero, List.set_cons_succ, d0, d1]
          refine takeH4 (v := ?vd4) (by kernel_rfl) (by kernel_rfl) (by kernel_rfl) (fun _ _ _ h => h) (by rfl) ?yd4 (by assumption) ?rd4
          case yd4 => (intro w hSw; (try dsimp only at hSw); go_simp; (try with_reducible rfl))
          try simp only [Act.put, List.setIfInBounds_toArray, List.set_cons_zero, List.set_cons_succ, d0, d1]
          refine takeH5 (v := ?vd5) (by kernel_rfl) (by kernel_rfl) (by kernel_rfl) (fun _ _ _ h => h) (by rfl) ?yd5 (by assumption) ?rd5
          case yd5 => (intro w hSw; (try dsimp only at hSw); go_simp; (try with_reducible rfl))
          try simp only [Act.put, List.setIfInBounds_toArray, List.set_cons_zero, List.set_cons_succ, d0, d1]
          refine takeH6 (v := ?vd6) (by kernel_rfl) (by kernel_rfl) (by kernel_rfl) (fun _ _ _ h => h) (by rfl) ?yd6 (by assumption) ?rd6
          case yd6 => (intro w hSw; (try dsimp only at hSw); go_simp; (try with_reducible rfl))
          try simp only [Act.put, List.setIfInBounds_toArray, List.set_cons_zero, List.set_cons_succ, d0, d1]
          refine takeH7 (v := ?vd7) (by kernel_rfl) (by kernel_rfl) (by kernel_rfl) (fun _ _ _ h => h) (by rfl) ?yd7 (by assumption) ?rd7
          case yd7 => (intro w hSw; (try dsimp only at hSw); go_simp; (try with_reducible rfl))
          try simp only [Act.put, List.setIfInBounds_toArray, List.set_cons_zero, List.set_cons_succ, d0, d1]
          refine callH8 (by kernel_rfl) (fun K hK => ?_)
          first | (go_at_call 100; refine (FO.out _ hHeld).mono ?_; rintro e x' ⟨rfl, hx'⟩) | (go_simp; go_at_call 100; refine (FO.out _ hHeld).mono ?_; rintro e x' ⟨rfl, hx'⟩)
          refine hK.out _ _ hx' (fun hHeld2 => ?_)
          clear hK K
          try simp only [Act.put, List.setIfInBounds_toArray, List.set_cons_zero, List.set_cons_succ]
          refine takeH9 (v := ?vd9) (by kernel_rfl) (by kernel_rfl) (by kernel_rfl) (fun _ _ _ h => h) (by rfl) ?yd9 (by assumption) ?rd9
          case yd9 => (intro w hSw; (try dsimp only at hSw); go_simp; (try with_reducible rfl))
          try simp only [Act.put, List.setIfInBounds_toArray, List.set_cons_zero, List.set_cons_succ, d0, d1]
          refine takeH10 (v := ?vd10) (by kernel_rfl) (by kernel_rfl) (by kernel_rfl) (fun _ _ _ h => h) (by rfl) ?yd10 (by assumption) ?rd10
          case yd10 => (intro w hSw; (try dsimp only at hSw); go_simp; (try with_reducible rfl))
          try simp only [Act.put, List.setIfInBounds_toArray, List.set_cons_zero, List.set_cons_succ, d0, d1]
          refine takeH11 (v := ?vd11) (by kernel_rfl) (by kernel_rfl) (by kernel_rfl) (fun _ _ _ h => h) (by rfl) ?yd11 (by assumption) ?rd11
          case yd11 => (intro w hSw; (try dsimp only at hSw); go_simp; (try with_reducible rfl))
          try simp only [Act.put, List.setIfInBounds_toArray, List.set_cons_zero, List.set_cons_succ, d0, d1]
          refine takeH12 (v := ?vd12) (by kernel_rfl) (by kernel_rfl) (by kernel_rfl) (fun _ _ _ h => h) (by rfl) ?yd12 (by assumption) ?rd12
          case yd12 => (intro w hSw; (try dsimp only at hSw); go_simp; (try with_reducible rfl))
          try simp only [Act.put, List.setIfInBounds_toArray, List.set_cons_zero, List.set_cons_succ, d0, d1]
          refine takeH13 (v := ?vd13) (by kernel_rfl) (by kernel_rfl) (by kernel_rfl) (fun _ _ _ h => h) (by rfl) ?yd13 (by assumption) ?rd13
          case yd13 => (intro w hSw; (try dsimp only at hSw); go_simp; (try with_reducible rfl))
          try simp only [Act.put, List.setIfInBounds_toArray, List.set_cons_zero, List.set_cons_succ, d0, d1]
          refine takeH14 (v := ?vd14) (by kernel_rfl) (by kernel_rfl) (by kernel_rfl) (fun _ _ _ h => h) (by rfl) ?yd14 (by assumption) ?rd14
          case yd14 => (intro w hSw; (try dsimp only at hSw); go_simp; (try with_reducible rfl))
          try simp only [Act.put, List.setIfInBounds_toArray, List.set_cons_zero, List.set_cons_succ, d0, d1]
          refine takeH15 (v := ?vd15) (by kernel_rfl) (by kernel_rfl) (by kernel_rfl) (fun _ _ _ h => h) (by rfl) ?yd15 (by assumption) ?rd15
          case yd15 => (intro w hSw; (try dsimp only at hSw); go_simp; (try with_reducible rfl))
          try simp only [Act.put, List.setIfInBounds_toArray, List.set_cons_zero, List.set_cons_succ, d0, d1]
          refine takeH16 (v := ?vd16) (by kernel_rfl) (by kernel_rfl) (by kernel_rfl) (fun _ _ _ h => h) (by rfl) ?yd16 (by assumption) ?rd16
          case yd16 => (intro w hSw; (try dsimp only at hSw); go_simp; (try with_reducible rfl))
          try simp only [Act.put, List.setIfInBounds_toArray, List.set_cons_zero, List.set_cons_succ, d0, d1]
          refine takeH17 (v := ?vd17) (by kernel_rfl) (by kernel_rfl) (by kernel_rfl) (fun _ _ _ h => h) (by rfl) ?yd17 (by assumption) ?rd17
          case yd17 => (intro w hSw; (try dsimp only at hSw); go_simp; (try with_reducible rfl))
          try simp only [Act.put, List.setIfInBounds_toArray, List.set_cons_zero, List.set_cons_succ, d0, d1]
          refine takeH18 (v := ?vd18) (by kernel_rfl) (by kernel_rfl) (by kernel_rfl) (fun _ _ _ h => h) (by rfl) ?yd18 (by assumption) ?rd18
          case yd18 => (intro w hSw; (try dsimp only at hSw); go_simp; (try with_reducible rfl))
          try simp only [Act.put, List.setIfInBounds_toArray, List.set_cons_zero, List.set_cons_succ, d0, d1]
          refine takeH19 (v := ?vd19) (by kernel_rfl) (by kernel_rfl) (by kernel_rfl) (fun _ _ _ h => h) (by rfl) ?yd19 (by assumption) ?rd19
          case yd19 => (intro w hSw; (try dsimp only at hSw); go_simp; (try with_reducible rfl))
          try simp only [Act.put, List.setIfInBounds_toArray, List.set_cons_zero, List.set_cons_succ, d0, d1]
          refine takeH20 (v := ?vd20) (by kernel_rfl) (by kernel_rfl) (by kernel_rfl) (fun _ _ _ h => h) (by rfl) ?yd20 (by assumption) ?rd20
          case yd20 => (intro w hSw; (try dsimp only at hSw); go_simp; (try with_reducible rfl))
          try simp only [Act.put, List.setIfInBounds_toArray, List.set_cons_zero, List.set_cons_succ, d0, d1]
          refine takeH21 (v := ?vd21) (by kernel_rfl) (by kernel_rfl) (by kernel_rfl) (fun _ _ _ h => h) (by rfl) ?yd21 (by assumption) ?rd21
          case yd21 => (intro w hSw; (try dsimp only at hSw); go_simp; (try with_reducible rfl))
          try simp only [Act.put, List.setIfInBounds_toArray, List.set_cons_zero, List.set_cons_succ, d0, d1]
          refine takeH22 (v := ?vd22) (by kernel_rfl) (by kernel_rfl) (by kernel_rfl) (fun _ _ _ h => h) (by rfl) ?yd22 (by assumption) ?rd22
          case yd22 => (intro w hSw; (try dsimp only at hSw); go_simp; (try with_reducible rfl))
          try simp only [Act.put, List.setIfInBounds_toArray, List.set_cons_zero, List.set_cons_succ, d0, d1]
          refine takeH23 (v := ?vd23) (by kernel_rfl) (by kernel_rfl) (by kernel_rfl) (fun _ _ _ h => h) (by rfl) ?yd23 (by assumption) ?rd23
          case yd23 => (intro w hSw; (try dsimp only at hSw); go_simp; (try with_reducible rfl))
          try simp only [Act.put, List.setIfInBounds_toArray, List.set_cons_zero, List.set_cons_succ, d0, d1]
          refine takeH24 (v := ?vd24) (by kernel_rfl) (by kernel_rfl) (by kernel_rfl) (fun _ _ _ h => h) (by rfl) ?yd24 (by assumption) ?rd24
          case yd24 => (intro w hSw; (try dsimp only at hSw); go_simp; (try with_reducible rfl))
          try simp only [Act.put, List.setIfInBounds_toArray, List.set_cons_zero, List.set_cons_succ, d0, d1]
          refine takeH25 (v := ?vd25) (by kernel_rfl) (by kernel_rfl) (by kernel_rfl) (fun _ _ _ h => h) (by rfl) ?yd25 (by assumption) ?rd25
          case yd25 => (intro w hSw; (try dsimp only at hSw); go_simp; (try with_reducible rfl))
          try simp only [Act.put, List.setIfInBounds_toArray, List.set_cons_zero, List.set_cons_succ, d0, d1]
          refine takeH26 (v := ?vd26) (by kernel_rfl) (by kernel_rfl) (by kernel_rfl) (fun _ _ _ h => h) (by rfl) ?yd26 (by assumption) ?rd26
          case yd26 => (intro w hSw; (try dsimp only at hSw); go_simp; (try with_reducible rfl))
          try simp only [Act.put, List.setIfInBounds_toArray, List.set_cons_zero, List.set_cons_succ, d0, d1]
          refine takeH27 (v := ?vd27) (by kernel_rfl) (by kernel_rfl) (by kernel_rfl) (fun _ _ _ h => h) (by rfl) ?yd27 (by assumption) ?rd27
          case yd27 => (intro w hSw; (try dsimp only at hSw); go_simp; (try with_reducible rfl))
          try simp only [Act.put, List.setIfInBounds_toArray, List.set_cons_zero, List.set_cons_succ, d0, d1]
          refine wpAnyH_done (by kernel_rfl) ?_ _
          have B3 : Hid (Below w2.heap.size w2 x') := HB.out.trans (hx'.2.2.mono HB.out.size)
          clear hx' FO HB g0 g1 g2 g3 o0 o1 o2 o3
          have HE : Hid (okI Ak.n (Ak.may cr) cf self L k = true) := by
            unfold okI
            rw [HXX.out, HAH.out]
            show (voterF cf self ahead x.n && Ak.may cr x) = true
            rw [HBB.out, Bool.true_and]
            unfold Ak.may
            rw [decide_eq_true (show 0 ≤ x.p by have := HP0.out; omega), decide_eq_true (show x.p ≤ cr by have := HP1.out; omega)]
            rfl
          have hk2 : (k : Int) + 1 ≤ 6000000000001 := by have := HKN.out; omega
          clear hp0 hp1
          obtain ⟨al', e, g0, g1, g2, g3⟩ := (H2.out.below B3.out).atAk HXX.out
          cases e
          go_wp2_with fail
          go_roundw
          case rel => exact ⟨k + 1, HKN.out, by rw [HPV.out], by go_num, B3.out, fun i hi => by
            by_cases e : i = k
            · rw [e]; exact HE.out
            · exact HO.out i (by omega)⟩
          case measure => have := HKN.out; simp [intOf]; omega
    · obtain rfl : n = k := by omega
      have hki : ¬ (n : Int) < (n : Int) := by omega
      have HE : Hid (R = 0) := by rw [← HR.out]; exact chkR_all HG.out fun i hi => HO.out i (by have := HL.out; omega)
      clear hkn hk
      go_wp2_with fail
      go_ret
      exact ⟨by rw [HE.out]; exact rfl, BW2.out.trans (HB.out.mono BW2.out.size)⟩
end Go.Proofs.Ytjjobgolpedgeaa
