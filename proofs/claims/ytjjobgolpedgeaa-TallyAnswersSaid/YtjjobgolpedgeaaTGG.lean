/-
  The walk of TallyAnswers, and what it needs. Merged by merge.py: TRefCheckAnswer, TRefSettle, TAnswers.
-/
import Derived.Test.YtjjobgolpedgeaaTGA
import Derived.Test.YtjjobgolpedgeaaTGE
import Derived.Test.YtjjobgolpedgeaaTGD
import Derived.Test.YtjjobgolpedgeaaTGF
set_option linter.unusedVariables false
set_option linter.unusedSimpArgs false
namespace Go.Proofs.Ytjjobgolpedgeaa
open Go.RowKit

set_option maxHeartbeats 8000000 in
set_option maxRecDepth 100000 in
theorem refCheckAnswers_any (c : Cg) (self : Int) (A : Option Addr) (n cp : Nat) (L : List Lt) (w : World) (h : RdVc w A n L) (hsm : n * 64 ≤ 140737488355328) :
    Calls Try.prog 60 #[c.agg, .int .i64 self, .slice A n cp] w fun e w' => e = .returned (.int .i64 (chkR Lt.n (Lt.mayA c.f c.r) c self L)) ∧ Below w.heap.size w w' := by
  have H := Lib.hid h
  have HL := Lib.hid h.len
  have hn : (n : Int) ≤ 6000000000000 := by omega
  clear h hsm
  have FCF := Lib.hid (config_any c)
  have FV := Lib.hid (fun ahead node w hf => voter_any c self ahead node w hf)
  obtain ⟨R, hR⟩ : ∃ R, chkR Lt.n (Lt.mayA c.f c.r) c self L = R := ⟨_, rfl⟩
  have HR := Lib.hid hR
  rw [hR]
  clear hR
  obtain ⟨cf, cr, cpp, cu⟩ := c
  go_enter Try.func60, Try.ntmps60
  go_wp2_with fail
  have OC := Lib.hid (Ob.fresh w #[.int .i64 cf, .int .i64 cr, .int .i64 cpp, .bool cu] 70)
  have BW : Hid (Below w.heap.size w (w.alloc (.cells #[.int .i64 cf, .int .i64 cr, .int .i64 cpp, .bool cu] 70))) := below_al _ _
  generalize w.alloc (.cells #[.int .i64 cf, .int .i64 cr, .int .i64 cpp, .bool cu] 70) = w1 at OC BW ⊢
  generalize w.heap.size = r at OC ⊢
  refine (FCF.out _).mono ?_
  rintro e w2 ⟨rfl, hb2⟩
  have OC2 := Lib.hid (OC.out.below hb2)
  have BW2 := Lib.hid (BW.out.trans (hb2.mono BW.out.size))
  clear hb2 OC BW FCF
  by_cases hbad : Cg.bad ⟨cf, cr, cpp, cu⟩
  · have HE : Hid (R = 1) := by rw [← HR.out]; exact chkR_bad hbad
    rw [if_pos hbad]
    clear hbad
    go_wp2_with fail
    go_ret
    exact ⟨by rw [HE.out]; exact rfl, BW2.out⟩
  rw [if_neg hbad]
  have HG := Lib.hid hbad
  have HF : Hid (1 ≤ cf ∧ cf ≤ 3) := by unfold Cg.bad at hbad; simp only at hbad; simp only [Hid]; omega
  clear hbad
  have H2 := Lib.hid (H.out.below BW2.out)
  go_wp2_with fail
  go_loopw [7, 8] (fun av iv wr => ∃ (k : Nat), k ≤ n ∧ av = .int .i64 (prevN Lt.n L k) ∧ iv = .int .i64 k ∧ Hid (Below w2.heap.size w2 wr) ∧ Hid (∀ i, i < k → okI Lt.n (Lt.mayA cf cr) cf self L i = true)) (fun _ iv _ => n - (intOf iv).toNat)
  case atStart => exact ⟨0, by omega, rfl, rfl, Below.refl _ _, fun i hi => by omega⟩
  case round =>
    obtain ⟨k, hk, rfl, rfl, HB, HO⟩ := hrel
    by_cases hkn : k < n
    · obtain ⟨x, hx⟩ : ∃ x, L[k]? = some x := ⟨_, List.getElem?_eq_getElem (by have := HL.out; omega)⟩
      obtain ⟨al, bX, jX, rfl, hoX, hjX, g0, g1, g2, g3, g4, g5⟩ := (H2.out.below HB.out).atV hx
      have HOX := Lib.hid hoX
      have HJX := Lib.hid hjX
      clear hoX hjX g1 g2
      obtain ⟨o0, o1, o2, o3⟩ := (OC2.out.below HB.out).all4
      have HPV : Hid (prevN Lt.n L (k + 1) = x.n) := by unfold prevN; rw [if_neg (by omega), Nat.add_sub_cancel, hx]; exact rfl
      obtain ⟨ahead, hah⟩ : ∃ a, prevN Lt.n L k = a := ⟨_, rfl⟩
      rw [hah]
      have HAH := Lib.hid hah
      have hki : (k : Int) < (n : Int) := by omega
      have HKN := Lib.hid hkn
      have HXX := Lib.hid hx
      clear hx hkn hk hah
      go_upto_region 7 with fail
      have FO := Lib.hid (fun y (hx : ((y.cell? ⟨r, 0, none⟩ = some (.int .i64 cf) ∧ y.cell? ⟨r, 1, none⟩ = some (.int .i64 cr) ∧ y.cell? ⟨r, 2, none⟩ = some (.int .i64 cpp) ∧ y.cell? ⟨r, 3, none⟩ = some (.bool cu)) ∧ (y.cell? (al.add (k * 6)) = some (.int .i64 x.n) ∧ y.cell? ⟨(al.add (k * 6)).block, (al.add (k * 6)).off + 3, none⟩ = some (.int .i64 x.v) ∧ y.cell? ⟨(al.add (k * 6)).block, (al.add (k * 6)).off + 4, none⟩ = some (.int .i64 x.c) ∧ y.cell? ⟨(al.add (k * 6)).block, (al.add (k * 6)).off + 5, none⟩ = some (.slice bX x.log.length jX)) ∧ Below wr.heap.size wr y)) => (FV.out ahead x.n y HF.out).mono (fun e y' (h9 : _ ∧ _) => show e = .returned (.bool (voterF cf self ahead x.n)) ∧ ((y'.cell? ⟨r, 0, none⟩ = some (.int .i64 cf) ∧ y'.cell? ⟨r, 1, none⟩ = some (.int .i64 cr) ∧ y'.cell? ⟨r, 2, none⟩ = some (.int .i64 cpp) ∧ y'.cell? ⟨r, 3, none⟩ = some (.bool cu)) ∧ (y'.cell? (al.add (k * 6)) = some (.int .i64 x.n) ∧ y'.cell? ⟨(al.add (k * 6)).block, (al.add (k * 6)).off + 3, none⟩ = some (.int .i64 x.v) ∧ y'.cell? ⟨(al.add (k * 6)).block, (al.add (k * 6)).off + 4, none⟩ = some (.int .i64 x.c) ∧ y'.cell? ⟨(al.add (k * 6)).block, (al.add (k * 6)).off + 5, none⟩ = some (.slice bX x.log.length jX)) ∧ Below wr.heap.size wr y') from ⟨h9.1, ⟨keep4 h9.2 hx.1, ⟨(h9.2.cell (World.block_lt_of_cell? y _ hx.2.1.1)).trans hx.2.1.1, (h9.2.cell (World.block_lt_of_cell? y _ hx.2.1.2.1)).trans hx.2.1.2.1, (h9.2.cell (World.block_lt_of_cell? y _ hx.2.1.2.2.1)).trans hx.2.1.2.2.1, (h9.2.cell (World.block_lt_of_cell? y _ hx.2.1.2.2.2)).trans hx.2.1.2.2.2⟩, hx.2.2.trans (h9.2.mono hx.2.2.size)⟩⟩))
      have FW := Lib.hid (fun y (hx : ((y.cell? ⟨r, 0, none⟩ = some (.int .i64 cf) ∧ y.cell? ⟨r, 1, none⟩ = some (.int .i64 cr) ∧ y.cell? ⟨r, 2, none⟩ = some (.int .i64 cpp) ∧ y.cell? ⟨r, 3, none⟩ = some (.bool cu)) ∧ (y.cell? (al.add (k * 6)) = some (.int .i64 x.n) ∧ y.cell? ⟨(al.add (k * 6)).block, (al.add (k * 6)).off + 3, none⟩ = some (.int .i64 x.v) ∧ y.cell? ⟨(al.add (k * 6)).block, (al.add (k * 6)).off + 4, none⟩ = some (.int .i64 x.c) ∧ y.cell? ⟨(al.add (k * 6)).block, (al.add (k * 6)).off + 5, none⟩ = some (.slice bX x.log.length jX)) ∧ Below wr.heap.size wr y)) => (whole_any cf cr cpp cu x.v bX jX x.log x.c y (HOX.out.below hx.2.2) HJX.out).mono (fun e y' (h9 : _ ∧ _) => show e = .returned (.bool (Lt.may cr x)) ∧ ((y'.cell? ⟨r, 0, none⟩ = some (.int .i64 cf) ∧ y'.cell? ⟨r, 1, none⟩ = some (.int .i64 cr) ∧ y'.cell? ⟨r, 2, none⟩ = some (.int .i64 cpp) ∧ y'.cell? ⟨r, 3, none⟩ = some (.bool cu)) ∧ (y'.cell? (al.add (k * 6)) = some (.int .i64 x.n) ∧ y'.cell? ⟨(al.add (k * 6)).block, (al.add (k * 6)).off + 3, none⟩ = some (.int .i64 x.v) ∧ y'.cell? ⟨(al.add (k * 6)).block, (al.add (k * 6)).off + 4, none⟩ = some (.int .i64 x.c) ∧ y'.cell? ⟨(al.add (k * 6)).block, (al.add (k * 6)).off + 5, none⟩ = some (.slice bX x.log.length jX)) ∧ Below wr.heap.size wr y') from ⟨h9.1, ⟨keep4 h9.2 hx.1, ⟨(h9.2.cell (World.block_lt_of_cell? y _ hx.2.1.1)).trans hx.2.1.1, (h9.2.cell (World.block_lt_of_cell? y _ hx.2.1.2.1)).trans hx.2.1.2.1, (h9.2.cell (World.block_lt_of_cell? y _ hx.2.1.2.2.1)).trans hx.2.1.2.2.1, (h9.2.cell (World.block_lt_of_cell? y _ hx.2.1.2.2.2)).trans hx.2.1.2.2.2⟩, hx.2.2.trans (h9.2.mono hx.2.2.size)⟩⟩))
      obtain ⟨bb, hbb⟩ : ∃ bb, voterF cf self ahead x.n = bb := ⟨_, rfl⟩
      rw [hbb] at FO
      have HBB := Lib.hid hbb
      clear hbb
      obtain ⟨wb, hwb⟩ : ∃ wb, Lt.may cr x = wb := ⟨_, rfl⟩
      rw [hwb] at FW
      have HWB := Lib.hid hwb
      clear hwb
      cases bb with
      | false =>
        refine wp_region_held_drew (S := (fun y => ((y.cell? ⟨r, 0, none⟩ = some (.int .i64 cf) ∧ y.cell? ⟨r, 1, none⟩ = some (.int .i64 cr) ∧ y.cell? ⟨r, 2, none⟩ = some (.int .i64 cpp) ∧ y.cell? ⟨r, 3, none⟩ = some (.bool cu)) ∧ (y.cell? (al.add (k * 6)) = some (.int .i64 x.n) ∧ y.cell? ⟨(al.add (k * 6)).block, (al.add (k * 6)).off + 3, none⟩ = some (.int .i64 x.v) ∧ y.cell? ⟨(al.add (k * 6)).block, (al.add (k * 6)).off + 4, none⟩ = some (.int .i64 x.c) ∧ y.cell? ⟨(al.add (k * 6)).block, (al.add (k * 6)).off + 5, none⟩ = some (.slice bX x.log.length jX)) ∧ Below wr.heap.size wr y))) (by kernel_rfl) ⟨⟨o0, o1, o2, o3⟩, ⟨g0, g3, g4, g5⟩, Below.drew (Below.refl _ _)⟩ (fun hHeld => ?_)
        refine takeH0 (v := ?va0) (by kernel_rfl) (by kernel_rfl) (by kernel_rfl) (fun _ _ _ h => h) (by rfl) ?ya0 (by assumption) ?ra0
        case ya0 => (intro w hSw; (try dsimp only at hSw); go_simp; (try with_reducible rfl))
        try simp only [Act.put, List.setIfInBounds_toArray, List.set_cons_zero, List.set_cons_succ]
        refine takeH1 (v := ?va1) (by kernel_rfl) (by kernel_rfl) (by kernel_rfl) (fun _ _ _ h => h) (by rfl) ?ya1 (by assumption) ?ra1
        case ya1 => (intro w hSw; (try dsimp only at hSw); go_simp; (try with_reducible rfl))
        try simp only [Act.put, List.setIfInBounds_toArray, List.set_cons_zero, List.set_cons_succ]
        refine takeH2 (v := ?va2) (by kernel_rfl) (by kernel_rfl) (by kernel_rfl) (fun _ _ _ h => h) (by rfl) ?ya2 (by assumption) ?ra2
        case ya2 => (intro w hSw; (try dsimp only at hSw); go_simp; (try with_reducible rfl))
        try simp only [Act.put, List.setIfInBounds_toArray, List.set_cons_zero, List.set_cons_succ]
        refine takeH3 (v := ?va3) (by kernel_rfl) (by kernel_rfl) (by kernel_rfl) (fun _ _ _ h => h) (by rfl) ?ya3 (by assumption) ?ra3
        case ya3 => (intro w hSw; (try dsimp only at hSw); go_simp; (try with_reducible rfl))
        try simp only [Act.put, List.setIfInBounds_toArray, List.set_cons_zero, List.set_cons_succ]
        refine takeH4 (v := ?va4) (by kernel_rfl) (by kernel_rfl) (by kernel_rfl) (fun _ _ _ h => h) (by rfl) ?ya4 (by assumption) ?ra4
        case ya4 => (intro w hSw; (try dsimp only at hSw); go_simp; (try with_reducible rfl))
        try simp only [Act.put, List.setIfInBounds_toArray, List.set_cons_zero, List.set_cons_succ]
        refine takeH5 (v := ?va5) (by kernel_rfl) (by kernel_rfl) (by kernel_rfl) (fun _ _ _ h => h) (by rfl) ?ya5 (by assumption) ?ra5
        case ya5 => (intro w hSw; (try dsimp only at hSw); go_simp; (try with_reducible rfl))
        try simp only [Act.put, List.setIfInBounds_toArray, List.set_cons_zero, List.set_cons_succ]
        refine takeH6 (v := ?va6) (by kernel_rfl) (by kernel_rfl) (by kernel_rfl) (fun _ _ _ h => h) (by rfl) ?ya6 (by assumption) ?ra6
        case ya6 => (intro w hSw; (try dsimp only at hSw); go_simp; (try with_reducible rfl))
        try simp only [Act.put, List.setIfInBounds_toArray, List.set_cons_zero, List.set_cons_succ]
        refine takeH7 (v := ?va7) (by kernel_rfl) (by kernel_rfl) (by kernel_rfl) (fun _ _ _ h => h) (by rfl) ?ya7 (by assumption) ?ra7
        case ya7 => (intro w hSw; (try dsimp only at hSw); go_simp; (try with_reducible rfl))
        try simp only [Act.put, List.setIfInBounds_toArray, List.set_cons_zero, List.set_cons_succ]
        refine callH8 (by kernel_rfl) (fun K hK => ?_)
        first | (go_at_call 100; refine (FO.out _ hHeld).mono ?_; rintro e xv ⟨rfl, hv⟩) | (go_simp; go_at_call 100; refine (FO.out _ hHeld).mono ?_; rintro e xv ⟨rfl, hv⟩)
        refine hK.out _ _ hv (fun hvH => ?_)
        clear hK K
        try simp only [Act.put, List.setIfInBounds_toArray, List.set_cons_zero, List.set_cons_succ]
        refine takeH9 (v := ?va9) (by kernel_rfl) (by kernel_rfl) (by kernel_rfl) (fun _ _ _ h => h) (by rfl) ?ya9 (by assumption) ?ra9
        case ya9 => (intro w hSw; (try dsimp only at hSw); go_simp; (try with_reducible rfl))
        try simp only [Act.put, List.setIfInBounds_toArray, List.set_cons_zero, List.set_cons_succ]
        refine takeH10 (v := ?va10) (by kernel_rfl) (by kernel_rfl) (by kernel_rfl) (fun _ _ _ h => h) (by rfl) ?ya10 (by assumption) ?ra10
        case ya10 => (intro w hSw; (try dsimp only at hSw); go_simp; (try with_reducible rfl))
        try simp only [Act.put, List.setIfInBounds_toArray, List.set_cons_zero, List.set_cons_succ]
        refine skipH11 (by kernel_rfl) (by kernel_rfl) (by kernel_rfl) (fun _ _ _ h => h) (by rfl) (by assumption) ?_
        try simp only [Act.put, List.setIfInBounds_toArray, List.set_cons_zero, List.set_cons_succ]
        refine skipH12 (by kernel_rfl) (by kernel_rfl) (by kernel_rfl) (fun _ _ _ h => h) (by rfl) (by assumption) ?_
        try simp only [Act.put, List.setIfInBounds_toArray, List.set_cons_zero, List.set_cons_succ]
        refine skipH13 (by kernel_rfl) (by kernel_rfl) (by kernel_rfl) (fun _ _ _ h => h) (by rfl) (by assumption) ?_
        try simp only [Act.put, List.setIfInBounds_toArray, List.set_cons_zero, List.set_cons_succ]
        refine skipH14 (by kernel_rfl) (by kernel_rfl) (by kernel_rfl) (fun _ _ _ h => h) (by rfl) (by assumption) ?_
        try simp only [Act.put, List.setIfInBounds_toArray, List.set_cons_zero, List.set_cons_succ]
        refine skipH15 (by kernel_rfl) (by kernel_rfl) (by kernel_rfl) (fun _ _ _ h => h) (by rfl) (by assumption) ?_
        try simp only [Act.put, List.setIfInBounds_toArray, List.set_cons_zero, List.set_cons_succ]
        refine skipH16 (by kernel_rfl) (by kernel_rfl) (by kernel_rfl) (fun _ _ _ h => h) (by rfl) (by assumption) ?_
        try simp only [Act.put, List.setIfInBounds_toArray, List.set_cons_zero, List.set_cons_succ]
        refine skipH17 (by kernel_rfl) (by kernel_rfl) (by kernel_rfl) (fun _ _ _ h => h) (by rfl) (by assumption) ?_
        try simp only [Act.put, List.setIfInBounds_toArray, List.set_cons_zero, List.set_cons_succ]
        refine skipH18 (by kernel_rfl) (by kernel_rfl) (by kernel_rfl) (fun _ _ _ h => h) (by rfl) (by assumption) ?_
        try simp only [Act.put, List.setIfInBounds_toArray, List.set_cons_zero, List.set_cons_succ]
        refine skipH19 (by kernel_rfl) (by kernel_rfl) (by kernel_rfl) (fun _ _ _ h => h) (by rfl) (by assumption) ?_
        try simp only [Act.put, List.setIfInBounds_toArray, List.set_cons_zero, List.set_cons_succ]
        refine skipH20 (by kernel_rfl) (by kernel_rfl) (by kernel_rfl) (fun _ _ _ h => h) (by rfl) (by assumption) ?_
        try simp only [Act.put, List.setIfInBounds_toArray, List.set_cons_zero, List.set_cons_succ]
        refine skipH21 (by kernel_rfl) (by kernel_rfl) (by kernel_rfl) (fun _ _ _ h => h) (by rfl) (by assumption) ?_
        try simp only [Act.put, List.setIfInBounds_toArray, List.set_cons_zero, List.set_cons_succ]
        refine skipH22 (by kernel_rfl) (by kernel_rfl) (by kernel_rfl) (fun _ _ _ h => h) (by rfl) (by assumption) ?_
        try simp only [Act.put, List.setIfInBounds_toArray, List.set_cons_zero, List.set_cons_succ]
        refine skipH23 (by kernel_rfl) (by kernel_rfl) (by kernel_rfl) (fun _ _ _ h => h) (by rfl) (by assumption) ?_
        try simp only [Act.put, List.setIfInBounds_toArray, List.set_cons_zero, List.set_cons_succ]
        refine skipH24 (by kernel_rfl) (by kernel_rfl) (by kernel_rfl) (fun _ _ _ h => h) (by rfl) (by assumption) ?_
        try simp only [Act.put, List.setIfInBounds_toArray, List.set_cons_zero, List.set_cons_succ]
        refine skipH25 (by kernel_rfl) (by kernel_rfl) (by kernel_rfl) (fun _ _ _ h => h) (by rfl) (by assumption) ?_
        try simp only [Act.put, List.setIfInBounds_toArray, List.set_cons_zero, List.set_cons_succ]
        refine skipH26 (by kernel_rfl) (by kernel_rfl) (by kernel_rfl) (fun _ _ _ h => h) (by rfl) (by assumption) ?_
        try simp only [Act.put, List.setIfInBounds_toArray, List.set_cons_zero, List.set_cons_succ]
        refine skipH27 (by kernel_rfl) (by kernel_rfl) (by kernel_rfl) (fun _ _ _ h => h) (by rfl) (by assumption) ?_
        try simp only [Act.put, List.setIfInBounds_toArray, List.set_cons_zero, List.set_cons_succ]
        refine skipH28 (by kernel_rfl) (by kernel_rfl) (by kernel_rfl) (fun _ _ _ h => h) (by rfl) (by assumption) ?_
        try simp only [Act.put, List.setIfInBounds_toArray, List.set_cons_zero, List.set_cons_succ]
        refine takeH29 (v := ?va29) (by kernel_rfl) (by kernel_rfl) (by kernel_rfl) (fun _ _ _ h => h) (by rfl) ?ya29 (by assumption) ?ra29
        case ya29 => (intro w hSw; (try dsimp only at hSw); go_simp; (try with_reducible rfl))
        try simp only [Act.put, List.setIfInBounds_toArray, List.set_cons_zero, List.set_cons_succ]
        refine wpAnyH_done (by kernel_rfl) ?_ _
        have B3 : Hid (Below w2.heap.size w2 xv) := HB.out.trans (hv.2.2.mono HB.out.size)
        clear hv
        clear FO FW HB g0 g3 g4 g5 o0 o1 o2 o3
        have HE : Hid (R = 80) := by rw [← HR.out]; exact chkR_one (i := k) HG.out (by have := HKN.out; have := HL.out; omega) (by unfold okI; rw [HXX.out, HAH.out]; show (voterF cf self ahead x.n && (Lt.mayA cf cr) x) = false; rw [HBB.out, Bool.false_and])
        go_wp2_with fail
        go_ret
        exact ⟨by rw [HE.out]; exact rfl, BW2.out.trans (B3.out.mono BW2.out.size)⟩
      | true =>
        cases wb with
        | false =>
          refine wp_region_held_drew (S := (fun y => ((y.cell? ⟨r, 0, none⟩ = some (.int .i64 cf) ∧ y.cell? ⟨r, 1, none⟩ = some (.int .i64 cr) ∧ y.cell? ⟨r, 2, none⟩ = some (.int .i64 cpp) ∧ y.cell? ⟨r, 3, none⟩ = some (.bool cu)) ∧ (y.cell? (al.add (k * 6)) = some (.int .i64 x.n) ∧ y.cell? ⟨(al.add (k * 6)).block, (al.add (k * 6)).off + 3, none⟩ = some (.int .i64 x.v) ∧ y.cell? ⟨(al.add (k * 6)).block, (al.add (k * 6)).off + 4, none⟩ = some (.int .i64 x.c) ∧ y.cell? ⟨(al.add (k * 6)).block, (al.add (k * 6)).off + 5, none⟩ = some (.slice bX x.log.length jX)) ∧ Below wr.heap.size wr y))) (by kernel_rfl) ⟨⟨o0, o1, o2, o3⟩, ⟨g0, g3, g4, g5⟩, Below.drew (Below.refl _ _)⟩ (fun hHeld => ?_)
          refine takeH0 (v := ?vb0) (by kernel_rfl) (by kernel_rfl) (by kernel_rfl) (fun _ _ _ h => h) (by rfl) ?yb0 (by assumption) ?rb0
          case yb0 => (intro w hSw; (try dsimp only at hSw); go_simp; (try with_reducible rfl))
          try simp only [Act.put, List.setIfInBounds_toArray, List.set_cons_zero, List.set_cons_succ]
          refine takeH1 (v := ?vb1) (by kernel_rfl) (by kernel_rfl) (by kernel_rfl) (fun _ _ _ h => h) (by rfl) ?yb1 (by assumption) ?rb1
          case yb1 => (intro w hSw; (try dsimp only at hSw); go_simp; (try with_reducible rfl))
          try simp only [Act.put, List.setIfInBounds_toArray, List.set_cons_zero, List.set_cons_succ]
          refine takeH2 (v := ?vb2) (by kernel_rfl) (by kernel_rfl) (by kernel_rfl) (fun _ _ _ h => h) (by rfl) ?yb2 (by assumption) ?rb2
          case yb2 => (intro w hSw; (try dsimp only at hSw); go_simp; (try with_reducible rfl))
          try simp only [Act.put, List.setIfInBounds_toArray, List.set_cons_zero, List.set_cons_succ]
          refine takeH3 (v := ?vb3) (by kernel_rfl) (by kernel_rfl) (by kernel_rfl) (fun _ _ _ h => h) (by rfl) ?yb3 (by assumption) ?rb3
          case yb3 => (intro w hSw; (try dsimp only at hSw); go_simp; (try with_reducible rfl))
          try simp only [Act.put, List.setIfInBounds_toArray, List.set_cons_zero, List.set_cons_succ]
          refine takeH4 (v := ?vb4) (by kernel_rfl) (by kernel_rfl) (by kernel_rfl) (fun _ _ _ h => h) (by rfl) ?yb4 (by assumption) ?rb4
          case yb4 => (intro w hSw; (try dsimp only at hSw); go_simp; (try with_reducible rfl))
          try simp only [Act.put, List.setIfInBounds_toArray, List.set_cons_zero, List.set_cons_succ]
          refine takeH5 (v := ?vb5) (by kernel_rfl) (by kernel_rfl) (by kernel_rfl) (fun _ _ _ h => h) (by rfl) ?yb5 (by assumption) ?rb5
          case yb5 => (intro w hSw; (try dsimp only at hSw); go_simp; (try with_reducible rfl))
          try simp only [Act.put, List.setIfInBounds_toArray, List.set_cons_zero, List.set_cons_succ]
          refine takeH6 (v := ?vb6) (by kernel_rfl) (by kernel_rfl) (by kernel_rfl) (fun _ _ _ h => h) (by rfl) ?yb6 (by assumption) ?rb6
          case yb6 => (intro w hSw; (try dsimp only at hSw); go_simp; (try with_reducible rfl))
          try simp only [Act.put, List.setIfInBounds_toArray, List.set_cons_zero, List.set_cons_succ]
          refine takeH7 (v := ?vb7) (by kernel_rfl) (by kernel_rfl) (by kernel_rfl) (fun _ _ _ h => h) (by rfl) ?yb7 (by assumption) ?rb7
          case yb7 => (intro w hSw; (try dsimp only at hSw); go_simp; (try with_reducible rfl))
          try simp only [Act.put, List.setIfInBounds_toArray, List.set_cons_zero, List.set_cons_succ]
          refine callH8 (by kernel_rfl) (fun K hK => ?_)
          first | (go_at_call 100; refine (FO.out _ hHeld).mono ?_; rintro e xv ⟨rfl, hv⟩) | (go_simp; go_at_call 100; refine (FO.out _ hHeld).mono ?_; rintro e xv ⟨rfl, hv⟩)
          refine hK.out _ _ hv (fun hvH => ?_)
          clear hK K
          try simp only [Act.put, List.setIfInBounds_toArray, List.set_cons_zero, List.set_cons_succ]
          refine takeH9 (v := ?vb9) (by kernel_rfl) (by kernel_rfl) (by kernel_rfl) (fun _ _ _ h => h) (by rfl) ?yb9 (by assumption) ?rb9
          case yb9 => (intro w hSw; (try dsimp only at hSw); go_simp; (try with_reducible rfl))
          try simp only [Act.put, List.setIfInBounds_toArray, List.set_cons_zero, List.set_cons_succ]
          refine takeH10 (v := ?vb10) (by kernel_rfl) (by kernel_rfl) (by kernel_rfl) (fun _ _ _ h => h) (by rfl) ?yb10 (by assumption) ?rb10
          case yb10 => (intro w hSw; (try dsimp only at hSw); go_simp; (try with_reducible rfl))
          try simp only [Act.put, List.setIfInBounds_toArray, List.set_cons_zero, List.set_cons_succ]
          refine takeH11 (v := ?vb11) (by kernel_rfl) (by kernel_rfl) (by kernel_rfl) (fun _ _ _ h => h) (by rfl) ?yb11 (by assumption) ?rb11
          case yb11 => (intro w hSw; (try dsimp only at hSw); go_simp; (try with_reducible rfl))
          try simp only [Act.put, List.setIfInBounds_toArray, List.set_cons_zero, List.set_cons_succ]
          refine takeH12 (v := ?vb12) (by kernel_rfl) (by kernel_rfl) (by kernel_rfl) (fun _ _ _ h => h) (by rfl) ?yb12 (by assumption) ?rb12
          case yb12 => (intro w hSw; (try dsimp only at hSw); go_simp; (try with_reducible rfl))
          try simp only [Act.put, List.setIfInBounds_toArray, List.set_cons_zero, List.set_cons_succ]
          refine takeH13 (v := ?vb13) (by kernel_rfl) (by kernel_rfl) (by kernel_rfl) (fun _ _ _ h => h) (by rfl) ?yb13 (by assumption) ?rb13
          case yb13 => (intro w hSw; (try dsimp only at hSw); go_simp; (try with_reducible rfl))
          try simp only [Act.put, List.setIfInBounds_toArray, List.set_cons_zero, List.set_cons_succ]
          refine takeH14 (v := ?vb14) (by kernel_rfl) (by kernel_rfl) (by kernel_rfl) (fun _ _ _ h => h) (by rfl) ?yb14 (by assumption) ?rb14
          case yb14 => (intro w hSw; (try dsimp only at hSw); go_simp; (try with_reducible rfl))
          try simp only [Act.put, List.setIfInBounds_toArray, List.set_cons_zero, List.set_cons_succ]
          refine takeH15 (v := ?vb15) (by kernel_rfl) (by kernel_rfl) (by kernel_rfl) (fun _ _ _ h => h) (by rfl) ?yb15 (by assumption) ?rb15
          case yb15 => (intro w hSw; (try dsimp only at hSw); go_simp; (try with_reducible rfl))
          try simp only [Act.put, List.setIfInBounds_toArray, List.set_cons_zero, List.set_cons_succ]
          refine takeH16 (v := ?vb16) (by kernel_rfl) (by kernel_rfl) (by kernel_rfl) (fun _ _ _ h => h) (by rfl) ?yb16 (by assumption) ?rb16
          case yb16 => (intro w hSw; (try dsimp only at hSw); go_simp; (try with_reducible rfl))
          try simp only [Act.put, List.setIfInBounds_toArray, List.set_cons_zero, List.set_cons_succ]
          refine takeH17 (v := ?vb17) (by kernel_rfl) (by kernel_rfl) (by kernel_rfl) (fun _ _ _ h => h) (by rfl) ?yb17 (by assumption) ?rb17
          case yb17 => (intro w hSw; (try dsimp only at hSw); go_simp; (try with_reducible rfl))
          try simp only [Act.put, List.setIfInBounds_toArray, List.set_cons_zero, List.set_cons_succ]
          refine takeH18 (v := ?vb18) (by kernel_rfl) (by kernel_rfl) (by kernel_rfl) (fun _ _ _ h => h) (by rfl) ?yb18 (by assumption) ?rb18
          case yb18 => (intro w hSw; (try dsimp only at hSw); go_simp; (try with_reducible rfl))
          try simp only [Act.put, List.setIfInBounds_toArray, List.set_cons_zero, List.set_cons_succ]
          refine takeH19 (v := ?vb19) (by kernel_rfl) (by kernel_rfl) (by kernel_rfl) (fun _ _ _ h => h) (by rfl) ?yb19 (by assumption) ?rb19
          case yb19 => (intro w hSw; (try dsimp only at hSw); go_simp; (try with_reducible rfl))
          try simp only [Act.put, List.setIfInBounds_toArray, List.set_cons_zero, List.set_cons_succ]
          refine takeH20 (v := ?vb20) (by kernel_rfl) (by kernel_rfl) (by kernel_rfl) (fun _ _ _ h => h) (by rfl) ?yb20 (by assumption) ?rb20
          case yb20 => (intro w hSw; (try dsimp only at hSw); go_simp; (try with_reducible rfl))
          try simp only [Act.put, List.setIfInBounds_toArray, List.set_cons_zero, List.set_cons_succ]
          refine takeH21 (v := ?vb21) (by kernel_rfl) (by kernel_rfl) (by kernel_rfl) (fun _ _ _ h => h) (by rfl) ?yb21 (by assumption) ?rb21
          case yb21 => (intro w hSw; (try dsimp only at hSw); go_simp; (try with_reducible rfl))
          try simp only [Act.put, List.setIfInBounds_toArray, List.set_cons_zero, List.set_cons_succ]
          refine takeH22 (v := ?vb22) (by kernel_rfl) (by kernel_rfl) (by kernel_rfl) (fun _ _ _ h => h) (by rfl) ?yb22 (by assumption) ?rb22
          case yb22 => (intro w hSw; (try dsimp only at hSw); go_simp; (try with_reducible rfl))
          try simp only [Act.put, List.setIfInBounds_toArray, List.set_cons_zero, List.set_cons_succ]
          refine takeH23 (v := ?vb23) (by kernel_rfl) (by kernel_rfl) (by kernel_rfl) (fun _ _ _ h => h) (by rfl) ?yb23 (by assumption) ?rb23
          case yb23 => (intro w hSw; (try dsimp only at hSw); go_simp; (try with_reducible rfl))
          try simp only [Act.put, List.setIfInBounds_toArray, List.set_cons_zero, List.set_cons_succ]
          refine takeH24 (v := ?vb24) (by kernel_rfl) (by kernel_rfl) (by kernel_rfl) (fun _ _ _ h => h) (by rfl) ?yb24 (by assumption) ?rb24
          case yb24 => (intro w hSw; (try dsimp only at hSw); go_simp; (try with_reducible rfl))
          try simp only [Act.put, List.setIfInBounds_toArray, List.set_cons_zero, List.set_cons_succ]
          refine takeH25 (v := ?vb25) (by kernel_rfl) (by kernel_rfl) (by kernel_rfl) (fun _ _ _ h => h) (by rfl) ?yb25 (by assumption) ?rb25
          case yb25 => (intro w hSw; (try dsimp only at hSw); go_simp; (try with_reducible rfl))
          try simp only [Act.put, List.setIfInBounds_toArray, List.set_cons_zero, List.set_cons_succ]
          refine takeH26 (v := ?vb26) (by kernel_rfl) (by kernel_rfl) (by kernel_rfl) (fun _ _ _ h => h) (by rfl) ?yb26 (by assumption) ?rb26
          case yb26 => (intro w hSw; (try dsimp only at hSw); go_simp; (try with_reducible rfl))
          try simp only [Act.put, List.setIfInBounds_toArray, List.set_cons_zero, List.set_cons_succ]
          refine callH27 (by kernel_rfl) (fun K hK => ?_)
          first | (go_at_call 127; refine (FW.out _ hvH).mono ?_; rintro e xw ⟨rfl, hw⟩) | (go_simp; go_at_call 127; refine (FW.out _ hvH).mono ?_; rintro e xw ⟨rfl, hw⟩)
          refine hK.out _ _ hw (fun hwH => ?_)
          clear hK K
          try simp only [Act.put, List.setIfInBounds_toArray, List.set_cons_zero, List.set_cons_succ]
          refine takeH28 (v := ?vb28) (by kernel_rfl) (by kernel_rfl) (by kernel_rfl) (fun _ _ _ h => h) (by rfl) ?yb28 (by assumption) ?rb28
          case yb28 => (intro w hSw; (try dsimp only at hSw); go_simp; (try with_reducible rfl))
          try simp only [Act.put, List.setIfInBounds_toArray, List.set_cons_zero, List.set_cons_succ]
          refine takeH29 (v := ?vb29) (by kernel_rfl) (by kernel_rfl) (by kernel_rfl) (fun _ _ _ h => h) (by rfl) ?yb29 (by assumption) ?rb29
          case yb29 => (intro w hSw; (try dsimp only at hSw); go_simp; (try with_reducible rfl))
          try simp only [Act.put, List.setIfInBounds_toArray, List.set_cons_zero, List.set_cons_succ]
          refine wpAnyH_done (by kernel_rfl) ?_ _
          have B3 : Hid (Below w2.heap.size w2 xw) := HB.out.trans (hw.2.2.mono HB.out.size)
          clear hw hv
          clear FO FW HB g0 g3 g4 g5 o0 o1 o2 o3
          have HE : Hid (R = 80) := by rw [← HR.out]; exact chkR_one (i := k) HG.out (by have := HKN.out; have := HL.out; omega) (by unfold okI; rw [HXX.out, HAH.out]; show (voterF cf self ahead x.n && (Lt.mayA cf cr) x) = false; rw [HBB.out, Bool.true_and]; unfold Lt.mayA; rw [HWB.out, Bool.false_and])
          go_wp2_with fail
          go_ret
          exact ⟨by rw [HE.out]; exact rfl, BW2.out.trans (B3.out.mono BW2.out.size)⟩
        | true =>
          refine wp_region_held_drew (S := (fun y => ((y.cell? ⟨r, 0, none⟩ = some (.int .i64 cf) ∧ y.cell? ⟨r, 1, none⟩ = some (.int .i64 cr) ∧ y.cell? ⟨r, 2, none⟩ = some (.int .i64 cpp) ∧ y.cell? ⟨r, 3, none⟩ = some (.bool cu)) ∧ (y.cell? (al.add (k * 6)) = some (.int .i64 x.n) ∧ y.cell? ⟨(al.add (k * 6)).block, (al.add (k * 6)).off + 3, none⟩ = some (.int .i64 x.v) ∧ y.cell? ⟨(al.add (k * 6)).block, (al.add (k * 6)).off + 4, none⟩ = some (.int .i64 x.c) ∧ y.cell? ⟨(al.add (k * 6)).block, (al.add (k * 6)).off + 5, none⟩ = some (.slice bX x.log.length jX)) ∧ Below wr.heap.size wr y))) (by kernel_rfl) ⟨⟨o0, o1, o2, o3⟩, ⟨g0, g3, g4, g5⟩, Below.drew (Below.refl _ _)⟩ (fun hHeld => ?_)
          refine takeH0 (v := ?vc0) (by kernel_rfl) (by kernel_rfl) (by kernel_rfl) (fun _ _ _ h => h) (by rfl) ?yc0 (by assumption) ?rc0
          case yc0 => (intro w hSw; (try dsimp only at hSw); go_simp; (try with_reducible rfl))
          try simp only [Act.put, List.setIfInBounds_toArray, List.set_cons_zero, List.set_cons_succ]
          refine takeH1 (v := ?vc1) (by kernel_rfl) (by kernel_rfl) (by kernel_rfl) (fun _ _ _ h => h) (by rfl) ?yc1 (by assumption) ?rc1
          case yc1 => (intro w hSw; (try dsimp only at hSw); go_simp; (try with_reducible rfl))
          try simp only [Act.put, List.setIfInBounds_toArray, List.set_cons_zero, List.set_cons_succ]
          refine takeH2 (v := ?vc2) (by kernel_rfl) (by kernel_rfl) (by kernel_rfl) (fun _ _ _ h => h) (by rfl) ?yc2 (by assumption) ?rc2
          case yc2 => (intro w hSw; (try dsimp only at hSw); go_simp; (try with_reducible rfl))
          try simp only [Act.put, List.setIfInBounds_toArray, List.set_cons_zero, List.set_cons_succ]
          refine takeH3 (v := ?vc3) (by kernel_rfl) (by kernel_rfl) (by kernel_rfl) (fun _ _ _ h => h) (by rfl) ?yc3 (by assumption) ?rc3
          case yc3 => (intro w hSw; (try dsimp only at hSw); go_simp; (try with_reducible rfl))
          try simp only [Act.put, List.setIfInBounds_toArray, List.set_cons_zero, List.set_cons_succ]
          refine takeH4 (v := ?vc4) (by kernel_rfl) (by kernel_rfl) (by kernel_rfl) (fun _ _ _ h => h) (by rfl) ?yc4 (by assumption) ?rc4
          case yc4 => (intro w hSw; (try dsimp only at hSw); go_simp; (try with_reducible rfl))
          try simp only [Act.put, List.setIfInBounds_toArray, List.set_cons_zero, List.set_cons_succ]
          refine takeH5 (v := ?vc5) (by kernel_rfl) (by kernel_rfl) (by kernel_rfl) (fun _ _ _ h => h) (by rfl) ?yc5 (by assumption) ?rc5
          case yc5 => (intro w hSw; (try dsimp only at hSw); go_simp; (try with_reducible rfl))
          try simp only [Act.put, List.setIfInBounds_toArray, List.set_cons_zero, List.set_cons_succ]
          refine takeH6 (v := ?vc6) (by kernel_rfl) (by kernel_rfl) (by kernel_rfl) (fun _ _ _ h => h) (by rfl) ?yc6 (by assumption) ?rc6
          case yc6 => (intro w hSw; (try dsimp only at hSw); go_simp; (try with_reducible rfl))
          try simp only [Act.put, List.setIfInBounds_toArray, List.set_cons_zero, List.set_cons_succ]
          refine takeH7 (v := ?vc7) (by kernel_rfl) (by kernel_rfl) (by kernel_rfl) (fun _ _ _ h => h) (by rfl) ?yc7 (by assumption) ?rc7
          case yc7 => (intro w hSw; (try dsimp only at hSw); go_simp; (try with_reducible rfl))
          try simp only [Act.put, List.setIfInBounds_toArray, List.set_cons_zero, List.set_cons_succ]
          refine callH8 (by kernel_rfl) (fun K hK => ?_)
          first | (go_at_call 100; refine (FO.out _ hHeld).mono ?_; rintro e xv ⟨rfl, hv⟩) | (go_simp; go_at_call 100; refine (FO.out _ hHeld).mono ?_; rintro e xv ⟨rfl, hv⟩)
          refine hK.out _ _ hv (fun hvH => ?_)
          clear hK K
          try simp only [Act.put, List.setIfInBounds_toArray, List.set_cons_zero, List.set_cons_succ]
          refine takeH9 (v := ?vc9) (by kernel_rfl) (by kernel_rfl) (by kernel_rfl) (fun _ _ _ h => h) (by rfl) ?yc9 (by assumption) ?rc9
          case yc9 => (intro w hSw; (try dsimp only at hSw); go_simp; (try with_reducible rfl))
          try simp only [Act.put, List.setIfInBounds_toArray, List.set_cons_zero, List.set_cons_succ]
          refine takeH10 (v := ?vc10) (by kernel_rfl) (by kernel_rfl) (by kernel_rfl) (fun _ _ _ h => h) (by rfl) ?yc10 (by assumption) ?rc10
          case yc10 => (intro w hSw; (try dsimp only at hSw); go_simp; (try with_reducible rfl))
          try simp only [Act.put, List.setIfInBounds_toArray, List.set_cons_zero, List.set_cons_succ]
          refine takeH11 (v := ?vc11) (by kernel_rfl) (by kernel_rfl) (by kernel_rfl) (fun _ _ _ h => h) (by rfl) ?yc11 (by assumption) ?rc11
          case yc11 => (intro w hSw; (try dsimp only at hSw); go_simp; (try with_reducible rfl))
          try simp only [Act.put, List.setIfInBounds_toArray, List.set_cons_zero, List.set_cons_succ]
          refine takeH12 (v := ?vc12) (by kernel_rfl) (by kernel_rfl) (by kernel_rfl) (fun _ _ _ h => h) (by rfl) ?yc12 (by assumption) ?rc12
          case yc12 => (intro w hSw; (try dsimp only at hSw); go_simp; (try with_reducible rfl))
          try simp only [Act.put, List.setIfInBounds_toArray, List.set_cons_zero, List.set_cons_succ]
          refine takeH13 (v := ?vc13) (by kernel_rfl) (by kernel_rfl) (by kernel_rfl) (fun _ _ _ h => h) (by rfl) ?yc13 (by assumption) ?rc13
          case yc13 => (intro w hSw; (try dsimp only at hSw); go_simp; (try with_reducible rfl))
          try simp only [Act.put, List.setIfInBounds_toArray, List.set_cons_zero, List.set_cons_succ]
          refine takeH14 (v := ?vc14) (by kernel_rfl) (by kernel_rfl) (by kernel_rfl) (fun _ _ _ h => h) (by rfl) ?yc14 (by assumption) ?rc14
          case yc14 => (intro w hSw; (try dsimp only at hSw); go_simp; (try with_reducible rfl))
          try simp only [Act.put, List.setIfInBounds_toArray, List.set_cons_zero, List.set_cons_succ]
          refine takeH15 (v := ?vc15) (by kernel_rfl) (by kernel_rfl) (by kernel_rfl) (fun _ _ _ h => h) (by rfl) ?yc15 (by assumption) ?rc15
          case yc15 => (intro w hSw; (try dsimp only at hSw); go_simp; (try with_reducible rfl))
          try simp only [Act.put, List.setIfInBounds_toArray, List.set_cons_zero, List.set_cons_succ]
          refine takeH16 (v := ?vc16) (by kernel_rfl) (by kernel_rfl) (by kernel_rfl) (fun _ _ _ h => h) (by rfl) ?yc16 (by assumption) ?rc16
          case yc16 => (intro w hSw; (try dsimp only at hSw); go_simp; (try with_reducible rfl))
          try simp only [Act.put, List.setIfInBounds_toArray, List.set_cons_zero, List.set_cons_succ]
          refine takeH17 (v := ?vc17) (by kernel_rfl) (by kernel_rfl) (by kernel_rfl) (fun _ _ _ h => h) (by rfl) ?yc17 (by assumption) ?rc17
          case yc17 => (intro w hSw; (try dsimp only at hSw); go_simp; (try with_reducible rfl))
          try simp only [Act.put, List.setIfInBounds_toArray, List.set_cons_zero, List.set_cons_succ]
          refine takeH18 (v := ?vc18) (by kernel_rfl) (by kernel_rfl) (by kernel_rfl) (fun _ _ _ h => h) (by rfl) ?yc18 (by assumption) ?rc18
          case yc18 => (intro w hSw; (try dsimp only at hSw); go_simp; (try with_reducible rfl))
          try simp only [Act.put, List.setIfInBounds_toArray, List.set_cons_zero, List.set_cons_succ]
          refine takeH19 (v := ?vc19) (by kernel_rfl) (by kernel_rfl) (by kernel_rfl) (fun _ _ _ h => h) (by rfl) ?yc19 (by assumption) ?rc19
          case yc19 => (intro w hSw; (try dsimp only at hSw); go_simp; (try with_reducible rfl))
          try simp only [Act.put, List.setIfInBounds_toArray, List.set_cons_zero, List.set_cons_succ]
          refine takeH20 (v := ?vc20) (by kernel_rfl) (by kernel_rfl) (by kernel_rfl) (fun _ _ _ h => h) (by rfl) ?yc20 (by assumption) ?rc20
          case yc20 => (intro w hSw; (try dsimp only at hSw); go_simp; (try with_reducible rfl))
          try simp only [Act.put, List.setIfInBounds_toArray, List.set_cons_zero, List.set_cons_succ]
          refine takeH21 (v := ?vc21) (by kernel_rfl) (by kernel_rfl) (by kernel_rfl) (fun _ _ _ h => h) (by rfl) ?yc21 (by assumption) ?rc21
          case yc21 => (intro w hSw; (try dsimp only at hSw); go_simp; (try with_reducible rfl))
          try simp only [Act.put, List.setIfInBounds_toArray, List.set_cons_zero, List.set_cons_succ]
          refine takeH22 (v := ?vc22) (by kernel_rfl) (by kernel_rfl) (by kernel_rfl) (fun _ _ _ h => h) (by rfl) ?yc22 (by assumption) ?rc22
          case yc22 => (intro w hSw; (try dsimp only at hSw); go_simp; (try with_reducible rfl))
          try simp only [Act.put, List.setIfInBounds_toArray, List.set_cons_zero, List.set_cons_succ]
          refine takeH23 (v := ?vc23) (by kernel_rfl) (by kernel_rfl) (by kernel_rfl) (fun _ _ _ h => h) (by rfl) ?yc23 (by assumption) ?rc23
          case yc23 => (intro w hSw; (try dsimp only at hSw); go_simp; (try with_reducible rfl))
          try simp only [Act.put, List.setIfInBounds_toArray, List.set_cons_zero, List.set_cons_succ]
          refine takeH24 (v := ?vc24) (by kernel_rfl) (by kernel_rfl) (by kernel_rfl) (fun _ _ _ h => h) (by rfl) ?yc24 (by assumption) ?rc24
          case yc24 => (intro w hSw; (try dsimp only at hSw); go_simp; (try with_reducible rfl))
          try simp only [Act.put, List.setIfInBounds_toArray, List.set_cons_zero, List.set_cons_succ]
          refine takeH25 (v := ?vc25) (by kernel_rfl) (by kernel_rfl) (by kernel_rfl) (fun _ _ _ h => h) (by rfl) ?yc25 (by assumption) ?rc25
          case yc25 => (intro w hSw; (try dsimp only at hSw); go_simp; (try with_reducible rfl))
          try simp only [Act.put, List.setIfInBounds_toArray, List.set_cons_zero, List.set_cons_succ]
          refine takeH26 (v := ?vc26) (by kernel_rfl) (by kernel_rfl) (by kernel_rfl) (fun _ _ _ h => h) (by rfl) ?yc26 (by assumption) ?rc26
          case yc26 => (intro w hSw; (try dsimp only at hSw); go_simp; (try with_reducible rfl))
          try simp only [Act.put, List.setIfInBounds_toArray, List.set_cons_zero, List.set_cons_succ]
          refine callH27 (by kernel_rfl) (fun K hK => ?_)
          first | (go_at_call 127; refine (FW.out _ hvH).mono ?_; rintro e xw ⟨rfl, hw⟩) | (go_simp; go_at_call 127; refine (FW.out _ hvH).mono ?_; rintro e xw ⟨rfl, hw⟩)
          refine hK.out _ _ hw (fun hwH => ?_)
          clear hK K
          try simp only [Act.put, List.setIfInBounds_toArray, List.set_cons_zero, List.set_cons_succ]
          refine takeH28 (v := ?vc28) (by kernel_rfl) (by kernel_rfl) (by kernel_rfl) (fun _ _ _ h => h) (by rfl) ?yc28 (by assumption) ?rc28
          case yc28 => (intro w hSw; (try dsimp only at hSw); go_simp; (try with_reducible rfl))
          try simp only [Act.put, List.setIfInBounds_toArray, List.set_cons_zero, List.set_cons_succ]
          refine takeH29 (v := ?vc29) (by kernel_rfl) (by kernel_rfl) (by kernel_rfl) (fun _ _ _ h => h) (by rfl) ?yc29 (by assumption) ?rc29
          case yc29 => (intro w hSw; (try dsimp only at hSw); go_simp; (try with_reducible rfl))
          try simp only [Act.put, List.setIfInBounds_toArray, List.set_cons_zero, List.set_cons_succ]
          refine wpAnyH_done (by kernel_rfl) ?_ _
          have B3 : Hid (Below w2.heap.size w2 xw) := HB.out.trans (hw.2.2.mono HB.out.size)
          clear hw hv
          clear FO FW HB g0 g3 g4 g5 o0 o1 o2 o3
          obtain ⟨al', bY, jY, e, _, _, g0, g1, g2, g3, g4, g5⟩ := (H2.out.below B3.out).atV HXX.out
          cases e
          obtain ⟨o0, o1, o2, o3⟩ := (OC2.out.below B3.out).all4
          have e1 : IntKind.i64.wrap (2 * cf) = 2 * cf := by have := HF.out; rw [IntKind.wrap_i64]; omega
          have e2 : IntKind.i64.wrap (2 * cf + 1) = 2 * cf + 1 := by have := HF.out; rw [IntKind.wrap_i64]; omega
          have e3 : IntKind.i64.wrap (x.v.tmod (2 * cf + 1)) = x.v.tmod (2 * cf + 1) := by have := HF.out; have := tmod_in x.v (2 * cf + 1) (by omega); rw [IntKind.wrap_i64]; omega
          have e4 : ¬ 2 * cf + 1 = 0 := by have := HF.out; omega
          go_upto_region 9 with fail
          by_cases hq : x.v.tmod (2 * cf + 1) = x.n
          case pos =>
            have HQ := Lib.hid hq
            have hb9 : (x.v.tmod (2 * cf + 1) == x.n) = true := beq_iff_eq.2 hq
            have hb8 : (x.v.tmod (2 * cf + 1) != x.n) = false := by rw [bne, hb9]; rfl
            have hb7 : decide (x.v.tmod (2 * cf + 1) = x.n) = true := decide_eq_true hq
            clear hq
            go_quiet (fail)
            clear hb9 hb8 hb7
            have B4 : Hid (Below w2.heap.size w2 (xw.drewN nq)) := Below.drewN B3.out nq
            generalize xw.drewN nq = w9 at B4 ⊢
            clear g0 g1 g2 g3 g4 g5 o0 o1 o2 o3 e1 e2 e3 e4
            have HE : Hid (okI Lt.n (Lt.mayA cf cr) cf self L k = true) := by
              unfold okI
              rw [HXX.out, HAH.out]
              show (voterF cf self ahead x.n && (Lt.mayA cf cr) x) = true
              rw [HBB.out, Bool.true_and]
              unfold Lt.mayA
              rw [HWB.out, Bool.true_and]
              rw [decide_eq_true HQ.out.symm, Bool.or_true]
            have hk2 : (k : Int) + 1 ≤ 6000000000001 := by have := HKN.out; omega
            obtain ⟨al', bY, jY, e, _, _, g0, g1, g2, g3, g4, g5⟩ := (H2.out.below B4.out).atV HXX.out
            cases e
            go_wp2_with fail
            go_roundw
            case rel => exact ⟨k + 1, HKN.out, by rw [HPV.out], by go_num, B4.out, fun i hi => by
              by_cases e : i = k
              · rw [e]; exact HE.out
              · exact HO.out i (by omega)⟩
            case measure => have := HKN.out; simp [intOf]; omega
          case neg =>
            have HQ := Lib.hid hq
            have hb9 : (x.v.tmod (2 * cf + 1) == x.n) = false := beq_eq_false_iff_ne.2 hq
            have hb8 : (x.v.tmod (2 * cf + 1) != x.n) = true := by rw [bne, hb9]; rfl
            have hb7 : decide (x.v.tmod (2 * cf + 1) = x.n) = false := decide_eq_false hq
            clear hq
            by_cases hl : x.log.length = 0
            case pos =>
              have HLZ := Lib.hid hl
              have d9 : decide ((0 : Int) < (x.log.length : Int)) = false := decide_eq_false (by omega)
              have d8 : decide (0 < x.log.length) = false := decide_eq_false (by omega)
              clear hl
              go_quiet (fail)
              clear d9 d8
              clear hb9 hb8 hb7
              have B4 : Hid (Below w2.heap.size w2 (xw.drewN nq)) := Below.drewN B3.out nq
              generalize xw.drewN nq = w9 at B4 ⊢
              clear g0 g1 g2 g3 g4 g5 o0 o1 o2 o3 e1 e2 e3 e4
              have HE : Hid (okI Lt.n (Lt.mayA cf cr) cf self L k = true) := by
                unfold okI
                rw [HXX.out, HAH.out]
                show (voterF cf self ahead x.n && (Lt.mayA cf cr) x) = true
                rw [HBB.out, Bool.true_and]
                unfold Lt.mayA
                rw [HWB.out, Bool.true_and]
                rw [decide_eq_true HLZ.out, Bool.true_or]
              have hk2 : (k : Int) + 1 ≤ 6000000000001 := by have := HKN.out; omega
              obtain ⟨al', bY, jY, e, _, _, g0, g1, g2, g3, g4, g5⟩ := (H2.out.below B4.out).atV HXX.out
              cases e
              go_wp2_with fail
              go_roundw
              case rel => exact ⟨k + 1, HKN.out, by rw [HPV.out], by go_num, B4.out, fun i hi => by
                by_cases e : i = k
                · rw [e]; exact HE.out
                · exact HO.out i (by omega)⟩
              case measure => have := HKN.out; simp [intOf]; omega
            case neg =>
              have HLZ := Lib.hid hl
              have d9 : decide ((0 : Int) < (x.log.length : Int)) = true := decide_eq_true (by omega)
              have d8 : decide (0 < x.log.length) = true := decide_eq_true (by omega)
              clear hl
              go_quiet (fail)
              clear d9 d8
              clear hb9 hb8 hb7
              have B4 : Hid (Below w2.heap.size w2 (xw.drewN nq)) := Below.drewN B3.out nq
              generalize xw.drewN nq = w9 at B4 ⊢
              clear g0 g1 g2 g3 g4 g5 o0 o1 o2 o3 e1 e2 e3 e4
              have HE : Hid (okI Lt.n (Lt.mayA cf cr) cf self L k = false) := by
                unfold okI
                rw [HXX.out, HAH.out]
                show (voterF cf self ahead x.n && (Lt.mayA cf cr) x) = false
                rw [HBB.out, Bool.true_and]
                unfold Lt.mayA
                rw [HWB.out, Bool.true_and]
                rw [decide_eq_false HLZ.out, decide_eq_false (fun e => HQ.out e.symm)]; rfl
              have HE2 : Hid (R = 80) := by rw [← HR.out]; exact chkR_one (i := k) HG.out (by have := HKN.out; have := HL.out; omega) HE.out
              go_wp2_with fail
              go_ret
              exact ⟨by rw [HE2.out]; exact rfl, BW2.out.trans (B4.out.mono BW2.out.size)⟩
    · obtain rfl : n = k := by omega
      have hki : ¬ (n : Int) < (n : Int) := by omega
      have HE : Hid (R = 0) := by rw [← HR.out]; exact chkR_all HG.out fun i hi => HO.out i (by have := HL.out; omega)
      clear hkn hk
      go_wp2_with fail
      go_ret
      exact ⟨by rw [HE.out]; exact rfl, BW2.out.trans (HB.out.mono BW2.out.size)⟩
end Go.Proofs.Ytjjobgolpedgeaa
set_option linter.unusedVariables false
set_option linter.unusedSimpArgs false
namespace Go.Proofs.Ytjjobgolpedgeaa
open Go.RowKit

set_option maxHeartbeats 1600000 in
theorem primary_any (f v : Int) (w : World) (h1 : 1 ≤ f) (h2 : f ≤ 3) : Calls Try.prog 130 #[.int .i64 f, .int .i64 v] w fun e w' => e = .returned (.int .i64 (prim f v)) ∧ w' = w := by
  have e1 : IntKind.i64.wrap (2 * f) = 2 * f := by rw [IntKind.wrap_i64]; omega
  have e2 : IntKind.i64.wrap (2 * f + 1) = 2 * f + 1 := by rw [IntKind.wrap_i64]; omega
  have ht := tmod_in v (2 * f + 1) (by omega)
  have e3 : IntKind.i64.wrap (v.tmod (2 * f + 1)) = v.tmod (2 * f + 1) := by rw [IntKind.wrap_i64]; omega
  have e4 : IntKind.i64.wrap (v.tmod (2 * f + 1) + (2 * f + 1)) = v.tmod (2 * f + 1) + (2 * f + 1) := by rw [IntKind.wrap_i64]; omega
  have e5 : ¬ 2 * f + 1 = 0 := by omega
  obtain ⟨R, hR⟩ : ∃ R, prim f v = R := ⟨_, rfl⟩
  have HR : Hid (v.tmod (2 * f + 1) % (2 * f + 1) = R) := by rw [← hR]; exact rfl
  rw [hR]
  have HT := Lib.hid ht
  clear hR ht
  obtain ⟨t, htt⟩ : ∃ t, v.tmod (2 * f + 1) = t := ⟨_, rfl⟩
  by_cases h0 : t < 0
  · have HE : Hid (R = t + (2 * f + 1)) := by rw [← HR.out, htt]; have := HT.out; rw [htt] at this; rw [← Int.add_emod_right]; exact Int.emod_eq_of_lt (by omega) (by omega)
    have HZ := Lib.hid htt
    rw [htt] at e3 e4
    go_enter Try.func130, Try.ntmps130
    go_wp2
    go_ret
    exact ⟨by rw [HE.out]; exact rfl, rfl⟩
  · have HE : Hid (R = t) := by rw [← HR.out, htt]; have := HT.out; rw [htt] at this; exact Int.emod_eq_of_lt (by omega) (by omega)
    have HZ := Lib.hid htt
    rw [htt] at e3 e4
    go_enter Try.func130, Try.ntmps130
    go_wp2
    go_ret
    exact ⟨by rw [HE.out]; exact rfl, rfl⟩
set_option maxHeartbeats 8000000 in
set_option maxRecDepth 100000 in
theorem refSettle_any (f : Int) (A : Option Addr) (n c : Nat) (L : List Bt) (lg : Bt → List Et) (w : World) (wf : (Lit.int .i64 f).wf = true) (h : RdC 6 Bt.cells w A n L) (hlg : ∀ r, r ∈ L → LgOk lg w r) (hsm : n * 64 ≤ 140737488355328) :
    Calls Try.prog 63 #[.int .i64 f, .slice A n c] w (OneB lg w (settleF f L)) := by
  have H := Lib.hid h
  have HSM := Lib.hid hsm
  have HLG := Lib.hid hlg
  have HL := Lib.hid h.len
  have bf := bounds_i64 wf
  clear h hsm hlg
  by_cases hbad : f < 1 ∨ 3 < f ∨ (n : Int) < f + 1
  · have hs : settleF f L = none := by unfold settleF; rw [if_pos (by rw [HL.out]; exact hbad)]
    rw [hs]
    clear hs
    rcases hbad with h1 | h1 | h1
    · go_enter Try.func63, Try.ntmps63
      go_wp2
      go_returns
      exact ⟨by go_grown, .inl ⟨rfl, rfl⟩⟩
    · have h2 : ¬ f < 1 := by omega
      go_enter Try.func63, Try.ntmps63
      go_wp2
      go_returns
      exact ⟨by go_grown, .inl ⟨rfl, rfl⟩⟩
    · by_cases h2 : f < 1
      · go_enter Try.func63, Try.ntmps63
        go_wp2
        go_returns
        exact ⟨by go_grown, .inl ⟨rfl, rfl⟩⟩
      · by_cases h3 : 3 < f
        · go_enter Try.func63, Try.ntmps63
          go_wp2
          go_returns
          exact ⟨by go_grown, .inl ⟨rfl, rfl⟩⟩
        · go_enter Try.func63, Try.ntmps63
          go_wp2
          go_returns
          exact ⟨by go_grown, .inl ⟨rfl, rfl⟩⟩
  · have hs : settleF f L = L.find? (setOk f (mxV (L.headD default).v L)) := by unfold settleF; rw [if_neg (by rw [HL.out]; exact hbad)]
    have HS := Lib.hid hs
    clear hs
    obtain ⟨h1, h2, h3⟩ : 1 ≤ f ∧ f ≤ 3 ∧ f + 1 ≤ (n : Int) := by omega
    obtain ⟨x0, hx0⟩ : ∃ x, L[0]? = some x := ⟨_, List.getElem?_eq_getElem (by have := HL.out; omega)⟩
    have HH : Hid ((L.headD default).v = x0.v) := by cases L with | nil => simp at hx0 | cons y t => simp at hx0; subst hx0; rfl
    obtain ⟨ad, rfl, g0, g1, g2, g3, g4, g5⟩ := H.out.atBt hx0
    simp only [Nat.zero_mul, Addr.add_zero'] at g0 g1 g2 g3 g4 g5
    have HX0 := Lib.hid hx0
    have lad : ad.block < w.heap.size := World.block_lt_of_cell? _ _ g0
    clear hbad hx0
    go_enter Try.func63, Try.ntmps63
    go_wp2_with fail
    have OB := Lib.hid (Ob.fresh w #[.int .i64 0, .int .u64 0, .int .u64 0, .int .i64 0, .int .i64 0, .slice none 0 0] 38)
    have B1 : Hid (Below w.heap.size w (w.alloc (.cells #[.int .i64 0, .int .u64 0, .int .u64 0, .int .i64 0, .int .i64 0, .slice none 0 0] 38))) := (Below.refl _ _).alloc (Nat.le_refl _) _
    have Z1 : Hid (w.heap.size < (w.alloc (.cells #[.int .i64 0, .int .u64 0, .int .u64 0, .int .i64 0, .int .i64 0, .slice none 0 0] 38)).heap.size) := by simp only [Hid, World.size_alloc]; omega
    obtain ⟨b, hb⟩ : ∃ b, w.heap.size = b := ⟨_, rfl⟩
    rw [hb] at OB Z1 ⊢
    have HB := Lib.hid hb
    generalize w.alloc (.cells #[.int .i64 0, .int .u64 0, .int .u64 0, .int .i64 0, .int .i64 0, .slice none 0 0] 38) = w1 at OB B1 Z1 ⊢
    clear hb lad g0 g1 g2 g3 g4 g5
    go_loopw [6, 7] (fun vv iv wr => ∃ (k : Nat), k ≤ n ∧ iv = .int .i64 k ∧ vv = .int .i64 (mxV x0.v (L.take k)) ∧ w1 = wr) (fun _ iv _ => n - (intOf iv).toNat)
    case atStart => exact ⟨0, by omega, rfl, rfl, rfl⟩
    case round =>
      obtain ⟨k, hk, rfl, rfl, rfl⟩ := hrel
      by_cases hkn : k < n
      · obtain ⟨x, hx⟩ : ∃ x, L[k]? = some x := ⟨_, List.getElem?_eq_getElem (by have := HL.out; omega)⟩
        obtain ⟨ad', e, g0, g1, g2, g3, g4, g5⟩ := (H.out.below B1.out).atBt hx
        cases e
        have hki : (k : Int) < (n : Int) := by omega
        have hk2 : (k : Int) + 1 ≤ 6000000000000 := by have := HSM.out; omega
        have HKN := Lib.hid hkn
        have HMX : Hid (mxV x0.v (L.take (k + 1)) = max (mxV x0.v (L.take k)) x.v) := by rw [take_next hx]; exact mxV_push _ _ _
        obtain ⟨mv, hmv⟩ : ∃ mv, mxV x0.v (L.take k) = mv := ⟨_, rfl⟩
        rw [hmv] at HMX ⊢
        clear hx hkn hk hmv
        by_cases hlt : mv < x.v
        · have HMZ : Hid (mxV x0.v (L.take (k + 1)) = x.v) := by rw [HMX.out]; simp only [Hid]; omega
          go_wp2_with fail
          go_roundw
          case rel => exact ⟨k + 1, HKN.out, by go_num, by rw [HMZ.out], by trivial⟩
          case measure => have := HKN.out; simp [intOf]; omega
        · have HMZ : Hid (mxV x0.v (L.take (k + 1)) = mv) := by rw [HMX.out]; simp only [Hid]; omega
          go_wp2_with fail
          go_roundw
          case rel => exact ⟨k + 1, HKN.out, by go_num, by rw [HMZ.out], by trivial⟩
          case measure => have := HKN.out; simp [intOf]; omega
      · obtain rfl : k = n := by omega
        have hki : ¬ (k : Int) < (k : Int) := by omega
        have HV : Hid (mxV x0.v (L.take k) = mxV (L.headD default).v L) := by rw [HH.out, List.take_of_length_le (Nat.le_of_eq HL.out)]; exact rfl
        rw [HV.out]
        obtain ⟨vw, hvw⟩ : ∃ x, mxV (L.headD default).v L = x := ⟨_, rfl⟩
        have HS2 : Hid (settleF f L = L.find? (setOk f vw)) := by rw [HS.out, hvw]; exact rfl
        rw [hvw]
        clear hvw HS HV HH HX0 hkn hk
        have PF := Lib.hid (fun y => primary_any f vw y h1 h2)
        go_wp2_with fail
        go_loopw [8] (fun iv wr2 => ∃ (j : Nat), j ≤ k ∧ iv = .int .i64 j ∧ Hid (∃ q, wr2 = w1.drewN q) ∧ Hid (∀ i x, i < j → L[i]? = some x → setOk f vw x = false)) (fun iv _ => k - (intOf iv).toNat)
        case atStart => exact ⟨0, by omega, rfl, ⟨0, rfl⟩, fun i x hi => by omega⟩
        case round =>
          obtain ⟨j, hj, rfl, HD, HP⟩ := hrel
          have HR2 : Hid (Below w1.heap.size w1 wr) := by obtain ⟨q, hq⟩ := HD.out; rw [hq]; exact Below.drewN (Below.refl _ _) q
          by_cases hjk : j < k
          · obtain ⟨x, hx⟩ : ∃ x, L[j]? = some x := ⟨_, List.getElem?_eq_getElem (by have := HL.out; omega)⟩
            obtain ⟨ad', e, g0, g1, g2, g3, g4, g5⟩ := (H.out.below (B1.out.trans (HR2.out.mono B1.out.size))).atBt hx
            cases e
            have hji : (j : Int) < (k : Int) := by omega
            have hj2 : (j : Int) + 1 ≤ 6000000000000 := by have := HSM.out; omega
            have HXX := Lib.hid hx
            have HJK := Lib.hid hjk
            clear hx hjk hj
            go_upto_region 12 with fail
            obtain ⟨bb, hbb⟩ : ∃ bb, (x.v == vw) = bb := ⟨_, rfl⟩
            cases bb with
            | false =>
              have HBB := Lib.hid hbb
              go_quiet (fail)
              clear g0 g1 g2 g3 g4 g5 hbb
              go_wp2_with fail
              go_roundw
              case rel =>
                obtain ⟨q, hq⟩ := HD.out
                exact ⟨j + 1, HJK.out, by go_num, ⟨q + nq, by rw [hq, World.drewN_drewN]⟩, fun i y hi hy => by
                  by_cases e : i = j
                  · subst e; rw [HXX.out] at hy; cases hy; simp only [setOk, HBB.out, Bool.false_and]
                  · exact HP.out i y (by omega) hy⟩
              case measure => have := HJK.out; simp [intOf]; omega
            | true =>
              have HBB := Lib.hid hbb
              have Q : Hid (∀ nq, Calls Try.prog 130 #[.int .i64 f, .int .i64 vw] (wr.drewN nq) fun e w' => e = .returned (.int .i64 (prim f vw)) ∧ w' = wr.drewN nq) := fun nq => PF.out _
              go_quiet ((go_at_call 130; (with_reducible exact Calls.quiet_of_same (Q.out _))))
              have HY : Hid (Below w1.heap.size w1 (wr.drewN nq)) := Below.drewN HR2.out _
              have HD4 : Hid (∃ q, wr.drewN nq = w1.drewN q) := by obtain ⟨q, hq⟩ := HD.out; exact ⟨q + nq, by rw [hq, World.drewN_drewN]⟩
              generalize wr.drewN nq = w4 at HY HD4 ⊢
              clear g0 g1 g2 g3 g4 g5 hbb Q
              obtain ⟨cc, hcc⟩ : ∃ cc, (x.n == prim f vw) = cc := ⟨_, rfl⟩
              rw [hcc]
              cases cc with
              | false =>
                have HCC := Lib.hid hcc
                clear hcc
                go_wp2_with fail
                go_roundw
                case rel => exact ⟨j + 1, HJK.out, by go_num, HD4.out, fun i y hi hy => by
                  by_cases e : i = j
                  · subst e; rw [HXX.out] at hy; cases hy; simp only [setOk, HCC.out, Bool.and_false]
                  · exact HP.out i y (by omega) hy⟩
                case measure => have := HJK.out; simp [intOf]; omega
              | true =>
                have HCC : Hid (setOk f vw x = true) := by simp only [Hid, setOk, hcc, HBB.out, Bool.and_true]
                clear hcc
                have HFD : Hid (settleF f L = some x) := by rw [HS2.out]; exact find_at HXX.out HCC.out HP.out
                have B4 : Hid (Below w.heap.size w w4) := B1.out.trans (HY.out.mono B1.out.size)
                have OB4 := Lib.hid (OB.out.below HY.out)
                have ZB : Hid (b < w4.heap.size) := OB4.out.lt (by simp)
                obtain ⟨ad', e, g0, g1, g2, g3, g4, g5⟩ := (H.out.below B4.out).atBt HXX.out
                cases e
                have zz := ZB.out
                go_wp2_with fail
                have OX := Lib.hid (Ob.fresh w4 #[.int .i64 x.n, .int .u64 (x.h : Nat), .int .u64 (x.l : Nat), .int .i64 x.v, .int .i64 x.c, .slice x.A x.m x.k] 38)
                have BX : Hid (Below w4.heap.size w4 (w4.alloc (.cells #[.int .i64 x.n, .int .u64 (x.h : Nat), .int .u64 (x.l : Nat), .int .i64 x.v, .int .i64 x.c, .slice x.A x.m x.k] 38))) := below_al _ _
                have SX : Hid ((w4.alloc (.cells #[.int .i64 x.n, .int .u64 (x.h : Nat), .int .u64 (x.l : Nat), .int .i64 x.v, .int .i64 x.c, .slice x.A x.m x.k] 38)).heap.size = w4.heap.size + 1) := by simp [Hid]
                generalize w4.alloc (.cells #[.int .i64 x.n, .int .u64 (x.h : Nat), .int .u64 (x.l : Nat), .int .i64 x.v, .int .i64 x.c, .slice x.A x.m x.k] 38) = w5 at OX BX SX ⊢
                obtain ⟨r, hr⟩ : ∃ r, w4.heap.size = r := ⟨_, rfl⟩
                rw [hr] at OX SX ZB ⊢
                have HRR := Lib.hid hr
                clear hr zz g0 g1 g2 g3 g4 g5
                have HL0 := HLG.out x (List.mem_of_getElem? HXX.out)
                have BW5 : Hid (Below w.heap.size w w5) := B4.out.trans (BX.out.mono B4.out.size)
                refine (refCopy_any x.A x.m x.k (lg x) _ (HL0.1.below BW5.out) HL0.2.1 HL0.2.2).mono ?_
                rintro e x5 ⟨fA, fk, rfl, hb5, hof⟩
                have B5 : Hid (Below w.heap.size w x5) := BW5.out.trans (hb5.mono BW5.out.size)
                have OB5 := Lib.hid ((OB4.out.below BX.out).below hb5)
                have OX5 := Lib.hid (OX.out.below hb5)
                have HOF := Lib.hid hof
                have HBR : Hid (b ≠ r) := by have := ZB.out; simp only [Hid]; omega
                clear HL0 hb5 hof
                obtain ⟨p0, p1, p2, p3, p4, p5⟩ := OX5.out.all6
                have fr := OX5.out.fr 5 (by simp)
                have zr := OX5.out.lt (by simp)
                have OBS := Lib.hid (OB5.out.setOther (a := ⟨r, 5, none⟩) (.slice fA x.m fk) (by have := HBR.out; simp only; omega))
                have OXS := Lib.hid (OX5.out.set 5 (by simp) (.slice fA x.m fk))
                have BZS : Hid (Below w.heap.size w (x5.setCell ⟨r, 5, none⟩ (.slice fA x.m fk))) := B5.out.setCell (by have := HRR.out; have := B4.out.size; show _ ≤ r; omega) _
                have HOS : Hid ((x5.setCell ⟨r, 5, none⟩ (.slice fA x.m fk)).ownsRow (r + 1) 156 5 (.slice fA x.m fk) x.m (CL Et.cells (lg x))) := by rw [← SX.out]; exact ownsRow_setCell_below HOF.out (by rw [SX.out]; show r < r + 1; omega) _
                go_upto_region 15 with fail
                generalize x5.setCell ⟨r, 5, none⟩ (.slice fA x.m fk) = x6 at OBS OXS BZS HOS ⊢
                clear p0 p1 p2 p3 p4 p5 fr zr OX5 OB5 B5 HOF
                obtain ⟨q0, q1, q2, q3, q4, q5⟩ := OXS.out.all6
                obtain ⟨p0, p1, p2, p3, p4, p5⟩ := OBS.out.all6
                obtain ⟨f0, f1, f2, f3, f4, f5⟩ := OBS.out.fro6
                go_wp2_with fail
                have R0 := ((((((OBS.out.set 0 (by simp) (.int .i64 x.n)).set 1 (by simp) (.int .u64 (x.h : Nat))).set 2 (by simp) (.int .u64 (x.l : Nat))).set 3 (by simp) (.int .i64 x.v)).set 4 (by simp) (.int .i64 x.c)).set 5 (by simp) (.slice fA x.m fk))
                (try simp only [Exit.inBlock, Exit.then])
                refine ret_cells Try.results63 (b := b) Try.underlying38 (by kernel_rfl) rfl rfl R0 rfl ?_
                refine ⟨?_, .inr ⟨x, fA, fk, HFD.out, rfl, ?_⟩⟩
                · rw [HB.out] at BZS ⊢
                  exact ((((((BZS.out.setCell (by simp) _).setCell (by simp) _).setCell (by simp) _).setCell (by simp) _).setCell (by simp) _).setCell (by simp) _)
                · have hlt := ZB.out
                  have hwb : w.heap.size = b := HB.out
                  refine own_mono (B' := r + 1) ?_ (by omega)
                  exact (((((ownsRow_setCell_below HOS.out (by simp only; omega) _ |> (ownsRow_setCell_below · (by simp only; omega) _)) |> (ownsRow_setCell_below · (by simp only; omega) _)) |> (ownsRow_setCell_below · (by simp only; omega) _)) |> (ownsRow_setCell_below · (by simp only; omega) _)) |> (ownsRow_setCell_below · (by simp only; omega) _))
          · obtain rfl : j = k := by omega
            have hji : ¬ (j : Int) < (j : Int) := by omega
            have HFD : Hid (settleF f L = none) := by
              rw [HS2.out]
              exact List.find?_eq_none.2 fun x hx => by
                obtain ⟨i, hi⟩ := List.getElem?_of_mem hx
                have := HP.out i x (by have := (List.getElem?_eq_some_iff.1 hi).1; have := HL.out; omega) hi
                simp [this]
            have OBR := Lib.hid (OB.out.below HR2.out)
            obtain ⟨p0, p1, p2, p3, p4, p5⟩ := OBR.out.all6
            obtain ⟨f0, f1, f2, f3, f4, f5⟩ := OBR.out.fro6
            go_wp2_with fail
            have R0 := ((((((OBR.out.set 0 (by simp) (.int .i64 0)).set 1 (by simp) (.int .u64 0)).set 2 (by simp) (.int .u64 0)).set 3 (by simp) (.int .i64 0)).set 4 (by simp) (.int .i64 0)).set 5 (by simp) (.slice none 0 0))
            (try simp only [Exit.inBlock, Exit.then])
            refine ret_cells Try.results63 (b := b) Try.underlying38 (by kernel_rfl) rfl rfl R0 rfl ?_
            refine ⟨?_, .inl ⟨HFD.out, rfl⟩⟩
            have B5 : Hid (Below w.heap.size w wr) := B1.out.trans (HR2.out.mono B1.out.size)
            rw [HB.out] at B5 ⊢
            exact ((((((B5.out.setCell (by simp) _).setCell (by simp) _).setCell (by simp) _).setCell (by simp) _).setCell (by simp) _).setCell (by simp) _)
theorem refSettle_v (f : Int) (A : Option Addr) (n c : Nat) (V : List Lt) (w : World) (wf : (Lit.int .i64 f).wf = true) (h : RdV w A n V) (hsm : n * 64 ≤ 140737488355328) :
    Calls Try.prog 63 #[.int .i64 f, .slice A n c] w (OneV w (settleV f V)) := by
  obtain ⟨R, h1, h2, h3⟩ := h.raws
  refine (refSettle_any f A n c R (lgAt w) w wf h1 h2 hsm).mono fun e w' h => ?_
  rw [← h3, ← settle_map]
  obtain ⟨hb, h⟩ := h
  refine ⟨hb, ?_⟩
  rcases h with ⟨hr, he⟩ | ⟨x, B, k, hr, he, ho⟩
  · exact .inl ⟨by rw [hr]; rfl, he⟩
  · have hx : x ∈ R := by
      unfold settleF at hr
      split at hr
      · cases hr
      · exact List.mem_of_find?_eq_some hr
    have hl := (h2 x hx).1.len
    refine .inr ⟨x.abs (lgAt w), B, k, by rw [hr]; rfl, ?_, okL_own ho hl (h2 x hx).2.2⟩
    rw [he]
    simp only [Bt.agg, Lt.agg, Bt.abs, hl]
end Go.Proofs.Ytjjobgolpedgeaa
set_option linter.unusedVariables false
set_option linter.unusedSimpArgs false
namespace Go.Proofs.Ytjjobgolpedgeaa
open Go.RowKit

theorem Lnk.same {V : List Lt} {n : Nat} {R : List Bt} {xs ys : List GE} {a b : GE} {L : List Et} {k : Nat} (h : Lnk V n R xs ys) (hl : V.length = n) (h1 : a.bs = L) (h2 : b.bs = L) (h3 : a.n = k) (h4 : b.n = k) : ∀ (j : Nat) (x y : GE), (xs ++ [a])[j]? = some x → (ys ++ [b])[j]? = some y → x.bs = y.bs ∧ x.n = y.n := by
  intro j x y hx hy
  by_cases hj : j < n
  · rw [List.getElem?_append_left (by rw [h.x]; exact hj)] at hx
    rw [List.getElem?_append_left (by rw [h.y]; exact hj)] at hy
    obtain ⟨a', b', q1, q2, _, q4, q5, q6, q7⟩ := h.at_ j V[j] hj (List.getElem?_eq_getElem (by omega))
    rw [q1] at hx
    rw [q2] at hy
    cases hx
    cases hy
    exact ⟨by rw [q4, q5], by rw [q6, q7]⟩
  · have e : j = n := by have := (List.getElem?_eq_some_iff.1 hx).1; rw [List.length_append, h.x] at this; simp at this; omega
    subst e
    rw [List.getElem?_append_right (Nat.le_of_eq h.x), h.x, Nat.sub_self] at hx
    rw [List.getElem?_append_right (Nat.le_of_eq h.y), h.y, Nat.sub_self] at hy
    cases hx
    cases hy
    exact ⟨by rw [h1, h2], by rw [h3, h4]⟩
theorem RdC.lt {α : Type} {size : Nat} {cells : α → List Value} {w : World} {ad : Addr} {n : Nat} {l : List α} {A : Option Addr} (h : RdC (size + 1) cells w A n l) (hn : 0 < n) (e : A = some ad) (hc : ∀ x : α, ∃ u, (cells x)[0]? = some u := by intro x; exact ⟨_, rfl⟩) : ad.block < w.heap.size := by
  obtain ⟨x, hx⟩ : ∃ x, l[0]? = some x := ⟨_, List.getElem?_eq_getElem (by rw [h.len]; exact hn)⟩
  obtain ⟨ad', e', hcl⟩ := h.cell 0 x hx
  obtain ⟨u, hu⟩ := hc x
  have := World.block_lt_of_cell? w _ (hcl 0 u hu)
  rw [e] at e'
  cases e'
  rwa [add_block] at this
set_option maxRecDepth 100000 in
set_option maxHeartbeats 32000000 in
theorem tallyAnswers_v (c : Cg) (self : Int) (A : Option Addr) (n cp : Nat) (V : List Lt) (v : Lt) (D : Option Addr) (kv : Nat) (B : Option Addr) (m d : Nat) (U : List Dw) (W : World) (wf : (Lit.int .i64 c.f).wf = true) (h : RdVc W A n V) (hA : A = none → n = 0 ∧ cp = 0) (hwf : ∀ x ∈ V, ∀ y ∈ x.log, (Lit.int .i64 y.n).wf = true) (hls : ∀ x ∈ V, x.log.length * 48 ≤ 140737488351232) (hsm : n * 64 ≤ 140737488351232)
    (hx : OkL W D kv v.log) (hxs : v.log.length * 48 ≤ 140737488351232) (hv : RdC 2 Dw.cells W B m U) (hB : B = none → m = 0 ∧ d = 0) (hsv : m * 16 ≤ 140737488351232) :
    Calls Try.prog 14 #[c.agg, .int .i64 self, .slice A n cp, v.agg D kv, .slice B m d] W fun e w' => e = .returned (.bool true) ∧ Below W.heap.size W w' := by
  obtain ⟨cf, cr, cpp, cu⟩ := c
  have HWF : Hid ((Lit.int .i64 cf).wf = true) := wf
  have H := Lib.hid h
  have HA := Lib.hid hA
  have HL := Lib.hid h.len
  have HEW := Lib.hid hwf
  have HLS := Lib.hid hls
  have HSM := Lib.hid hsm
  have HX := Lib.hid hx
  have HXS := Lib.hid hxs
  have HV := Lib.hid hv
  have HB := Lib.hid hB
  have HVL := Lib.hid hv.len
  have HSV := Lib.hid hsv
  have hn : (n : Int) ≤ 6000000000000 := by omega
  clear wf h hA hwf hls hsm hx hxs hv hB hsv
  go_enter Try.func14, Try.ntmps14
  go_wp2_with fail
  have OC := Lib.hid (((Ob.fresh W #[.int .i64 cf, .int .i64 cr, .int .i64 cpp, .bool cu] 70).alloc (.cells #[.int .i64 v.n, .int .u64 (v.h : Nat), .int .u64 (v.l : Nat), .int .i64 v.v, .int .i64 v.c, .slice D v.log.length kv] 38)).alloc (.cells #[.slice none 0 0, .slice none 0 0, .slice none 0 0, .slice none 0 0, .slice none 0 0, .slice none 0 0, .slice none 0 0, .slice none 0 0, .slice none 0 0, .slice none 0 0] 77))
  have OM : Hid (Ob (((W.alloc (.cells #[.int .i64 cf, .int .i64 cr, .int .i64 cpp, .bool cu] 70)).alloc (.cells #[.int .i64 v.n, .int .u64 (v.h : Nat), .int .u64 (v.l : Nat), .int .i64 v.v, .int .i64 v.c, .slice D v.log.length kv] 38)).alloc (.cells #[.slice none 0 0, .slice none 0 0, .slice none 0 0, .slice none 0 0, .slice none 0 0, .slice none 0 0, .slice none 0 0, .slice none 0 0, .slice none 0 0, .slice none 0 0] 77)) (W.heap.size + 1) [.int .i64 v.n, .int .u64 (v.h : Nat), .int .u64 (v.l : Nat), .int .i64 v.v, .int .i64 v.c, .slice D v.log.length kv]) := by
    have h := (Ob.fresh (W.alloc (.cells #[.int .i64 cf, .int .i64 cr, .int .i64 cpp, .bool cu] 70)) #[.int .i64 v.n, .int .u64 (v.h : Nat), .int .u64 (v.l : Nat), .int .i64 v.v, .int .i64 v.c, .slice D v.log.length kv] 38).alloc (.cells #[.slice none 0 0, .slice none 0 0, .slice none 0 0, .slice none 0 0, .slice none 0 0, .slice none 0 0, .slice none 0 0, .slice none 0 0, .slice none 0 0, .slice none 0 0] 77)
    rw [World.size_alloc] at h
    exact h
  have OG : Hid (Ob (((W.alloc (.cells #[.int .i64 cf, .int .i64 cr, .int .i64 cpp, .bool cu] 70)).alloc (.cells #[.int .i64 v.n, .int .u64 (v.h : Nat), .int .u64 (v.l : Nat), .int .i64 v.v, .int .i64 v.c, .slice D v.log.length kv] 38)).alloc (.cells #[.slice none 0 0, .slice none 0 0, .slice none 0 0, .slice none 0 0, .slice none 0 0, .slice none 0 0, .slice none 0 0, .slice none 0 0, .slice none 0 0, .slice none 0 0] 77)) (W.heap.size + 1 + 1) nil10) := by
    have h := Ob.fresh ((W.alloc (.cells #[.int .i64 cf, .int .i64 cr, .int .i64 cpp, .bool cu] 70)).alloc (.cells #[.int .i64 v.n, .int .u64 (v.h : Nat), .int .u64 (v.l : Nat), .int .i64 v.v, .int .i64 v.c, .slice D v.log.length kv] 38)) #[.slice none 0 0, .slice none 0 0, .slice none 0 0, .slice none 0 0, .slice none 0 0, .slice none 0 0, .slice none 0 0, .slice none 0 0, .slice none 0 0, .slice none 0 0] 77
    rw [World.size_alloc, World.size_alloc] at h
    exact h
  have BW : Hid (Below W.heap.size W (((W.alloc (.cells #[.int .i64 cf, .int .i64 cr, .int .i64 cpp, .bool cu] 70)).alloc (.cells #[.int .i64 v.n, .int .u64 (v.h : Nat), .int .u64 (v.l : Nat), .int .i64 v.v, .int .i64 v.c, .slice D v.log.length kv] 38)).alloc (.cells #[.slice none 0 0, .slice none 0 0, .slice none 0 0, .slice none 0 0, .slice none 0 0, .slice none 0 0, .slice none 0 0, .slice none 0 0, .slice none 0 0, .slice none 0 0] 77))) := ((below_al _ _).alloc (by simp) _).alloc (by simp; omega) _
  generalize (((W.alloc (.cells #[.int .i64 cf, .int .i64 cr, .int .i64 cpp, .bool cu] 70)).alloc (.cells #[.int .i64 v.n, .int .u64 (v.h : Nat), .int .u64 (v.l : Nat), .int .i64 v.v, .int .i64 v.c, .slice D v.log.length kv] 38)).alloc (.cells #[.slice none 0 0, .slice none 0 0, .slice none 0 0, .slice none 0 0, .slice none 0 0, .slice none 0 0, .slice none 0 0, .slice none 0 0, .slice none 0 0, .slice none 0 0] 77)) = w1 at OC OM OG BW ⊢
  obtain ⟨r5, hr5⟩ : ∃ r, W.heap.size = r := ⟨_, rfl⟩
  rw [hr5] at OC OM OG ⊢
  obtain ⟨r8, hr8⟩ : ∃ r, r5 + 1 = r := ⟨_, rfl⟩
  rw [hr8] at OM OG ⊢
  obtain ⟨g, hg⟩ : ∃ r, r8 + 1 = r := ⟨_, rfl⟩
  rw [hg] at OG ⊢
  have HGW : Hid (W.heap.size ≤ g ∧ r5 ≠ g ∧ r8 ≠ g) := by simp only [Hid]; omega
  have HWR : Hid (W.heap.size ≤ r5 ∧ W.heap.size ≤ r8) := by simp only [Hid]; omega
  have HR5 : Hid (r5 < w1.heap.size ∧ r8 < w1.heap.size) := ⟨OC.out.lt (by simp), OM.out.lt (by simp)⟩
  clear hr5 hr8 hg
  refine (lentAnswers_any W g A n cp V w1 (GvE.start OG.out) BW.out HGW.out.1 H.out.rdV (by have := HSM.out; omega) (fun x hx => by have := HLS.out x hx; omega)).mono ?_
  rintro e w2 ⟨go, gc, G, q, G', q', xs, ys, R, rfl, hroom, hgv, hch, hro, hln, hgo, hgn0, hgn1, hb0, hb1⟩
  have HROOM := Lib.hid hroom
  have GV := Lib.hid hgv
  have RO := Lib.hid hro
  have LN := Lib.hid hln
  have GO : Hid (w1.heap.size ≤ go ∧ some go ≠ (Value.slice G xs.length q).ownBlock ∧ some go ≠ (Value.slice G' ys.length q').ownBlock) := ⟨hgo, hgn0, hgn1⟩
  have GB : Hid ((∀ j, (Value.slice G xs.length q).ownBlock = some j → w1.heap.size ≤ j ∧ j < w2.heap.size) ∧ ∀ j, (Value.slice G' ys.length q').ownBlock = some j → w1.heap.size ≤ j ∧ j < w2.heap.size) := ⟨fun j e => ⟨hb0 j e, (hgv.o0.lt j e).2⟩, fun j e => ⟨hb1 j e, (hgv.o1.lt j e).2⟩⟩
  have LB0 : Hid ((∀ z ∈ xs, ∀ ad, z.A = some ad → ad.block < w2.heap.size) ∧ ∀ z ∈ ys, ∀ ad, z.A = some ad → ad.block < w2.heap.size) := ⟨fun z hz ad e => ((hgv.e0 z hz).2.2.2 ad e).2.1, fun z hz ad e => ((hgv.e1 z hz).2.2.2 ad e).2.1⟩
  have HGG : Hid (g < w1.heap.size) := OG.out.lt (by simp)
  have GON : Hid (go ≠ g) := by have := HGG.out; have := GO.out.1; simp only [Hid]; omega
  have GOL0 : Hid (go < w2.heap.size) := hro.lt (by omega) rfl
  have SZ2 : Hid (w1.heap.size ≤ w2.heap.size) := hch.size
  replace OC := Lib.hid (OC.out.chg hch HGW.out.2.1)
  replace OM := Lib.hid (OM.out.chg hch HGW.out.2.2)
  replace BW : Hid (Below W.heap.size W w2) := BW.out.trans (below_chg hch (fun j e => by subst e; exact HGW.out.1) BW.out.size)
  clear hroom hgv hro hln hgo hgn0 hgn1 hb0 hb1 hch OG
  go_wp2_with fail
  refine (givenVectorE_any _ _ g B m d U _ GV.out.ob (HV.out.below BW.out) HB.out (by have := HSV.out; omega)).mono ?_
  rintro e w3 ⟨b, bc, d1, d2, e1, e2, A5, c5, rfl, hch, hbb, hgv, hd1, hd2, hA5⟩
  have VV := Lib.hid hgv
  have VL : Hid (b.block < w3.heap.size ∧ d1.block < w3.heap.size ∧ d2.block < w3.heap.size ∧ ∀ ad, A5 = some ad → ad.block < w3.heap.size) := ⟨hgv.r1.lt (by omega) rfl, World.block_lt_of_cell? w3 _ hgv.c1, World.block_lt_of_cell? w3 _ hgv.c2, fun ad e => hgv.r2.lt (by omega) e⟩
  have VB : Hid (w2.heap.size ≤ b.block ∧ w2.heap.size ≤ d1.block ∧ w2.heap.size ≤ d2.block ∧ ∀ ad, A5 = some ad → w2.heap.size ≤ ad.block) := ⟨hbb, hd1, hd2, hA5⟩
  have SZ3 : Hid (w2.heap.size ≤ w3.heap.size) := hch.size
  replace GV := Lib.hid (GV.out.vec hch hgv.ob)
  replace OC := Lib.hid (OC.out.chg hch HGW.out.2.1)
  replace OM := Lib.hid (OM.out.chg hch HGW.out.2.2)
  replace RO := Lib.hid (RO.out.chg hch (fun ad e => by cases e; exact GON.out))
  replace BW : Hid (Below W.heap.size W w3) := BW.out.trans (below_chg hch (fun j e => by subst e; exact HGW.out.1) BW.out.size)
  clear hch hbb hgv hd1 hd2 hA5
  obtain ⟨q0, q1, q2, q3, q4, q5⟩ := OM.out.all6
  go_upto_region 5 with fail
  clear q0 q1 q2 q3 q4 q5
  have O1 := Lib.hid (Ob.fresh w3 #[.int .i64 v.n, .int .u64 (v.h : Nat), .int .u64 (v.l : Nat), .int .i64 v.v, .int .i64 v.c, .slice D v.log.length kv] 38)
  have BA : Hid (Below w3.heap.size w3 (w3.alloc (.cells #[.int .i64 v.n, .int .u64 (v.h : Nat), .int .u64 (v.l : Nat), .int .i64 v.v, .int .i64 v.c, .slice D v.log.length kv] 38))) := below_al _ _
  have SZ4 : Hid ((w3.alloc (.cells #[.int .i64 v.n, .int .u64 (v.h : Nat), .int .u64 (v.l : Nat), .int .i64 v.v, .int .i64 v.c, .slice D v.log.length kv] 38)).heap.size = w3.heap.size + 1) := by simp [Hid]
  generalize w3.alloc (.cells #[.int .i64 v.n, .int .u64 (v.h : Nat), .int .u64 (v.l : Nat), .int .i64 v.v, .int .i64 v.c, .slice D v.log.length kv] 38) = w4 at O1 BA SZ4 ⊢
  obtain ⟨r14, hr14⟩ : ∃ r, w3.heap.size = r := ⟨_, rfl⟩
  rw [hr14] at O1 SZ4 ⊢
  have H14 := Lib.hid hr14
  clear hr14
  have GOL : Hid (go < w3.heap.size) := Nat.lt_of_lt_of_le GOL0.out SZ3.out
  have HWZ : Hid (W.heap.size ≤ w3.heap.size) := BW.out.size
  replace GV := Lib.hid (GV.out.below BA.out)
  replace OC := Lib.hid (OC.out.below BA.out)
  replace OM := Lib.hid (OM.out.below BA.out)
  replace RO := Lib.hid (RO.out.below BA.out)
  replace BW := Lib.hid (BW.out.trans (BA.out.mono BW.out.size))
  have T1 := Lib.hid ((BA.out.cell (World.block_lt_of_cell? w3 _ VV.out.c1)).trans VV.out.c1)
  have T2 := Lib.hid ((BA.out.cell (World.block_lt_of_cell? w3 _ VV.out.c2)).trans VV.out.c2)
  have T3 := Lib.hid (VV.out.r1.below BA.out)
  have T4 := Lib.hid (VV.out.r2.below BA.out)
  clear BA VV
  obtain ⟨q0, q1, q2, q3, q4, q5⟩ := OM.out.all6
  go_wp2_with fail
  clear q0 q1 q2 q3 q4 q5
  refine (gentries_any g _ _ G q G' q' xs ys w4 GV.out (by rw [LN.out.x]; have := HSM.out; omega) (by rw [LN.out.y]; have := HSM.out; omega) D v.log.length kv v.log (HX.out.rd.below BW.out) HX.out.non (by have := HXS.out; omega)).mono ?_
  rintro e w5 ⟨G1, z1, G1', z1', a, b2, rfl, hgv, ha, hb, hna, hnb, hch, hk0, hk1, hfa, hfb⟩
  have ND : Hid (∀ j, j = g ∨ some j = (Value.slice G xs.length q).ownBlock ∨ some j = (Value.slice G' ys.length q').ownBlock → j ≠ r5 ∧ j ≠ r8 ∧ j ≠ r14 ∧ j ≠ go ∧ W.heap.size ≤ j ∧ j < w2.heap.size ∧ w1.heap.size ≤ j + (if j = g then w1.heap.size else 0)) := by
    intro j hj
    have i1 := HR5.out
    have i2 := HGW.out
    have i3 := SZ2.out
    have i4 := SZ3.out
    have i5 := H14.out
    have i6 := GON.out
    have i7 := HGG.out
    have i8 := GO.out
    rcases hj with hj | hj | hj
    · subst hj
      rw [if_pos rfl]
      exact ⟨fun e => i2.2.1 e.symm, fun e => i2.2.2 e.symm, by omega, fun e => i6 e.symm, i2.1, by omega, by omega⟩
    · have h9 := GB.out.1 j hj.symm
      exact ⟨by omega, by omega, by omega, fun e => i8.2.1 (e ▸ hj), by omega, h9.2, by omega⟩
    · have h9 := GB.out.2 j hj.symm
      exact ⟨by omega, by omega, by omega, fun e => i8.2.2 (e ▸ hj), by omega, h9.2, by omega⟩
  have VD : Hid (∀ j, j = g ∨ some j = (Value.slice G xs.length q).ownBlock ∨ some j = (Value.slice G' ys.length q').ownBlock → j ≠ b.block ∧ j ≠ d1.block ∧ j ≠ d2.block ∧ ∀ ad, A5 = some ad → ad.block ≠ j) := fun j hj => by
    have h9 := (ND.out j hj).2.2.2.2.2.1
    have i1 := VB.out
    exact ⟨by omega, by omega, by omega, fun ad e => by have := i1.2.2.2 ad e; omega⟩
  have SZ5 : Hid (r14 + 1 ≤ w5.heap.size) := by have := hch.size; have := SZ4.out; simp only [Hid]; omega
  replace OC := Lib.hid (OC.out.chg hch (fun e => (ND.out _ e).1 rfl))
  replace OM := Lib.hid (OM.out.chg hch (fun e => (ND.out _ e).2.1 rfl))
  replace O1 := Lib.hid (O1.out.chg hch (fun e => (ND.out _ e).2.2.1 rfl))
  replace RO := Lib.hid (RO.out.chg hch (fun ad e h9 => by cases e; exact (ND.out _ h9).2.2.2.1 rfl))
  replace BW : Hid (Below W.heap.size W w5) := BW.out.trans (below_chg hch (fun j e => (ND.out j e).2.2.2.2.1) BW.out.size)
  have kc : ∀ {ad : Addr} {u : Value}, w4.cell? ad = some u → ¬ (ad.block = g ∨ some ad.block = (Value.slice G xs.length q).ownBlock ∨ some ad.block = (Value.slice G' ys.length q').ownBlock) → w5.cell? ad = some u := fun h1 h2 => (World.cell?_of_block (hch.block _ (World.block_lt_of_cell? w4 _ h1) h2)).trans h1
  replace T1 := Lib.hid (kc T1.out (fun e => (VD.out _ e).2.1 rfl))
  replace T2 := Lib.hid (kc T2.out (fun e => (VD.out _ e).2.2.1 rfl))
  replace T3 := Lib.hid (T3.out.chg hch (fun ad e h9 => by cases e; exact (VD.out _ h9).1 rfl))
  replace T4 := Lib.hid (T4.out.chg hch (fun ad e h9 => (VD.out _ h9).2.2.2 ad e rfl))
  have GV5 := Lib.hid hgv
  have LB : Hid ((∀ z ∈ xs, ∀ ad, z.A = some ad → ad.block ≠ r14) ∧ ∀ z ∈ ys, ∀ ad, z.A = some ad → ad.block ≠ r14) := ⟨fun z hz ad e => by have := LB0.out.1 z hz ad e; have := SZ3.out; have := H14.out; omega, fun z hz ad e => by have := LB0.out.2 z hz ad e; have := SZ3.out; have := H14.out; omega⟩
  have NB : Hid ((∀ j, (Value.slice G1 (xs ++ [a]).length z1).ownBlock = some j → j ≠ r14) ∧ (∀ j, (Value.slice G1' (ys ++ [b2]).length z1').ownBlock = some j → j ≠ r14) ∧ (∀ z ∈ xs ++ [a], ∀ ad, z.A = some ad → ad.block ≠ r14) ∧ ∀ z ∈ ys ++ [b2], ∀ ad, z.A = some ad → ad.block ≠ r14) := by
    have i1 := SZ4.out
    have i2 := H14.out
    have i3 := SZ3.out
    refine ⟨fun j e => (hk0 j e).elim (fun h => by have := (GB.out.1 j h).2; omega) (fun h => by omega), fun j e => (hk1 j e).elim (fun h => by have := (GB.out.2 j h).2; omega) (fun h => by omega), fun z hz ad e => ?_, fun z hz ad e => ?_⟩
    · rcases List.mem_append.1 hz with hz | hz
      · exact LB.out.1 z hz ad e
      · rw [List.mem_singleton.1 hz] at e; have := hfa ad e; omega
    · rcases List.mem_append.1 hz with hz | hz
      · exact LB.out.2 z hz ad e
      · rw [List.mem_singleton.1 hz] at e; have := hfb ad e; omega
  have EA : Hid (a.bs = v.log ++ [markE] ∧ b2.bs = v.log ++ [markE] ∧ a.n = v.log.length + 1 ∧ b2.n = v.log.length + 1) := ⟨ha, hb, hna, hnb⟩
  clear kc hch hk0 hk1 hfa hfb ha hb hna hnb hgv GV GB
  have z5 := O1.out.cell 5 rfl
  have f5 := O1.out.fr 5 (by simp)
  have zl := O1.out.lt (by simp)
  have gs := grown_setCell w5 ⟨r14, 5, none⟩ (.slice a.A v.log.length a.c)
  have O6 := Lib.hid (O1.out.set 5 (by simp) (.slice a.A v.log.length a.c))
  have G6 := Lib.hid (GV5.out.grown gs (fun e => by have := HGG.out; have := SZ2.out; have := SZ3.out; have := H14.out; injection e with e; simp only at e; omega) (fun j e h9 => NB.out.1 j e (by cases h9; rfl)) (fun j e h9 => NB.out.2.1 j e (by cases h9; rfl)) (fun z hz ad e h9 => NB.out.2.2.1 z hz ad e (by cases h9; rfl)) (fun z hz ad e h9 => NB.out.2.2.2 z hz ad e (by cases h9; rfl)))
  have OC6 := Lib.hid (OC.out.setOther (a := ⟨r14, 5, none⟩) (.slice a.A v.log.length a.c) (by have := HR5.out; have := SZ2.out; have := SZ3.out; have := H14.out; simp only; omega))
  have OM6 := Lib.hid (OM.out.setOther (a := ⟨r14, 5, none⟩) (.slice a.A v.log.length a.c) (by have := HR5.out; have := SZ2.out; have := SZ3.out; have := H14.out; simp only; omega))
  have RO6 := Lib.hid (RO.out.grown gs (fun ad e h9 => by cases e; have := GOL.out; have := H14.out; injection h9 with h9; simp only at h9; omega))
  have BW6 : Hid (Below W.heap.size W (w5.setCell ⟨r14, 5, none⟩ (.slice a.A v.log.length a.c))) := BW.out.setCell (by have := HWZ.out; have := H14.out; show _ ≤ r14; omega) _
  have U1 := Lib.hid (gs.cell T1.out (by have := VL.out; have := H14.out; intro e; injection e with e; simp only at e; omega))
  have U2 := Lib.hid (gs.cell T2.out (by have := VL.out; have := H14.out; intro e; injection e with e; simp only at e; omega))
  have U3 := Lib.hid (T3.out.grown gs (fun ad e h9 => by cases e; have := VL.out; have := H14.out; injection h9 with h9; simp only at h9; omega))
  have U4 := Lib.hid (T4.out.grown gs (fun ad e h9 => by have := VL.out.2.2.2 ad e; have := H14.out; injection h9 with h9; simp only at h9; omega))
  clear gs
  go_upto_region 6 with fail
  generalize w5.setCell ⟨r14, 5, none⟩ (.slice a.A v.log.length a.c) = w6 at O6 G6 OC6 OM6 RO6 BW6 U1 U2 U3 U4 ⊢
  clear z5 f5 zl O1 GV5 OC OM RO BW T1 T2 T3 T4 NB VD ND
  have RL := Lib.hid (H.out.below BW6.out)
  have RV := Lib.hid (HV.out.below BW6.out)
  have RA := Lib.hid (HX.out.below BW6.out)
  have RN := Lib.hid (LN.out.rdV HL.out (fun x hx => by have := HLS.out x hx; omega) (by have h := RO6.out.take n (by omega); rwa [List.take_left' LN.out.r] at h) (fun z hz => G6.out.e0 z (List.mem_append.2 (.inl hz))))
  have R1 : Hid (OkL w6 a.A a.c v.log) := by
    have ho := G6.out.e0 a (List.mem_append.2 (.inr (List.mem_singleton.2 rfl)))
    have i1 := EA.out
    refine ⟨?_, fun e => ?_, by have := HXS.out; omega⟩
    · have h1 := ho.1.take v.log.length (by omega)
      rw [i1.1, List.take_left' rfl] at h1
      exact h1
    · have := (ho.2.1 e).1
      omega
  have RW : Hid (RdC 2 Dw.cells w6 (some b) m U) := by have h := U3.out.take m (by omega); rwa [List.take_left' HVL.out] at h
  obtain ⟨aA, haA⟩ : ∃ x, a.A = x := ⟨_, rfl⟩
  obtain ⟨aC, haC⟩ : ∃ x, a.c = x := ⟨_, rfl⟩
  rw [haA, haC] at R1 O6 ⊢
  clear haA haC
  have SX : Hid (∀ y, Below w6.heap.size w6 y → ((y.cell? ⟨r5, 0, none⟩ = some (.int .i64 cf) ∧ y.cell? ⟨r5, 1, none⟩ = some (.int .i64 cr) ∧ y.cell? ⟨r5, 2, none⟩ = some (.int .i64 cpp) ∧ y.cell? ⟨r5, 3, none⟩ = some (.bool cu)) ∧ (y.cell? ⟨r8, 0, none⟩ = some (.int .i64 v.n) ∧ y.cell? ⟨r8, 1, none⟩ = some (.int .u64 (v.h : Nat)) ∧ y.cell? ⟨r8, 2, none⟩ = some (.int .u64 (v.l : Nat)) ∧ y.cell? ⟨r8, 3, none⟩ = some (.int .i64 v.v) ∧ y.cell? ⟨r8, 4, none⟩ = some (.int .i64 v.c) ∧ y.cell? ⟨r8, 5, none⟩ = some (.slice D v.log.length kv)) ∧ (y.cell? ⟨r14, 0, none⟩ = some (.int .i64 v.n) ∧ y.cell? ⟨r14, 1, none⟩ = some (.int .u64 (v.h : Nat)) ∧ y.cell? ⟨r14, 2, none⟩ = some (.int .u64 (v.l : Nat)) ∧ y.cell? ⟨r14, 3, none⟩ = some (.int .i64 v.v) ∧ y.cell? ⟨r14, 4, none⟩ = some (.int .i64 v.c) ∧ y.cell? ⟨r14, 5, none⟩ = some (.slice aA v.log.length aC)) ∧ Below w6.heap.size w6 y)) := fun y hb => ⟨(OC6.out.below hb).all4, (OM6.out.below hb).all6, (O6.out.below hb).all6, hb⟩
  obtain ⟨R0, hR0⟩ : ∃ R0, chkR Lt.n (Lt.mayA cf cr) ⟨cf, cr, cpp, cu⟩ self V = R0 := ⟨_, rfl⟩
  obtain ⟨P, hP⟩ : ∃ P, putF Lt.n Lt.wins V v = P := ⟨_, rfl⟩
  obtain ⟨X, hX⟩ : ∃ X, pruneF (Lt.over U) V = X := ⟨_, rfl⟩
  have FC : Hid (∀ y, ((y.cell? ⟨r5, 0, none⟩ = some (.int .i64 cf) ∧ y.cell? ⟨r5, 1, none⟩ = some (.int .i64 cr) ∧ y.cell? ⟨r5, 2, none⟩ = some (.int .i64 cpp) ∧ y.cell? ⟨r5, 3, none⟩ = some (.bool cu)) ∧ (y.cell? ⟨r8, 0, none⟩ = some (.int .i64 v.n) ∧ y.cell? ⟨r8, 1, none⟩ = some (.int .u64 (v.h : Nat)) ∧ y.cell? ⟨r8, 2, none⟩ = some (.int .u64 (v.l : Nat)) ∧ y.cell? ⟨r8, 3, none⟩ = some (.int .i64 v.v) ∧ y.cell? ⟨r8, 4, none⟩ = some (.int .i64 v.c) ∧ y.cell? ⟨r8, 5, none⟩ = some (.slice D v.log.length kv)) ∧ (y.cell? ⟨r14, 0, none⟩ = some (.int .i64 v.n) ∧ y.cell? ⟨r14, 1, none⟩ = some (.int .u64 (v.h : Nat)) ∧ y.cell? ⟨r14, 2, none⟩ = some (.int .u64 (v.l : Nat)) ∧ y.cell? ⟨r14, 3, none⟩ = some (.int .i64 v.v) ∧ y.cell? ⟨r14, 4, none⟩ = some (.int .i64 v.c) ∧ y.cell? ⟨r14, 5, none⟩ = some (.slice aA v.log.length aC)) ∧ Below w6.heap.size w6 y) → Calls Try.prog 59 #[.agg #[.int .i64 cf, .int .i64 cr, .int .i64 cpp, .bool cu], .int .i64 self, .slice (some ⟨go, 0, none⟩) n gc] y fun e y' => e = .returned (.int .i64 R0) ∧ ((y'.cell? ⟨r5, 0, none⟩ = some (.int .i64 cf) ∧ y'.cell? ⟨r5, 1, none⟩ = some (.int .i64 cr) ∧ y'.cell? ⟨r5, 2, none⟩ = some (.int .i64 cpp) ∧ y'.cell? ⟨r5, 3, none⟩ = some (.bool cu)) ∧ (y'.cell? ⟨r8, 0, none⟩ = some (.int .i64 v.n) ∧ y'.cell? ⟨r8, 1, none⟩ = some (.int .u64 (v.h : Nat)) ∧ y'.cell? ⟨r8, 2, none⟩ = some (.int .u64 (v.l : Nat)) ∧ y'.cell? ⟨r8, 3, none⟩ = some (.int .i64 v.v) ∧ y'.cell? ⟨r8, 4, none⟩ = some (.int .i64 v.c) ∧ y'.cell? ⟨r8, 5, none⟩ = some (.slice D v.log.length kv)) ∧ (y'.cell? ⟨r14, 0, none⟩ = some (.int .i64 v.n) ∧ y'.cell? ⟨r14, 1, none⟩ = some (.int .u64 (v.h : Nat)) ∧ y'.cell? ⟨r14, 2, none⟩ = some (.int .u64 (v.l : Nat)) ∧ y'.cell? ⟨r14, 3, none⟩ = some (.int .i64 v.v) ∧ y'.cell? ⟨r14, 4, none⟩ = some (.int .i64 v.c) ∧ y'.cell? ⟨r14, 5, none⟩ = some (.slice aA v.log.length aC)) ∧ Below w6.heap.size w6 y')) := fun y hy => (hR0 ▸ checkAnswers_any ⟨cf, cr, cpp, cu⟩ self _ n gc V y (RN.out.below hy.2.2.2) (by have := HSM.out; omega) HEW.out).mono fun e y' h9 => ⟨h9.1, SX.out _ (hy.2.2.2.trans (h9.2.mono hy.2.2.2.size))⟩
  have FRC : Hid (∀ y, ((y.cell? ⟨r5, 0, none⟩ = some (.int .i64 cf) ∧ y.cell? ⟨r5, 1, none⟩ = some (.int .i64 cr) ∧ y.cell? ⟨r5, 2, none⟩ = some (.int .i64 cpp) ∧ y.cell? ⟨r5, 3, none⟩ = some (.bool cu)) ∧ (y.cell? ⟨r8, 0, none⟩ = some (.int .i64 v.n) ∧ y.cell? ⟨r8, 1, none⟩ = some (.int .u64 (v.h : Nat)) ∧ y.cell? ⟨r8, 2, none⟩ = some (.int .u64 (v.l : Nat)) ∧ y.cell? ⟨r8, 3, none⟩ = some (.int .i64 v.v) ∧ y.cell? ⟨r8, 4, none⟩ = some (.int .i64 v.c) ∧ y.cell? ⟨r8, 5, none⟩ = some (.slice D v.log.length kv)) ∧ (y.cell? ⟨r14, 0, none⟩ = some (.int .i64 v.n) ∧ y.cell? ⟨r14, 1, none⟩ = some (.int .u64 (v.h : Nat)) ∧ y.cell? ⟨r14, 2, none⟩ = some (.int .u64 (v.l : Nat)) ∧ y.cell? ⟨r14, 3, none⟩ = some (.int .i64 v.v) ∧ y.cell? ⟨r14, 4, none⟩ = some (.int .i64 v.c) ∧ y.cell? ⟨r14, 5, none⟩ = some (.slice aA v.log.length aC)) ∧ Below w6.heap.size w6 y) → Calls Try.prog 60 #[.agg #[.int .i64 cf, .int .i64 cr, .int .i64 cpp, .bool cu], .int .i64 self, .slice A n cp] y fun e y' => e = .returned (.int .i64 R0) ∧ ((y'.cell? ⟨r5, 0, none⟩ = some (.int .i64 cf) ∧ y'.cell? ⟨r5, 1, none⟩ = some (.int .i64 cr) ∧ y'.cell? ⟨r5, 2, none⟩ = some (.int .i64 cpp) ∧ y'.cell? ⟨r5, 3, none⟩ = some (.bool cu)) ∧ (y'.cell? ⟨r8, 0, none⟩ = some (.int .i64 v.n) ∧ y'.cell? ⟨r8, 1, none⟩ = some (.int .u64 (v.h : Nat)) ∧ y'.cell? ⟨r8, 2, none⟩ = some (.int .u64 (v.l : Nat)) ∧ y'.cell? ⟨r8, 3, none⟩ = some (.int .i64 v.v) ∧ y'.cell? ⟨r8, 4, none⟩ = some (.int .i64 v.c) ∧ y'.cell? ⟨r8, 5, none⟩ = some (.slice D v.log.length kv)) ∧ (y'.cell? ⟨r14, 0, none⟩ = some (.int .i64 v.n) ∧ y'.cell? ⟨r14, 1, none⟩ = some (.int .u64 (v.h : Nat)) ∧ y'.cell? ⟨r14, 2, none⟩ = some (.int .u64 (v.l : Nat)) ∧ y'.cell? ⟨r14, 3, none⟩ = some (.int .i64 v.v) ∧ y'.cell? ⟨r14, 4, none⟩ = some (.int .i64 v.c) ∧ y'.cell? ⟨r14, 5, none⟩ = some (.slice aA v.log.length aC)) ∧ Below w6.heap.size w6 y')) := fun y hy => (hR0 ▸ refCheckAnswers_any ⟨cf, cr, cpp, cu⟩ self A n cp V y (RL.out.below hy.2.2.2) (by have := HSM.out; omega)).mono fun e y' h9 => ⟨h9.1, SX.out _ (hy.2.2.2.trans (h9.2.mono hy.2.2.2.size))⟩
  have FU : Hid (∀ y, ((y.cell? ⟨r5, 0, none⟩ = some (.int .i64 cf) ∧ y.cell? ⟨r5, 1, none⟩ = some (.int .i64 cr) ∧ y.cell? ⟨r5, 2, none⟩ = some (.int .i64 cpp) ∧ y.cell? ⟨r5, 3, none⟩ = some (.bool cu)) ∧ (y.cell? ⟨r8, 0, none⟩ = some (.int .i64 v.n) ∧ y.cell? ⟨r8, 1, none⟩ = some (.int .u64 (v.h : Nat)) ∧ y.cell? ⟨r8, 2, none⟩ = some (.int .u64 (v.l : Nat)) ∧ y.cell? ⟨r8, 3, none⟩ = some (.int .i64 v.v) ∧ y.cell? ⟨r8, 4, none⟩ = some (.int .i64 v.c) ∧ y.cell? ⟨r8, 5, none⟩ = some (.slice D v.log.length kv)) ∧ (y.cell? ⟨r14, 0, none⟩ = some (.int .i64 v.n) ∧ y.cell? ⟨r14, 1, none⟩ = some (.int .u64 (v.h : Nat)) ∧ y.cell? ⟨r14, 2, none⟩ = some (.int .u64 (v.l : Nat)) ∧ y.cell? ⟨r14, 3, none⟩ = some (.int .i64 v.v) ∧ y.cell? ⟨r14, 4, none⟩ = some (.int .i64 v.c) ∧ y.cell? ⟨r14, 5, none⟩ = some (.slice aA v.log.length aC)) ∧ Below w6.heap.size w6 y) → Calls Try.prog 23 #[.slice (some ⟨go, 0, none⟩) n gc, v.agg aA aC] y fun e y' => RetW y P e y' ∧ ((y'.cell? ⟨r5, 0, none⟩ = some (.int .i64 cf) ∧ y'.cell? ⟨r5, 1, none⟩ = some (.int .i64 cr) ∧ y'.cell? ⟨r5, 2, none⟩ = some (.int .i64 cpp) ∧ y'.cell? ⟨r5, 3, none⟩ = some (.bool cu)) ∧ (y'.cell? ⟨r8, 0, none⟩ = some (.int .i64 v.n) ∧ y'.cell? ⟨r8, 1, none⟩ = some (.int .u64 (v.h : Nat)) ∧ y'.cell? ⟨r8, 2, none⟩ = some (.int .u64 (v.l : Nat)) ∧ y'.cell? ⟨r8, 3, none⟩ = some (.int .i64 v.v) ∧ y'.cell? ⟨r8, 4, none⟩ = some (.int .i64 v.c) ∧ y'.cell? ⟨r8, 5, none⟩ = some (.slice D v.log.length kv)) ∧ (y'.cell? ⟨r14, 0, none⟩ = some (.int .i64 v.n) ∧ y'.cell? ⟨r14, 1, none⟩ = some (.int .u64 (v.h : Nat)) ∧ y'.cell? ⟨r14, 2, none⟩ = some (.int .u64 (v.l : Nat)) ∧ y'.cell? ⟨r14, 3, none⟩ = some (.int .i64 v.v) ∧ y'.cell? ⟨r14, 4, none⟩ = some (.int .i64 v.c) ∧ y'.cell? ⟨r14, 5, none⟩ = some (.slice aA v.log.length aC)) ∧ Below w6.heap.size w6 y')) := fun y hy => (hP ▸ putAnswer_w _ n gc V v aA aC y (RN.out.below hy.2.2.2) (R1.out.below hy.2.2.2) (by have := HSM.out; omega)).mono fun e y' h9 => ⟨h9, SX.out _ (hy.2.2.2.trans (h9.choose_spec.choose_spec.2.2.1.mono hy.2.2.2.size))⟩
  have FRU : Hid (∀ y, ((y.cell? ⟨r5, 0, none⟩ = some (.int .i64 cf) ∧ y.cell? ⟨r5, 1, none⟩ = some (.int .i64 cr) ∧ y.cell? ⟨r5, 2, none⟩ = some (.int .i64 cpp) ∧ y.cell? ⟨r5, 3, none⟩ = some (.bool cu)) ∧ (y.cell? ⟨r8, 0, none⟩ = some (.int .i64 v.n) ∧ y.cell? ⟨r8, 1, none⟩ = some (.int .u64 (v.h : Nat)) ∧ y.cell? ⟨r8, 2, none⟩ = some (.int .u64 (v.l : Nat)) ∧ y.cell? ⟨r8, 3, none⟩ = some (.int .i64 v.v) ∧ y.cell? ⟨r8, 4, none⟩ = some (.int .i64 v.c) ∧ y.cell? ⟨r8, 5, none⟩ = some (.slice D v.log.length kv)) ∧ (y.cell? ⟨r14, 0, none⟩ = some (.int .i64 v.n) ∧ y.cell? ⟨r14, 1, none⟩ = some (.int .u64 (v.h : Nat)) ∧ y.cell? ⟨r14, 2, none⟩ = some (.int .u64 (v.l : Nat)) ∧ y.cell? ⟨r14, 3, none⟩ = some (.int .i64 v.v) ∧ y.cell? ⟨r14, 4, none⟩ = some (.int .i64 v.c) ∧ y.cell? ⟨r14, 5, none⟩ = some (.slice aA v.log.length aC)) ∧ Below w6.heap.size w6 y) → Calls Try.prog 61 #[.slice A n cp, v.agg D kv] y fun e y' => RetW y P e y' ∧ ((y'.cell? ⟨r5, 0, none⟩ = some (.int .i64 cf) ∧ y'.cell? ⟨r5, 1, none⟩ = some (.int .i64 cr) ∧ y'.cell? ⟨r5, 2, none⟩ = some (.int .i64 cpp) ∧ y'.cell? ⟨r5, 3, none⟩ = some (.bool cu)) ∧ (y'.cell? ⟨r8, 0, none⟩ = some (.int .i64 v.n) ∧ y'.cell? ⟨r8, 1, none⟩ = some (.int .u64 (v.h : Nat)) ∧ y'.cell? ⟨r8, 2, none⟩ = some (.int .u64 (v.l : Nat)) ∧ y'.cell? ⟨r8, 3, none⟩ = some (.int .i64 v.v) ∧ y'.cell? ⟨r8, 4, none⟩ = some (.int .i64 v.c) ∧ y'.cell? ⟨r8, 5, none⟩ = some (.slice D v.log.length kv)) ∧ (y'.cell? ⟨r14, 0, none⟩ = some (.int .i64 v.n) ∧ y'.cell? ⟨r14, 1, none⟩ = some (.int .u64 (v.h : Nat)) ∧ y'.cell? ⟨r14, 2, none⟩ = some (.int .u64 (v.l : Nat)) ∧ y'.cell? ⟨r14, 3, none⟩ = some (.int .i64 v.v) ∧ y'.cell? ⟨r14, 4, none⟩ = some (.int .i64 v.c) ∧ y'.cell? ⟨r14, 5, none⟩ = some (.slice aA v.log.length aC)) ∧ Below w6.heap.size w6 y')) := fun y hy => (hP ▸ refPutAnswer_w A n cp V v D kv y (RL.out.rdV.below hy.2.2.2) HA.out (RA.out.below hy.2.2.2) (by have := HSM.out; omega)).mono fun e y' h9 => ⟨h9, SX.out _ (hy.2.2.2.trans (h9.choose_spec.choose_spec.2.2.1.mono hy.2.2.2.size))⟩
  have FP : Hid (∀ y, ((y.cell? ⟨r5, 0, none⟩ = some (.int .i64 cf) ∧ y.cell? ⟨r5, 1, none⟩ = some (.int .i64 cr) ∧ y.cell? ⟨r5, 2, none⟩ = some (.int .i64 cpp) ∧ y.cell? ⟨r5, 3, none⟩ = some (.bool cu)) ∧ (y.cell? ⟨r8, 0, none⟩ = some (.int .i64 v.n) ∧ y.cell? ⟨r8, 1, none⟩ = some (.int .u64 (v.h : Nat)) ∧ y.cell? ⟨r8, 2, none⟩ = some (.int .u64 (v.l : Nat)) ∧ y.cell? ⟨r8, 3, none⟩ = some (.int .i64 v.v) ∧ y.cell? ⟨r8, 4, none⟩ = some (.int .i64 v.c) ∧ y.cell? ⟨r8, 5, none⟩ = some (.slice D v.log.length kv)) ∧ (y.cell? ⟨r14, 0, none⟩ = some (.int .i64 v.n) ∧ y.cell? ⟨r14, 1, none⟩ = some (.int .u64 (v.h : Nat)) ∧ y.cell? ⟨r14, 2, none⟩ = some (.int .u64 (v.l : Nat)) ∧ y.cell? ⟨r14, 3, none⟩ = some (.int .i64 v.v) ∧ y.cell? ⟨r14, 4, none⟩ = some (.int .i64 v.c) ∧ y.cell? ⟨r14, 5, none⟩ = some (.slice aA v.log.length aC)) ∧ Below w6.heap.size w6 y) → Calls Try.prog 47 #[.slice (some ⟨go, 0, none⟩) n gc, .slice (some b) m bc] y fun e y' => RetW y X e y' ∧ ((y'.cell? ⟨r5, 0, none⟩ = some (.int .i64 cf) ∧ y'.cell? ⟨r5, 1, none⟩ = some (.int .i64 cr) ∧ y'.cell? ⟨r5, 2, none⟩ = some (.int .i64 cpp) ∧ y'.cell? ⟨r5, 3, none⟩ = some (.bool cu)) ∧ (y'.cell? ⟨r8, 0, none⟩ = some (.int .i64 v.n) ∧ y'.cell? ⟨r8, 1, none⟩ = some (.int .u64 (v.h : Nat)) ∧ y'.cell? ⟨r8, 2, none⟩ = some (.int .u64 (v.l : Nat)) ∧ y'.cell? ⟨r8, 3, none⟩ = some (.int .i64 v.v) ∧ y'.cell? ⟨r8, 4, none⟩ = some (.int .i64 v.c) ∧ y'.cell? ⟨r8, 5, none⟩ = some (.slice D v.log.length kv)) ∧ (y'.cell? ⟨r14, 0, none⟩ = some (.int .i64 v.n) ∧ y'.cell? ⟨r14, 1, none⟩ = some (.int .u64 (v.h : Nat)) ∧ y'.cell? ⟨r14, 2, none⟩ = some (.int .u64 (v.l : Nat)) ∧ y'.cell? ⟨r14, 3, none⟩ = some (.int .i64 v.v) ∧ y'.cell? ⟨r14, 4, none⟩ = some (.int .i64 v.c) ∧ y'.cell? ⟨r14, 5, none⟩ = some (.slice aA v.log.length aC)) ∧ Below w6.heap.size w6 y')) := fun y hy => (hX ▸ pruneAnswer_w _ n gc V (some b) m bc U y (RN.out.below hy.2.2.2) (RW.out.below hy.2.2.2) (by have := HSM.out; omega) (by have := HSV.out; omega)).mono fun e y' h9 => ⟨h9, SX.out _ (hy.2.2.2.trans (h9.choose_spec.choose_spec.2.2.1.mono hy.2.2.2.size))⟩
  have FRP : Hid (∀ y, ((y.cell? ⟨r5, 0, none⟩ = some (.int .i64 cf) ∧ y.cell? ⟨r5, 1, none⟩ = some (.int .i64 cr) ∧ y.cell? ⟨r5, 2, none⟩ = some (.int .i64 cpp) ∧ y.cell? ⟨r5, 3, none⟩ = some (.bool cu)) ∧ (y.cell? ⟨r8, 0, none⟩ = some (.int .i64 v.n) ∧ y.cell? ⟨r8, 1, none⟩ = some (.int .u64 (v.h : Nat)) ∧ y.cell? ⟨r8, 2, none⟩ = some (.int .u64 (v.l : Nat)) ∧ y.cell? ⟨r8, 3, none⟩ = some (.int .i64 v.v) ∧ y.cell? ⟨r8, 4, none⟩ = some (.int .i64 v.c) ∧ y.cell? ⟨r8, 5, none⟩ = some (.slice D v.log.length kv)) ∧ (y.cell? ⟨r14, 0, none⟩ = some (.int .i64 v.n) ∧ y.cell? ⟨r14, 1, none⟩ = some (.int .u64 (v.h : Nat)) ∧ y.cell? ⟨r14, 2, none⟩ = some (.int .u64 (v.l : Nat)) ∧ y.cell? ⟨r14, 3, none⟩ = some (.int .i64 v.v) ∧ y.cell? ⟨r14, 4, none⟩ = some (.int .i64 v.c) ∧ y.cell? ⟨r14, 5, none⟩ = some (.slice aA v.log.length aC)) ∧ Below w6.heap.size w6 y) → Calls Try.prog 62 #[.slice A n cp, .slice B m d] y fun e y' => RetW y X e y' ∧ ((y'.cell? ⟨r5, 0, none⟩ = some (.int .i64 cf) ∧ y'.cell? ⟨r5, 1, none⟩ = some (.int .i64 cr) ∧ y'.cell? ⟨r5, 2, none⟩ = some (.int .i64 cpp) ∧ y'.cell? ⟨r5, 3, none⟩ = some (.bool cu)) ∧ (y'.cell? ⟨r8, 0, none⟩ = some (.int .i64 v.n) ∧ y'.cell? ⟨r8, 1, none⟩ = some (.int .u64 (v.h : Nat)) ∧ y'.cell? ⟨r8, 2, none⟩ = some (.int .u64 (v.l : Nat)) ∧ y'.cell? ⟨r8, 3, none⟩ = some (.int .i64 v.v) ∧ y'.cell? ⟨r8, 4, none⟩ = some (.int .i64 v.c) ∧ y'.cell? ⟨r8, 5, none⟩ = some (.slice D v.log.length kv)) ∧ (y'.cell? ⟨r14, 0, none⟩ = some (.int .i64 v.n) ∧ y'.cell? ⟨r14, 1, none⟩ = some (.int .u64 (v.h : Nat)) ∧ y'.cell? ⟨r14, 2, none⟩ = some (.int .u64 (v.l : Nat)) ∧ y'.cell? ⟨r14, 3, none⟩ = some (.int .i64 v.v) ∧ y'.cell? ⟨r14, 4, none⟩ = some (.int .i64 v.c) ∧ y'.cell? ⟨r14, 5, none⟩ = some (.slice aA v.log.length aC)) ∧ Below w6.heap.size w6 y')) := fun y hy => (hX ▸ refPruneAnswer_w A n cp V B m d U y (RL.out.rdV.below hy.2.2.2) (RV.out.below hy.2.2.2) HSM.out (by have := HSV.out; omega)).mono fun e y' h9 => ⟨h9, SX.out _ (hy.2.2.2.trans (h9.choose_spec.choose_spec.2.2.1.mono hy.2.2.2.size))⟩
  have FS : Hid (∀ y A1 A2 c1 c2 (T : List Lt), ((y.cell? ⟨r5, 0, none⟩ = some (.int .i64 cf) ∧ y.cell? ⟨r5, 1, none⟩ = some (.int .i64 cr) ∧ y.cell? ⟨r5, 2, none⟩ = some (.int .i64 cpp) ∧ y.cell? ⟨r5, 3, none⟩ = some (.bool cu)) ∧ (y.cell? ⟨r8, 0, none⟩ = some (.int .i64 v.n) ∧ y.cell? ⟨r8, 1, none⟩ = some (.int .u64 (v.h : Nat)) ∧ y.cell? ⟨r8, 2, none⟩ = some (.int .u64 (v.l : Nat)) ∧ y.cell? ⟨r8, 3, none⟩ = some (.int .i64 v.v) ∧ y.cell? ⟨r8, 4, none⟩ = some (.int .i64 v.c) ∧ y.cell? ⟨r8, 5, none⟩ = some (.slice D v.log.length kv)) ∧ (y.cell? ⟨r14, 0, none⟩ = some (.int .i64 v.n) ∧ y.cell? ⟨r14, 1, none⟩ = some (.int .u64 (v.h : Nat)) ∧ y.cell? ⟨r14, 2, none⟩ = some (.int .u64 (v.l : Nat)) ∧ y.cell? ⟨r14, 3, none⟩ = some (.int .i64 v.v) ∧ y.cell? ⟨r14, 4, none⟩ = some (.int .i64 v.c) ∧ y.cell? ⟨r14, 5, none⟩ = some (.slice aA v.log.length aC)) ∧ Below w6.heap.size w6 y) → RdV y A1 T.length T → RdV y A2 T.length T → Calls Try.prog 25 #[.slice A1 T.length c1, .slice A2 T.length c2] y fun e y' => e = .returned (.bool true) ∧ ((y'.cell? ⟨r5, 0, none⟩ = some (.int .i64 cf) ∧ y'.cell? ⟨r5, 1, none⟩ = some (.int .i64 cr) ∧ y'.cell? ⟨r5, 2, none⟩ = some (.int .i64 cpp) ∧ y'.cell? ⟨r5, 3, none⟩ = some (.bool cu)) ∧ (y'.cell? ⟨r8, 0, none⟩ = some (.int .i64 v.n) ∧ y'.cell? ⟨r8, 1, none⟩ = some (.int .u64 (v.h : Nat)) ∧ y'.cell? ⟨r8, 2, none⟩ = some (.int .u64 (v.l : Nat)) ∧ y'.cell? ⟨r8, 3, none⟩ = some (.int .i64 v.v) ∧ y'.cell? ⟨r8, 4, none⟩ = some (.int .i64 v.c) ∧ y'.cell? ⟨r8, 5, none⟩ = some (.slice D v.log.length kv)) ∧ (y'.cell? ⟨r14, 0, none⟩ = some (.int .i64 v.n) ∧ y'.cell? ⟨r14, 1, none⟩ = some (.int .u64 (v.h : Nat)) ∧ y'.cell? ⟨r14, 2, none⟩ = some (.int .u64 (v.l : Nat)) ∧ y'.cell? ⟨r14, 3, none⟩ = some (.int .i64 v.v) ∧ y'.cell? ⟨r14, 4, none⟩ = some (.int .i64 v.c) ∧ y'.cell? ⟨r14, 5, none⟩ = some (.slice aA v.log.length aC)) ∧ Below w6.heap.size w6 y')) := fun y A1 A2 c1 c2 T hy h1 h2 => (sameAnswers_any A1 A2 T.length c1 c2 T y h1 h2).mono fun e y' h9 => ⟨h9.1, SX.out _ (by obtain ⟨q, hq⟩ := h9.2; rw [hq]; exact Below.drewN hy.2.2.2 q)⟩
  clear hR0 hP hX
  obtain ⟨⟨p0, p1, p2, p3⟩, ⟨q0, q1, q2, q3, q4, q5⟩, ⟨s0, s1, s2, s3, s4, s5⟩, _⟩ := SX.out _ (Below.refl _ _)
  go_region_held3 (fun y => ((y.cell? ⟨r5, 0, none⟩ = some (.int .i64 cf) ∧ y.cell? ⟨r5, 1, none⟩ = some (.int .i64 cr) ∧ y.cell? ⟨r5, 2, none⟩ = some (.int .i64 cpp) ∧ y.cell? ⟨r5, 3, none⟩ = some (.bool cu)) ∧ (y.cell? ⟨r8, 0, none⟩ = some (.int .i64 v.n) ∧ y.cell? ⟨r8, 1, none⟩ = some (.int .u64 (v.h : Nat)) ∧ y.cell? ⟨r8, 2, none⟩ = some (.int .u64 (v.l : Nat)) ∧ y.cell? ⟨r8, 3, none⟩ = some (.int .i64 v.v) ∧ y.cell? ⟨r8, 4, none⟩ = some (.int .i64 v.c) ∧ y.cell? ⟨r8, 5, none⟩ = some (.slice D v.log.length kv)) ∧ (y.cell? ⟨r14, 0, none⟩ = some (.int .i64 v.n) ∧ y.cell? ⟨r14, 1, none⟩ = some (.int .u64 (v.h : Nat)) ∧ y.cell? ⟨r14, 2, none⟩ = some (.int .u64 (v.l : Nat)) ∧ y.cell? ⟨r14, 3, none⟩ = some (.int .i64 v.v) ∧ y.cell? ⟨r14, 4, none⟩ = some (.int .i64 v.c) ∧ y.cell? ⟨r14, 5, none⟩ = some (.slice aA v.log.length aC)) ∧ Below w6.heap.size w6 y)) (first | exact ⟨⟨p0, p1, p2, p3⟩, ⟨q0, q1, q2, q3, q4, q5⟩, ⟨s0, s1, s2, s3, s4, s5⟩, Below.drew (Below.refl _ _)⟩ | assumption | go_keep)
    (first
     | (go_at_call 25; refine (FS.out _ A7 A8 c7 c8 X hx8 rA7' rA8).mono ?_; rintro e x9 ⟨rfl, hx9⟩)
     | (go_at_call 62; refine (FRP.out _ hx7).mono ?_; rintro e x8 ⟨⟨A8, c8, rfl, hc8, hb8, rA8⟩, hx8⟩; have rA7' := rA7.below hb8)
     | (go_at_call 47; refine (FP.out _ hx6).mono ?_; rintro e x7 ⟨⟨A7, c7, rfl, hc7, hb7, rA7⟩, hx7⟩)
     | (go_at_call 25; refine (FS.out _ A3 A4 c3 c4 P hx4 rA3' rA4).mono ?_; rintro e x6 ⟨rfl, hx6⟩)
     | (go_at_call 61; refine (FRU.out _ hx3).mono ?_; rintro e x4 ⟨⟨A4, c4, rfl, hc4, hb4, rA4⟩, hx4⟩; have rA3' := rA3.below hb4)
     | (go_at_call 23; refine (FU.out _ hx2).mono ?_; rintro e x3 ⟨⟨A3, c3, rfl, hc3, hb3, rA3⟩, hx3⟩)
     | (go_at_call 60; refine (FRC.out _ hx1).mono ?_; rintro e x2 ⟨rfl, hx2⟩)
     | (go_at_call 59; refine (FC.out _ (by first | assumption | (simp [*]))).mono ?_; rintro e x1 ⟨rfl, hx1⟩))
  have H9 := Lib.hid hx9.2.2.2
  clear hx1 hx2 hx3 hx4 hx6 hx7 hx8 hx9 hc3 hb3 hc4 hb4 hc7 hb7 hc8 hb8 rA3 rA3' rA4 rA7 rA7' rA8 p0 p1 p2 p3 q0 q1 q2 q3 q4 q5 s0 s1 s2 s3 s4 s5 SX FC FRC FU FRU FP FRP FS
  obtain ⟨w9, rfl⟩ : ∃ z, z = x9 := ⟨_, rfl⟩
  have OC9 := Lib.hid (OC6.out.below H9.out)
  have OM9 := Lib.hid (OM6.out.below H9.out)
  have O9 := Lib.hid (O6.out.below H9.out)
  obtain ⟨p0, p1, p2, p3⟩ := OC9.out.all4
  have HN64 : Hid (n * 64 ≤ 140737488355328) := by have := HSM.out; simp only [Hid]; omega
  go_wp2_with fail
  clear p0 p1 p2 p3
  refine (settle_v cf _ n gc V w9 HWF.out (RN.out.below H9.out) HN64.out).mono ?_
  intro e w10 h10
  obtain ⟨A10, k10, rfl, ho10, hb10⟩ := h10.form
  clear h10
  obtain ⟨rv, hrv⟩ : ∃ rv, (settleV cf V).getD default = rv := ⟨_, rfl⟩
  obtain ⟨ev, hev⟩ : ∃ ev : Int, (if (settleV cf V).isSome then 0 else 81) = ev := ⟨_, rfl⟩
  rw [hrv] at ho10
  rw [hrv, hev]
  have HRV := Lib.hid hrv
  have HEV := Lib.hid hev
  clear hrv hev
  have OK10 := Lib.hid ho10
  have B10 : Hid (Below w6.heap.size w6 w10) := H9.out.trans (hb10.mono H9.out.size)
  clear ho10 hb10
  have p0 := (OC6.out.below B10.out).cell 0 rfl
  have zp := (OC6.out.below B10.out).lt (by simp)
  go_wp2_with fail
  have OX := Lib.hid (Ob.fresh w10 #[.int .i64 rv.n, .int .u64 (rv.h : Nat), .int .u64 (rv.l : Nat), .int .i64 rv.v, .int .i64 rv.c, .slice A10 rv.log.length k10] 38)
  have B11 : Hid (Below w6.heap.size w6 (w10.alloc (.cells #[.int .i64 rv.n, .int .u64 (rv.h : Nat), .int .u64 (rv.l : Nat), .int .i64 rv.v, .int .i64 rv.c, .slice A10 rv.log.length k10] 38))) := B10.out.alloc B10.out.size _
  replace OK10 := Lib.hid (OK10.out.below (below_al w10 (.cells #[.int .i64 rv.n, .int .u64 (rv.h : Nat), .int .u64 (rv.l : Nat), .int .i64 rv.v, .int .i64 rv.c, .slice A10 rv.log.length k10] 38)))
  generalize w10.alloc (.cells #[.int .i64 rv.n, .int .u64 (rv.h : Nat), .int .u64 (rv.l : Nat), .int .i64 rv.v, .int .i64 rv.c, .slice A10 rv.log.length k10] 38) = w11 at OX B11 OK10 ⊢
  generalize w10.heap.size = r15 at OX ⊢
  clear p0 zp
  refine (refSettle_v cf A n cp V w11 HWF.out (RL.out.rdV.below B11.out) HN64.out).mono ?_
  intro e w12 h12
  obtain ⟨A12, k12, rfl, ho12, hb12⟩ := h12.form
  clear h12
  rw [HRV.out] at ho12
  rw [HRV.out, HEV.out]
  have OK12 := Lib.hid ho12
  have B12 : Hid (Below w6.heap.size w6 w12) := B11.out.trans (hb12.mono B11.out.size)
  replace OX := Lib.hid (OX.out.below hb12)
  replace OK10 := Lib.hid (OK10.out.below hb12)
  clear ho12 hb12
  have hee : (ev == ev) = true := beq_self_eq_true ev
  obtain ⟨q0, q1, q2, q3, q4, q5⟩ := OX.out.all6
  have zq := OX.out.lt (by simp)
  go_upto_region 10 with fail
  clear q0 q1 q2 q3 q4 q5 zq
  have OY := Lib.hid (Ob.fresh w12 #[.int .i64 rv.n, .int .u64 (rv.h : Nat), .int .u64 (rv.l : Nat), .int .i64 rv.v, .int .i64 rv.c, .slice A12 rv.log.length k12] 38)
  have B13 : Hid (Below w6.heap.size w6 (w12.alloc (.cells #[.int .i64 rv.n, .int .u64 (rv.h : Nat), .int .u64 (rv.l : Nat), .int .i64 rv.v, .int .i64 rv.c, .slice A12 rv.log.length k12] 38))) := B12.out.alloc B12.out.size _
  replace OX := Lib.hid (OX.out.alloc (.cells #[.int .i64 rv.n, .int .u64 (rv.h : Nat), .int .u64 (rv.l : Nat), .int .i64 rv.v, .int .i64 rv.c, .slice A12 rv.log.length k12] 38))
  replace OK10 := Lib.hid (OK10.out.below (below_al w12 (.cells #[.int .i64 rv.n, .int .u64 (rv.h : Nat), .int .u64 (rv.l : Nat), .int .i64 rv.v, .int .i64 rv.c, .slice A12 rv.log.length k12] 38)))
  replace OK12 := Lib.hid (OK12.out.below (below_al w12 (.cells #[.int .i64 rv.n, .int .u64 (rv.h : Nat), .int .u64 (rv.l : Nat), .int .i64 rv.v, .int .i64 rv.c, .slice A12 rv.log.length k12] 38)))
  generalize w12.alloc (.cells #[.int .i64 rv.n, .int .u64 (rv.h : Nat), .int .u64 (rv.l : Nat), .int .i64 rv.v, .int .i64 rv.c, .slice A12 rv.log.length k12] 38) = w13 at OX OY B13 OK10 OK12 ⊢
  generalize w12.heap.size = r17 at OY ⊢
  obtain ⟨p0, p1, p2, p3, p4, p5⟩ := OX.out.all6
  obtain ⟨q0, q1, q2, q3, q4, q5⟩ := OY.out.all6
  have zp := OX.out.lt (by simp)
  have zq := OY.out.lt (by simp)
  go_wp2_with fail
  clear p0 p1 p2 p3 p4 p5 q0 q1 q2 q3 q4 q5 zp zq
  refine (sameAnswers_any _ _ 1 _ _ [rv] _ ((rdV_one OK10.out 38).below (below_al _ _)) (by have h := rdV_one (OK12.out.below (below_al w13 (.cells #[.int .i64 rv.n, .int .u64 (rv.h : Nat), .int .u64 (rv.l : Nat), .int .i64 rv.v, .int .i64 rv.c, .slice A10 rv.log.length k10] 38))) 38; rw [World.size_alloc] at h; exact h)).mono ?_
  rintro e w14 ⟨rfl, qa, hqa⟩
  have B14 : Hid (Below w6.heap.size w6 w14) := by rw [hqa]; exact Below.drewN ((B13.out.alloc B13.out.size _).alloc (by simp; have := B13.out.size; omega) _) qa
  clear hqa
  go_wp2_with fail
  refine (keptAnswers_any go A n cp gc V R w14 (RL.out.rdV.below B14.out) (RN.out.below B14.out) (RO6.out.below B14.out) LN.out.r HROOM.out (by have := HSM.out; omega)).mono ?_
  rintro e w15 ⟨rfl, qb, hqb⟩
  have B15 : Hid (Below w6.heap.size w6 w15) := by rw [hqb]; exact Below.drewN B14.out qb
  clear hqb
  go_wp2_with fail
  have U1' := Lib.hid ((B15.out.cell (World.block_lt_of_cell? w6 _ U1.out)).trans U1.out)
  have U2' := Lib.hid ((B15.out.cell (World.block_lt_of_cell? w6 _ U2.out)).trans U2.out)
  refine (intactE_any g (m + 1) _ d1 d2 e1 e2 (some b) A5 bc c5 G1 z1 G1' z1' (xs ++ [a]) (ys ++ [b2]) w15 U1'.out U2'.out (U3.out.below B15.out) (U4.out.below B15.out) (G6.out.below B15.out) (by simp [LN.out.x, LN.out.y]) (by have := HSM.out; rw [List.length_append, LN.out.x]; simp; omega) (LN.out.same HL.out EA.out.1 EA.out.2.1 EA.out.2.2.1 EA.out.2.2.2)).mono ?_
  rintro e w16 ⟨rfl, qc, hqc⟩
  have B16 : Hid (Below w6.heap.size w6 w16) := by rw [hqc]; exact Below.drewN B15.out qc
  clear hqc
  go_wp2_with fail
  refine (works_any _).mono ?_
  rintro e w17 ⟨rfl, hb17⟩
  have B17 : Hid (Below W.heap.size W w17) := BW6.out.trans ((B16.out.trans (hb17.mono B16.out.size)).mono BW6.out.size)
  clear hb17
  go_wp2_with fail
  go_ret
  exact ⟨rfl, B17.out⟩
theorem tallyAnswers_walk (c : Cg) (self : Int) (A : Option Addr) (n cp : Nat) (I : List Pt) (p : Pt) (B : Option Addr) (m d : Nat) (U : List Dw) (W : World) (wf : (Lit.int .i64 c.f).wf = true) (ws : (Lit.int .i64 self).wf = true) (h : RdC 6 Pt.cells W A n I) (hA : A = none → n = 0 ∧ cp = 0) (ok : ∀ x ∈ I, x.Ok W) (hsm : n * 64 ≤ 140737488351232 ∧ ∀ x ∈ I, x.Sm) (hp : p.Ok W) (sp : p.Sm) (hv : RdC 2 Dw.cells W B m U) (hB : B = none → m = 0 ∧ d = 0) (hsv : m * 16 ≤ 140737488351232) :
    Calls Try.prog 14 #[c.agg, .int .i64 self, .slice A n cp, p.1.agg p.2.1 p.2.2, .slice B m d] W fun e w' => e = .returned (.bool true) ∧ Below W.heap.size W w' :=
  tallyAnswers_v c self A n cp (I.map (·.1)) p.1 p.2.1 p.2.2 B m d U W wf (rdVc_of h ok hsm.2) hA (fun x hx y hy => by obtain ⟨q, hq, rfl⟩ := List.mem_map.1 hx; exact ((ok q hq).ok.log y hy).n) (fun x hx => by obtain ⟨q, hq, rfl⟩ := List.mem_map.1 hx; exact hsm.2 q hq) hsm.1 (hp.okL sp) sp hv hB hsv
end Go.Proofs.Ytjjobgolpedgeaa
