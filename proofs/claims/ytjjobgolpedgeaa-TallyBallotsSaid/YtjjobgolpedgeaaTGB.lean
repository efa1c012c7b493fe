/-
  Parts of the walks of TallyBallots and TallyAnswers. Merged by merge.py: TRefPutBallot, TRefPutAnswer.
-/
import Derived.Test.YtjjobgolpedgeaaTRefPutP
import Derived.Test.YtjjobgolpedgeaaTPutX
import Derived.Test.YtjjobgolpedgeaaTGA
set_option linter.unusedVariables false
set_option linter.unusedSimpArgs false
namespace Go.Proofs.Ytjjobgolpedgeaa
open Go.RowKit

theorem more_aboveBallot (v x : Bt) : moreF v.v v.m v.c x.v x.m x.c = v.above x := by
  unfold moreF Bt.above longer
  by_cases h0 : v.v = x.v
  · rw [if_neg (show ¬ (v.v ≠ x.v) from fun h => h h0), if_pos h0]
    by_cases h1 : v.m = x.m
    · rw [if_neg (show ¬ ((v.m : Int) ≠ (x.m : Int)) from fun h => h (by omega)), decide_eq_false (show ¬ ((x.m : Int) < v.m) by omega), decide_eq_true (show (v.m : Int) = x.m by omega), Bool.false_or, Bool.true_and]
    · rw [if_pos (show ((v.m : Int) ≠ (x.m : Int)) by omega), decide_eq_false (show ¬ ((v.m : Int) = x.m) by omega), Bool.false_and, Bool.or_false]
  · rw [if_pos h0, if_neg h0]
theorem CL_set6Ballot (v : Bt) : ∀ (L : List Bt) (i : Nat), i < L.length → CL Bt.cells (L.set i v) = ((((((CL Bt.cells L).set (i * 6) (.int .i64 v.n)).set (i * 6 + 1) (.int .u64 (v.h : Nat))).set (i * 6 + 2) (.int .u64 (v.l : Nat))).set (i * 6 + 3) (.int .i64 v.v)).set (i * 6 + 4) (.int .i64 v.c)).set (i * 6 + 5) (.slice v.A v.m v.k) := by
  intro L
  induction L with
  | nil => intro i h; simp at h
  | cons x t ih =>
    intro i h
    cases i with
    | zero => rfl
    | succ i =>
      have := ih i (by simpa using h)
      have e : (i + 1) * 6 = i * 6 + 1 + 1 + 1 + 1 + 1 + 1 := by omega
      rw [e]
      simp only [CL, List.set_cons_succ, List.flatMap_cons, Bt.cells, List.cons_append, List.nil_append] at this ⊢
      rw [this]
set_option maxHeartbeats 16000000 in
set_option maxRecDepth 100000 in
theorem refPutBallot_fn (A : Option Addr) (n c : Nat) (L : List Bt) (v : Bt) (lg : Bt → List Et) (w : World) (h : RdC 6 Bt.cells w A n L) (hlg : ∀ r, r = v ∨ r ∈ L → LgOk lg w r) (hA : A = none → n = 0 ∧ c = 0) (hsm : (n + 3) * 64 ≤ 140737488355328) :
    Calls Try.prog 68 #[.slice A n c, v.agg] w (RetB 53 lg w (putF Bt.n Bt.wins L v)) := by
  have H := Lib.hid h
  have HA := Lib.hid hA
  have HL := Lib.hid h.len
  have hn : (n : Int) ≤ 6000000000000 := by omega
  have HSM := Lib.hid hsm
  have HLG : Hid (∀ W', Below w.heap.size w W' → ∀ r, r ∈ putF Bt.n Bt.wins L v → LgOk lg W' r) := fun W' hb r hr => ⟨(hlg r (putF_mem hr)).1.below hb, (hlg r (putF_mem hr)).2⟩
  clear h hA hsm hlg
  go_enter Try.func68, Try.ntmps68
  go_wp2_with fail
  have OV := Lib.hid (Ob.fresh w #[.int .i64 v.n, .int .u64 (v.h : Nat), .int .u64 (v.l : Nat), .int .i64 v.v, .int .i64 v.c, .slice v.A v.m v.k] 53)
  have BW : Hid (Below w.heap.size w (w.alloc (.cells #[.int .i64 v.n, .int .u64 (v.h : Nat), .int .u64 (v.l : Nat), .int .i64 v.v, .int .i64 v.c, .slice v.A v.m v.k] 53))) := below_al _ _
  have HZ : Hid (w.heap.size < (w.alloc (.cells #[.int .i64 v.n, .int .u64 (v.h : Nat), .int .u64 (v.l : Nat), .int .i64 v.v, .int .i64 v.c, .slice v.A v.m v.k] 53)).heap.size) := by simp only [Hid, World.size_alloc]; omega
  generalize w.alloc (.cells #[.int .i64 v.n, .int .u64 (v.h : Nat), .int .u64 (v.l : Nat), .int .i64 v.v, .int .i64 v.c, .slice v.A v.m v.k] 53) = w2 at OV BW HZ ⊢
  obtain ⟨r, hr⟩ : ∃ r, w.heap.size = r := ⟨_, rfl⟩
  rw [hr] at OV HZ ⊢
  have HRR := Lib.hid hr
  clear hr
  have H2 := Lib.hid (H.out.below BW.out)
  go_loopw [5, 6] (fun ov iv wr => ∃ (k : Nat), k ≤ n ∧ ov = .slice none 0 0 ∧ iv = .int .i64 k ∧ Hid (∃ q, wr = w2.drewN q) ∧ Hid (∀ j x, j < k → L[j]? = some x → x.n ≠ v.n)) (fun _ iv _ => n - (intOf iv).toNat)
  case atStart => exact ⟨0, by omega, rfl, rfl, ⟨0, rfl⟩, fun j x hj => by omega⟩
  case round =>
    obtain ⟨k, hk, rfl, rfl, HD, HN⟩ := hrel
    have HB : Hid (Below w2.heap.size w2 wr) := by obtain ⟨q, hq⟩ := HD.out; rw [hq]; exact Below.drewN (Below.refl _ _) q
    by_cases hkn : k < n
    · obtain ⟨x, hx⟩ : ∃ x, L[k]? = some x := ⟨_, List.getElem?_eq_getElem (by have := HL.out; omega)⟩
      obtain ⟨ad, rfl, g0, g1, g2, g3, g4, g5⟩ := (H2.out.below HB.out).atBt hx
      obtain ⟨p0, p1, p2, p3, p4, p5⟩ := (OV.out.below HB.out).all6
      have hki : (k : Int) < (n : Int) := by omega
      have HKN := Lib.hid hkn
      have HXX := Lib.hid hx
      clear hx hkn hk
      go_upto_region 5 with fail
      by_cases e0 : x.n = v.n
      case neg =>
        have hb : (x.n == v.n) = false := beq_eq_false_iff_ne.2 e0
        have NE := Lib.hid e0
        clear e0
        go_quiet (fail)
        clear g0 g1 g2 g3 g4 g5 p0 p1 p2 p3 p4 p5 hb
        have hk2 : (k : Int) + 1 ≤ 6000000000001 := by have := HKN.out; omega
        go_wp2_with fail
        go_roundw
        case rel =>
          obtain ⟨q, hq⟩ := HD.out
          exact ⟨k + 1, HKN.out, rfl, by go_num, ⟨q + nq, by rw [hq, World.drewN_drewN]⟩, fun j y hj hy => by
            by_cases e : j = k
            · subst e; rw [HXX.out] at hy; cases hy; exact NE.out
            · exact HN.out j y (by omega) hy⟩
        case measure => have := HKN.out; simp [intOf]; omega
      have E0 := Lib.hid e0
      rw [e0] at g0
      clear e0
      go_quiet (fail)
      have HB5 : Hid (Below w2.heap.size w2 (wr.drewN nq)) := Below.drewN HB.out nq
      generalize wr.drewN nq = w4 at HB5 ⊢
      clear g0 g1 g2 g3 g4 g5 p0 p1 p2 p3 p4 p5 HB HD
      have R4 := Lib.hid (H2.out.below HB5.out)
      have BW4 : Hid (Below w.heap.size w w4) := BW.out.trans (HB5.out.mono BW.out.size)
      have HPL : Hid (putF Bt.n Bt.wins L v = L.set k (if Bt.wins v x then v else x)) := by
        have hp : Plc Bt.n L v k true := .inl ⟨rfl, ⟨x, HXX.out, E0.out⟩, HN.out⟩
        rw [← hp.put]
        exact putL_set HXX.out
      go_wp2_with (at_builtin; go_loud (refine wpList_app rfl (.tmp 23) (.tmp 24) rfl eltApiBallot w.heap.size (.slice none 0 0) 0 [] rfl (World.ownsRow_nil _ _ _ _) (some ad) n c (CL Bt.cells L) rfl (by rw [CL_len (size := 6) (fun _ => rfl), HL.out]) HA.out (rdc_news (size := 6) (cells := Bt.cells) (by decide) (fun _ => rfl) R4.out) (CL_one (cells := Bt.cells) Bt.one L) ?a3 ?a4 ?a5 ?_))
      case a3 => have := HSM.out; simp only [maxLen]; omega
      case a4 => have := HSM.out; omega
      case a5 => exact BW4.out.size
      intro A5 c5 w5 ho5 hg5 _
      have B5 : Hid (Below w4.heap.size w4 w5) := ⟨hg5.os, hg5.tape, hg5.output, hg5.size, fun z hz => hg5.block z hz (fun e => by cases e)⟩
      have O5 : Hid (w5.ownsRow w.heap.size 53 6 (.slice A5 n c5) n (CL Bt.cells L)) := ho5
      clear ho5 hg5
      have BX5 : Hid (Below w.heap.size w w5) := BW4.out.trans (B5.out.mono BW4.out.size)
      have OV5 := Lib.hid ((OV.out.below HB5.out).below B5.out)
      have R5 := Lib.hid (R4.out.below B5.out)
      clear R4 B5 BW4 HB5
      obtain ⟨ad', e, g0, g1, g2, g3, g4, g5⟩ := R5.out.atBt HXX.out
      cases e
      obtain ⟨p0, p1, p2, p3, p4, p5⟩ := OV5.out.all6
      go_upto_region 7 with fail
      obtain ⟨ab, hab⟩ : ∃ ab, v.above x = ab := ⟨_, rfl⟩
      have FM := Lib.hid (fun y (hx : ((y.cell? ⟨r, 1, none⟩ = some (.int .u64 (v.h : Nat)) ∧ y.cell? ⟨r, 2, none⟩ = some (.int .u64 (v.l : Nat)) ∧ y.cell? ⟨r, 3, none⟩ = some (.int .i64 v.v) ∧ y.cell? ⟨r, 4, none⟩ = some (.int .i64 v.c) ∧ y.cell? ⟨r, 5, none⟩ = some (.slice v.A v.m v.k)) ∧ (y.cell? ⟨(ad.add (k * 6)).block, (ad.add (k * 6)).off + 1, none⟩ = some (.int .u64 (x.h : Nat)) ∧ y.cell? ⟨(ad.add (k * 6)).block, (ad.add (k * 6)).off + 2, none⟩ = some (.int .u64 (x.l : Nat)) ∧ y.cell? ⟨(ad.add (k * 6)).block, (ad.add (k * 6)).off + 3, none⟩ = some (.int .i64 x.v) ∧ y.cell? ⟨(ad.add (k * 6)).block, (ad.add (k * 6)).off + 4, none⟩ = some (.int .i64 x.c) ∧ y.cell? ⟨(ad.add (k * 6)).block, (ad.add (k * 6)).off + 5, none⟩ = some (.slice x.A x.m x.k)) ∧ Below w5.heap.size w5 y)) => (more_any v.v v.m v.c x.v x.m x.c y).mono (fun e y' (h9 : _ ∧ _) => show e = .returned (.bool ab) ∧ ((y'.cell? ⟨r, 1, none⟩ = some (.int .u64 (v.h : Nat)) ∧ y'.cell? ⟨r, 2, none⟩ = some (.int .u64 (v.l : Nat)) ∧ y'.cell? ⟨r, 3, none⟩ = some (.int .i64 v.v) ∧ y'.cell? ⟨r, 4, none⟩ = some (.int .i64 v.c) ∧ y'.cell? ⟨r, 5, none⟩ = some (.slice v.A v.m v.k)) ∧ (y'.cell? ⟨(ad.add (k * 6)).block, (ad.add (k * 6)).off + 1, none⟩ = some (.int .u64 (x.h : Nat)) ∧ y'.cell? ⟨(ad.add (k * 6)).block, (ad.add (k * 6)).off + 2, none⟩ = some (.int .u64 (x.l : Nat)) ∧ y'.cell? ⟨(ad.add (k * 6)).block, (ad.add (k * 6)).off + 3, none⟩ = some (.int .i64 x.v) ∧ y'.cell? ⟨(ad.add (k * 6)).block, (ad.add (k * 6)).off + 4, none⟩ = some (.int .i64 x.c) ∧ y'.cell? ⟨(ad.add (k * 6)).block, (ad.add (k * 6)).off + 5, none⟩ = some (.slice x.A x.m x.k)) ∧ Below w5.heap.size w5 y') from ⟨by rw [h9.1, more_aboveBallot, hab], h9.2 ▸ hx⟩))
      have FT := Lib.hid (fun y (hx : ((y.cell? ⟨r, 1, none⟩ = some (.int .u64 (v.h : Nat)) ∧ y.cell? ⟨r, 2, none⟩ = some (.int .u64 (v.l : Nat)) ∧ y.cell? ⟨r, 3, none⟩ = some (.int .i64 v.v) ∧ y.cell? ⟨r, 4, none⟩ = some (.int .i64 v.c) ∧ y.cell? ⟨r, 5, none⟩ = some (.slice v.A v.m v.k)) ∧ (y.cell? ⟨(ad.add (k * 6)).block, (ad.add (k * 6)).off + 1, none⟩ = some (.int .u64 (x.h : Nat)) ∧ y.cell? ⟨(ad.add (k * 6)).block, (ad.add (k * 6)).off + 2, none⟩ = some (.int .u64 (x.l : Nat)) ∧ y.cell? ⟨(ad.add (k * 6)).block, (ad.add (k * 6)).off + 3, none⟩ = some (.int .i64 x.v) ∧ y.cell? ⟨(ad.add (k * 6)).block, (ad.add (k * 6)).off + 4, none⟩ = some (.int .i64 x.c) ∧ y.cell? ⟨(ad.add (k * 6)).block, (ad.add (k * 6)).off + 5, none⟩ = some (.slice x.A x.m x.k)) ∧ Below w5.heap.size w5 y)) => (takes_any v.h v.l x.h x.l ab y).mono (fun e y' (h9 : _ ∧ _) => show e = .returned (.bool (Bt.wins v x)) ∧ ((y'.cell? ⟨r, 1, none⟩ = some (.int .u64 (v.h : Nat)) ∧ y'.cell? ⟨r, 2, none⟩ = some (.int .u64 (v.l : Nat)) ∧ y'.cell? ⟨r, 3, none⟩ = some (.int .i64 v.v) ∧ y'.cell? ⟨r, 4, none⟩ = some (.int .i64 v.c) ∧ y'.cell? ⟨r, 5, none⟩ = some (.slice v.A v.m v.k)) ∧ (y'.cell? ⟨(ad.add (k * 6)).block, (ad.add (k * 6)).off + 1, none⟩ = some (.int .u64 (x.h : Nat)) ∧ y'.cell? ⟨(ad.add (k * 6)).block, (ad.add (k * 6)).off + 2, none⟩ = some (.int .u64 (x.l : Nat)) ∧ y'.cell? ⟨(ad.add (k * 6)).block, (ad.add (k * 6)).off + 3, none⟩ = some (.int .i64 x.v) ∧ y'.cell? ⟨(ad.add (k * 6)).block, (ad.add (k * 6)).off + 4, none⟩ = some (.int .i64 x.c) ∧ y'.cell? ⟨(ad.add (k * 6)).block, (ad.add (k * 6)).off + 5, none⟩ = some (.slice x.A x.m x.k)) ∧ Below w5.heap.size w5 y') from ⟨by rw [h9.1, ← hab]; exact rfl, ⟨⟨(h9.2.cell (World.block_lt_of_cell? y _ hx.1.1)).trans hx.1.1, (h9.2.cell (World.block_lt_of_cell? y _ hx.1.2.1)).trans hx.1.2.1, (h9.2.cell (World.block_lt_of_cell? y _ hx.1.2.2.1)).trans hx.1.2.2.1, (h9.2.cell (World.block_lt_of_cell? y _ hx.1.2.2.2.1)).trans hx.1.2.2.2.1, (h9.2.cell (World.block_lt_of_cell? y _ hx.1.2.2.2.2)).trans hx.1.2.2.2.2⟩, ⟨(h9.2.cell (World.block_lt_of_cell? y _ hx.2.1.1)).trans hx.2.1.1, (h9.2.cell (World.block_lt_of_cell? y _ hx.2.1.2.1)).trans hx.2.1.2.1, (h9.2.cell (World.block_lt_of_cell? y _ hx.2.1.2.2.1)).trans hx.2.1.2.2.1, (h9.2.cell (World.block_lt_of_cell? y _ hx.2.1.2.2.2.1)).trans hx.2.1.2.2.2.1, (h9.2.cell (World.block_lt_of_cell? y _ hx.2.1.2.2.2.2)).trans hx.2.1.2.2.2.2⟩, hx.2.2.trans (h9.2.mono hx.2.2.size)⟩⟩))
      clear hab
      go_region_held3 (fun y => ((y.cell? ⟨r, 1, none⟩ = some (.int .u64 (v.h : Nat)) ∧ y.cell? ⟨r, 2, none⟩ = some (.int .u64 (v.l : Nat)) ∧ y.cell? ⟨r, 3, none⟩ = some (.int .i64 v.v) ∧ y.cell? ⟨r, 4, none⟩ = some (.int .i64 v.c) ∧ y.cell? ⟨r, 5, none⟩ = some (.slice v.A v.m v.k)) ∧ (y.cell? ⟨(ad.add (k * 6)).block, (ad.add (k * 6)).off + 1, none⟩ = some (.int .u64 (x.h : Nat)) ∧ y.cell? ⟨(ad.add (k * 6)).block, (ad.add (k * 6)).off + 2, none⟩ = some (.int .u64 (x.l : Nat)) ∧ y.cell? ⟨(ad.add (k * 6)).block, (ad.add (k * 6)).off + 3, none⟩ = some (.int .i64 x.v) ∧ y.cell? ⟨(ad.add (k * 6)).block, (ad.add (k * 6)).off + 4, none⟩ = some (.int .i64 x.c) ∧ y.cell? ⟨(ad.add (k * 6)).block, (ad.add (k * 6)).off + 5, none⟩ = some (.slice x.A x.m x.k)) ∧ Below w5.heap.size w5 y)) (first | exact ⟨⟨p1, p2, p3, p4, p5⟩, ⟨g1, g2, g3, g4, g5⟩, Below.drew (Below.refl _ _)⟩ | assumption | go_keep)
        (first | (go_at_call 102; refine (FT.out _ hxm).mono ?_; rintro e w6 ⟨rfl, hx'⟩) | (go_at_call 128; refine (FM.out _ (by first | assumption | (simp [*]))).mono ?_; rintro e wm ⟨rfl, hxm⟩))
      have H6 := Lib.hid hx'.2.2
      have OO := Lib.hid (own_kept O5.out H6.out)
      have BX := Lib.hid (BX5.out.trans (H6.out.mono BX5.out.size))
      have OV6 := Lib.hid (OV5.out.below H6.out)
      clear hx' hxm FM FT g0 g1 g2 g3 g4 g5 p0 p1 p2 p3 p4 p5 O5 BX5 OV5 R5 H6
      obtain ⟨bb, hbb⟩ : ∃ bb, Bt.wins v x = bb := ⟨_, rfl⟩
      rw [hbb] at HPL ⊢
      clear hbb
      cases bb with
      | true =>
        have HQ : Hid (putF Bt.n Bt.wins L v = L.set k v) := HPL.out
        obtain ⟨p0, p1, p2, p3, p4, p5⟩ := OV6.out.all6
        obtain ⟨gb, cap, hv, hgb, _⟩ := OO.out.form (by have := HKN.out; omega)
        cases hv
        have HGB : Hid (w.heap.size ≤ gb) := hgb
        have c0 := (OO.out.cellAt (k * 6) (by have := HKN.out; omega)).trans (CL_get (size := 6) (cells := Bt.cells) (fun _ => rfl) L k x HXX.out 0 (.int .i64 x.n) rfl)
        have c1 := (OO.out.cellAt (k * 6 + 1) (by have := HKN.out; omega)).trans (CL_get (size := 6) (cells := Bt.cells) (fun _ => rfl) L k x HXX.out 1 (.int .u64 (x.h : Nat)) rfl)
        have c2 := (OO.out.cellAt (k * 6 + 2) (by have := HKN.out; omega)).trans (CL_get (size := 6) (cells := Bt.cells) (fun _ => rfl) L k x HXX.out 2 (.int .u64 (x.l : Nat)) rfl)
        have c3 := (OO.out.cellAt (k * 6 + 3) (by have := HKN.out; omega)).trans (CL_get (size := 6) (cells := Bt.cells) (fun _ => rfl) L k x HXX.out 3 (.int .i64 x.v) rfl)
        have c4 := (OO.out.cellAt (k * 6 + 4) (by have := HKN.out; omega)).trans (CL_get (size := 6) (cells := Bt.cells) (fun _ => rfl) L k x HXX.out 4 (.int .i64 x.c) rfl)
        have c5 := (OO.out.cellAt (k * 6 + 5) (by have := HKN.out; omega)).trans (CL_get (size := 6) (cells := Bt.cells) (fun _ => rfl) L k x HXX.out 5 (.slice x.A x.m x.k) rfl)
        have f0 := OO.out.frozenAt (k * 6)
        have f1 := OO.out.frozenAt (k * 6 + 1)
        have f2 := OO.out.frozenAt (k * 6 + 2)
        have f3 := OO.out.frozenAt (k * 6 + 3)
        have f4 := OO.out.frozenAt (k * 6 + 4)
        have f5 := OO.out.frozenAt (k * 6 + 5)
        have zg : gb < w6.heap.size := World.block_lt_of_cell? w6 _ c0
        have zr := OV6.out.lt (by simp)
        clear hgb
        have BZ := Lib.hid ((((((BX.out.setCell (p := ⟨gb, k * 6, none⟩) HGB.out (.int .i64 v.n)).setCell (p := ⟨gb, k * 6 + 1, none⟩) HGB.out (.int .u64 (v.h : Nat))).setCell (p := ⟨gb, k * 6 + 2, none⟩) HGB.out (.int .u64 (v.l : Nat))).setCell (p := ⟨gb, k * 6 + 3, none⟩) HGB.out (.int .i64 v.v)).setCell (p := ⟨gb, k * 6 + 4, none⟩) HGB.out (.int .i64 v.c)).setCell (p := ⟨gb, k * 6 + 5, none⟩) HGB.out (.slice v.A v.m v.k))
        have OZ0 := ((((((OO.out.stored (k * 6) (.int .i64 v.n)).1.stored (k * 6 + 1) (.int .u64 (v.h : Nat))).1.stored (k * 6 + 2) (.int .u64 (v.l : Nat))).1.stored (k * 6 + 3) (.int .i64 v.v)).1.stored (k * 6 + 4) (.int .i64 v.c)).1.stored (k * 6 + 5) (.slice v.A v.m v.k)).1
        rw [← CL_set6Ballot v L k (by have := HKN.out; have := HL.out; omega)] at OZ0
        have OZ := Lib.hid OZ0
        clear OZ0
        go_wp2_with fail
        refine (copyBallots_any _ n _ (L.set k v) lg _ (rdBt OZ.out (by rw [List.length_set]; exact HL.out)) (fun r hr => HLG.out _ BZ.out r (by rw [HQ.out]; exact hr)) (by have := HSM.out; omega)).mono ?_
        rintro e w19 ⟨A19, c19, R19, rfl, hb19, ho19, hc19⟩
        have B19 := Lib.hid (BZ.out.trans (hb19.mono BZ.out.size))
        have O19 := Lib.hid (own_mono ho19 BZ.out.size)
        have C19 := Lib.hid (hc19.lower BZ.out.size)
        clear hb19 ho19 hc19
        go_wp2_with fail
        go_ret
        exact ⟨A19, c19, R19, by rw [HQ.out]; first | exact rfl | (rw [List.length_set]; exact rfl), B19.out, by rw [HQ.out]; exact O19.out, by rw [HQ.out]; exact C19.out⟩
      | false =>
        have HQ : Hid (putF Bt.n Bt.wins L v = L) := by rw [HPL.out]; exact set_same HXX.out
        go_wp2_with fail
        refine (copyBallots_any A5 n c5 L lg _ (rdBt OO.out HL.out) (fun r hr => HLG.out _ BX.out r (by rw [HQ.out]; exact hr)) (by have := HSM.out; omega)).mono ?_
        rintro e w19 ⟨A19, c19, R19, rfl, hb19, ho19, hc19⟩
        have B19 := Lib.hid (BX.out.trans (hb19.mono BX.out.size))
        have O19 := Lib.hid (own_mono ho19 BX.out.size)
        have C19 := Lib.hid (hc19.lower BX.out.size)
        clear hb19 ho19 hc19
        go_wp2_with fail
        go_ret
        exact ⟨A19, c19, R19, by rw [HQ.out]; first | exact rfl | (rw [List.length_set]; exact rfl), B19.out, by rw [HQ.out]; exact O19.out, by rw [HQ.out]; exact C19.out⟩
    · obtain rfl : n = k := by omega
      have hki : ¬ (n : Int) < (n : Int) := by omega
      have HNO : Hid (∀ j x, j < L.length → L[j]? = some x → x.n ≠ v.n) := fun j x hj => HN.out j x (by have := HL.out; omega)
      have B3 : Hid (Below w.heap.size w wr) := BW.out.trans (HB.out.mono BW.out.size)
      have OV3 := Lib.hid (OV.out.below HB.out)
      have HB0 : Hid (w.heap.size + 1 ≤ wr.heap.size) := by have := HZ.out; have := HRR.out; have := HB.out.size; simp only [Hid]; omega
      clear hkn hk HD HN HB OV H2 BW HZ
      go_wp2_with fail
      obtain ⟨w7, rfl⟩ : ∃ z, z = wr := ⟨_, rfl⟩
      go_loopw [5, 7, 8] (fun ov dv iv wr => ∃ (k a : Nat) (A' : Option Addr) (c' : Nat) (done : Bool) (P : List Bt), k ≤ n ∧ iv = .int .i64 k ∧ dv = .bool done ∧ ov = .slice A' P.length c' ∧ Hid (P = outK Bt.wins L v a false k) ∧ Hid (Below w.heap.size w wr ∧ Ob wr r [.int .i64 v.n, .int .u64 (v.h : Nat), .int .u64 (v.l : Nat), .int .i64 v.v, .int .i64 v.c, .slice v.A v.m v.k] ∧ w.heap.size + 1 ≤ wr.heap.size) ∧ Hid (wr.ownsRow (w.heap.size + 1) 53 6 (.slice A' P.length c') P.length (CL Bt.cells P)) ∧ Hid (P.length = k + if done then 1 else 0) ∧
        Hid ((done = true → a < k) ∧ (done = false → a = n) ∧ (∀ x, L[a]? = some x → v.n < x.n) ∧ (∀ j x, j < a → j < k → L[j]? = some x → x.n ≤ v.n))) (fun _ _ iv _ => n - (intOf iv).toNat)
      case atStart => exact ⟨0, n, none, 0, false, [], by omega, rfl, rfl, rfl, rfl, ⟨B3.out, OV3.out, HB0.out⟩, World.ownsRow_nil _ _ _ _, rfl, (fun h => by cases h), (fun _ => rfl), (fun x hx => by have := (List.getElem?_eq_some_iff.1 hx).1; have := HL.out; omega), (fun j x _ hj => by omega)⟩
      case round =>
        obtain ⟨k, a, A', c', done, P, hk, rfl, rfl, rfl, HP, HW, HO, HPL, HC⟩ := hrel
        by_cases hkn : k < n
        · obtain ⟨x, hx⟩ : ∃ x, L[k]? = some x := ⟨_, List.getElem?_eq_getElem (by have := HL.out; omega)⟩
          obtain ⟨ad, rfl, g0, g1, g2, g3, g4, g5⟩ := (H.out.below HW.out.1).atBt hx
          obtain ⟨p0, p1, p2, p3, p4, p5⟩ := HW.out.2.1.all6
          have hki : (k : Int) < (n : Int) := by omega
          have HKN := Lib.hid hkn
          have HXX := Lib.hid hx
          have HNX := Lib.hid (outK_succ Bt.wins v a false hx)
          have HNK := Lib.hid (outK_succ Bt.wins v k false hx)
          clear hx hkn hk
          go_upto_region 14 with fail
          go_cut [81] (fun bv wx => ∃ (b1 : Bool), bv = .bool b1 ∧ Hid (b1 = true ↔ done = false ∧ v.n < x.n) ∧ Hid (∃ q, wx = wr.drewN q))
          case first =>
            cases done with
            | true =>
              go_quiet (fail)
              go_wp2_with fail
              go_meet
              exact ⟨false, rfl, ⟨(fun h => by cases h), (fun h => by cases h.1)⟩, nq, rfl⟩
            | false =>
              by_cases h1 : v.n < x.n
              case pos =>
                have H1 := Lib.hid h1
                go_quiet (fail)
                go_wp2_with fail
                go_meet
                exact ⟨true, rfl, ⟨(fun _ => ⟨by trivial, H1.out⟩), (fun _ => rfl)⟩, nq, rfl⟩
              case neg =>
                have H1 := Lib.hid h1
                go_quiet (fail)
                go_wp2_with fail
                go_meet
                exact ⟨false, rfl, ⟨(fun h => by cases h), (fun h => by have := H1.out; omega)⟩, nq, rfl⟩
          case rest =>
            obtain ⟨b1, rfl, HB1, HQ⟩ := hcut
            have W8 : Hid (Below w.heap.size w wc ∧ Ob wc r [.int .i64 v.n, .int .u64 (v.h : Nat), .int .u64 (v.l : Nat), .int .i64 v.v, .int .i64 v.c, .slice v.A v.m v.k] ∧ w.heap.size + 1 ≤ wc.heap.size) := by obtain ⟨q, hq⟩ := HQ.out; rw [hq]; exact ⟨Below.drewN HW.out.1 q, HW.out.2.1.drewN q, HW.out.2.2⟩
            have O8 : Hid (wc.ownsRow (w.heap.size + 1) 53 6 (.slice A' P.length c') P.length (CL Bt.cells P)) := by obtain ⟨q, hq⟩ := HQ.out; rw [hq]; exact own_kept HO.out (Below.drewN (Below.refl _ _) q)
            clear HQ HW HO g0 g1 g2 g3 g4 g5 p0 p1 p2 p3 p4 p5
            obtain ⟨w8, rfl⟩ : ∃ z, z = wc := ⟨_, rfl⟩
            have HLE : Hid (P.length ≤ n) := by have h2 := HKN.out; have h1 := HPL.out; simp only [Hid]; split at h1 <;> omega
            have hk2 : (k : Int) + 1 ≤ 6000000000001 := by have := HKN.out; omega
            cases b1 with
            | true =>
              obtain ⟨hd, hvx⟩ := HB1.out.1 rfl
              subst hd
              have HVX := Lib.hid hvx
              have HAN : Hid (a = n) := HC.out.2.1 rfl
              have HC4 : Hid (∀ j x, j < a → j < k → L[j]? = some x → x.n ≤ v.n) := HC.out.2.2.2
              have HPK : Hid (outK Bt.wins L v k false k = P) := by rw [HP.out, HAN.out, outK_far k (Nat.le_refl _) (by have := HKN.out; have := HL.out; omega), outK_far k (by have := HKN.out; omega) (by have := HKN.out; have := HL.out; omega)]; exact rfl
              have HPL0 := Lib.hid (show P.length = k by have h1 := HPL.out; simpa using h1)
              clear hvx HC HPL HB1
              obtain ⟨p0, p1, p2, p3, p4, p5⟩ := W8.out.2.1.all6
              go_wp2_with (at_builtin; refine wpList_app rfl (.tmp 82) (.tmp 84) rfl eltApiBallot (w.heap.size + 1) (.slice A' P.length c') P.length (CL Bt.cells P) rfl (O8.out.alloc _) (some ⟨w8.heap.size, 0, none⟩) 1 1 v.cells rfl rfl (fun h => by cases h) (fresh_news w8 v.cells.toArray 53) (Bt.one v) ?b3 ?b4 ?b5 ?_)
              case b3 => have := HSM.out; have := HLE.out; simp only [maxLen]; omega
              case b4 => have := HSM.out; have := HLE.out; omega
              case b5 => have := W8.out.2.2; simp; omega
              intro A9 c9 w9 ho9 hg9 _
              have G9 := Lib.hid ((World.grownBy_alloc w8 _ (Value.slice A' P.length c').ownBlock).trans hg9)
              have W9 : Hid (Below w.heap.size w w9 ∧ Ob w9 r [.int .i64 v.n, .int .u64 (v.h : Nat), .int .u64 (v.l : Nat), .int .i64 v.v, .int .i64 v.c, .slice v.A v.m v.k] ∧ w.heap.size + 1 ≤ w9.heap.size) := ⟨W8.out.1.trans ⟨G9.out.os, G9.out.tape, G9.out.output, G9.out.size, fun z hz => G9.out.block z (by have := W8.out.2.2; omega) (fun e => by have := (O8.out.lt z e.symm).1; omega)⟩, W8.out.2.1.kept G9.out (fun e => by have := (O8.out.lt r e.symm).1; have := HRR.out; omega), Nat.le_trans W8.out.2.2 G9.out.size⟩
              obtain ⟨P9, hp9⟩ : ∃ P', P ++ [v] = P' := ⟨_, rfl⟩
              have HPN9 := Lib.hid hp9
              have HE : Hid (P.length + 1 = P9.length) := by rw [← hp9]; simp [Hid]
              have O9 : Hid (w9.ownsRow (w.heap.size + 1) 53 6 (.slice A9 P9.length c9) P9.length (CL Bt.cells P9)) := by rw [← HE.out, ← hp9, CL_push]; exact ho9
              rw [HE.out]
              clear ho9 hg9 G9 hp9 HE
              clear p0 p1 p2 p3 p4 p5
              have HLE9 : Hid (P9.length ≤ n + 1) := by rw [← HPN9.out]; have := HLE.out; simp only [Hid, List.length_append, List.length_cons, List.length_nil]; omega
              obtain ⟨ad', e, g0, g1, g2, g3, g4, g5⟩ := (H.out.below W9.out.1).atBt HXX.out
              cases e
              go_wp2_with (at_builtin; refine wpList_app rfl (.tmp 86) (.tmp 91) rfl eltApiBallot (w.heap.size + 1) (.slice A9 P9.length c9) P9.length (CL Bt.cells P9) rfl (O9.out.alloc _) (some ⟨w9.heap.size, 0, none⟩) 1 1 x.cells rfl rfl (fun h => by cases h) (fresh_news w9 x.cells.toArray 53) (Bt.one x) ?e3 ?e4 ?e5 ?_)
              case e3 => have := HSM.out; have := HLE9.out; simp only [maxLen]; omega
              case e4 => have := HSM.out; have := HLE9.out; omega
              case e5 => have := W9.out.2.2; simp; omega
              intro A10 c10 w10 ho9 hg9 _
              have G9 := Lib.hid ((World.grownBy_alloc w9 _ (Value.slice A9 P9.length c9).ownBlock).trans hg9)
              have W10 : Hid (Below w.heap.size w w10 ∧ Ob w10 r [.int .i64 v.n, .int .u64 (v.h : Nat), .int .u64 (v.l : Nat), .int .i64 v.v, .int .i64 v.c, .slice v.A v.m v.k] ∧ w.heap.size + 1 ≤ w10.heap.size) := ⟨W9.out.1.trans ⟨G9.out.os, G9.out.tape, G9.out.output, G9.out.size, fun z hz => G9.out.block z (by have := W9.out.2.2; omega) (fun e => by have := (O9.out.lt z e.symm).1; omega)⟩, W9.out.2.1.kept G9.out (fun e => by have := (O9.out.lt r e.symm).1; have := HRR.out; omega), Nat.le_trans W9.out.2.2 G9.out.size⟩
              obtain ⟨P10, hp10⟩ : ∃ P', P9 ++ [x] = P' := ⟨_, rfl⟩
              have HPN10 := Lib.hid hp10
              have HE : Hid (P9.length + 1 = P10.length) := by rw [← hp10]; simp [Hid]
              have O10 : Hid (w10.ownsRow (w.heap.size + 1) 53 6 (.slice A10 P10.length c10) P10.length (CL Bt.cells P10)) := by rw [← HE.out, ← hp10, CL_push]; exact ho9
              rw [HE.out]
              clear ho9 hg9 G9 hp10 HE
              clear g0 g1 g2 g3 g4 g5
              go_wp2_with fail
              go_roundw
              case rel => exact ⟨k + 1, k, A10, c10, true, P10, HKN.out, by go_num, rfl, rfl, by rw [HNK.out, HPK.out, ← HPN10.out, ← HPN9.out]; simp [pce, Hid], W10.out, O10.out, by rw [← HPN10.out, ← HPN9.out]; have := HPL0.out; simp only [Hid, List.length_append, List.length_cons, List.length_nil, if_true] at this ⊢; omega, (fun _ => by omega), (fun h => by cases h), (fun y hy => by rw [HXX.out] at hy; cases hy; exact HVX.out), (fun j y hj _ hy => HC4.out j y (by have := HAN.out; have := HKN.out; omega) hj hy)⟩
              case measure => have := HKN.out; simp [intOf]; omega
            | false =>
              have HKA : Hid ((k == a) = false) := beq_eq_false_iff_ne.2 (fun e => by
                cases done with
                | true => have := HC.out.1 rfl; omega
                | false => have := HC.out.2.1 rfl; have := HKN.out; omega)
              obtain ⟨ad', e, g0, g1, g2, g3, g4, g5⟩ := (H.out.below W8.out.1).atBt HXX.out
              cases e
              go_wp2_with (at_builtin; refine wpList_app rfl (.tmp 86) (.tmp 91) rfl eltApiBallot (w.heap.size + 1) (.slice A' P.length c') P.length (CL Bt.cells P) rfl (O8.out.alloc _) (some ⟨w8.heap.size, 0, none⟩) 1 1 x.cells rfl rfl (fun h => by cases h) (fresh_news w8 x.cells.toArray 53) (Bt.one x) ?f3 ?f4 ?f5 ?_)
              case f3 => have := HSM.out; have := HLE.out; simp only [maxLen]; omega
              case f4 => have := HSM.out; have := HLE.out; omega
              case f5 => have := W8.out.2.2; simp; omega
              intro A9 c9 w9 ho9 hg9 _
              have G9 := Lib.hid ((World.grownBy_alloc w8 _ (Value.slice A' P.length c').ownBlock).trans hg9)
              have W9 : Hid (Below w.heap.size w w9 ∧ Ob w9 r [.int .i64 v.n, .int .u64 (v.h : Nat), .int .u64 (v.l : Nat), .int .i64 v.v, .int .i64 v.c, .slice v.A v.m v.k] ∧ w.heap.size + 1 ≤ w9.heap.size) := ⟨W8.out.1.trans ⟨G9.out.os, G9.out.tape, G9.out.output, G9.out.size, fun z hz => G9.out.block z (by have := W8.out.2.2; omega) (fun e => by have := (O8.out.lt z e.symm).1; omega)⟩, W8.out.2.1.kept G9.out (fun e => by have := (O8.out.lt r e.symm).1; have := HRR.out; omega), Nat.le_trans W8.out.2.2 G9.out.size⟩
              obtain ⟨P9, hp9⟩ : ∃ P', P ++ [x] = P' := ⟨_, rfl⟩
              have HPN9 := Lib.hid hp9
              have HE : Hid (P.length + 1 = P9.length) := by rw [← hp9]; simp [Hid]
              have O9 : Hid (w9.ownsRow (w.heap.size + 1) 53 6 (.slice A9 P9.length c9) P9.length (CL Bt.cells P9)) := by rw [← HE.out, ← hp9, CL_push]; exact ho9
              rw [HE.out]
              clear ho9 hg9 G9 hp9 HE
              clear g0 g1 g2 g3 g4 g5
              go_wp2_with fail
              go_roundw
              case rel => exact ⟨k + 1, a, A9, c9, done, P9, HKN.out, by go_num, rfl, rfl, by rw [HNX.out, HKA.out, ← HP.out, ← HPN9.out]; exact rfl, W9.out, O9.out, by rw [← HPN9.out]; have := HPL.out; simp only [Hid, List.length_append, List.length_cons, List.length_nil] at this ⊢; omega, (fun h => by have := HC.out.1 h; omega), HC.out.2.1, HC.out.2.2.1, (fun j y hj hjk hy => by
                by_cases e : j = k
                · subst e
                  rw [HXX.out] at hy
                  cases hy
                  cases done with
                  | true => have := HC.out.1 rfl; omega
                  | false => exact Int.not_lt.1 fun h => by have := HB1.out.2 ⟨rfl, h⟩; cases this
                · exact HC.out.2.2.2 j y hj (by omega) hy)⟩
              case measure => have := HKN.out; simp [intOf]; omega
        · obtain rfl : n = k := by omega
          have HPC : Hid (Plc Bt.n L v a false) := .inr ⟨rfl, HNO.out, by
            have := HL.out
            cases done with
            | true => have := HC.out.1 rfl; omega
            | false => have := HC.out.2.1 rfl; omega, HC.out.2.2.1, fun j y hj hy => Int.not_lt.2 <| HC.out.2.2.2 j y hj (by have := (List.getElem?_eq_some_iff.1 hy).1; have := HL.out; omega) hy⟩
          have HLE : Hid (P.length ≤ n + 1) := by have h1 := HPL.out; simp only [Hid]; split at h1 <;> omega
          clear hkn hk
          cases done with
          | true =>
            have HQ : Hid (putF Bt.n Bt.wins L v = P) := by
              have h1 := HC.out.1 rfl
              have h2 : ¬ a = L.length := by have := HL.out; omega
              rw [← HPC.out.put, HP.out]
              unfold putL
              rw [if_neg h2, List.append_nil, HL.out]
              exact rfl
            have HW1 := Lib.hid HW.out.1
            go_wp2_with fail
            refine (copyBallots_any A' P.length c' P lg _ (rdBt HO.out rfl) (fun r hr => HLG.out _ HW1.out r (by rw [HQ.out]; exact hr)) (by have := HSM.out; have := HLE.out; omega)).mono ?_
            rintro e w19 ⟨A19, c19, R19, rfl, hb19, ho19, hc19⟩
            have B19 := Lib.hid (HW1.out.trans (hb19.mono HW1.out.size))
            have O19 := Lib.hid (own_mono ho19 HW1.out.size)
            have C19 := Lib.hid (hc19.lower HW1.out.size)
            clear hb19 ho19 hc19
            go_wp2_with fail
            go_ret
            exact ⟨A19, c19, R19, by rw [HQ.out]; first | exact rfl | (rw [List.length_set]; exact rfl), B19.out, by rw [HQ.out]; exact O19.out, by rw [HQ.out]; exact C19.out⟩
          | false =>
            have HQ : Hid (putF Bt.n Bt.wins L v = P ++ [v]) := by
              have h1 := HC.out.2.1 rfl
              rw [← HPC.out.put, HP.out]
              unfold putL
              rw [if_pos (by rw [HL.out]; exact h1), HL.out]
              exact rfl
            obtain ⟨p0, p1, p2, p3, p4, p5⟩ := HW.out.2.1.all6
            go_wp2_with (at_builtin; refine wpList_app rfl (.tmp 95) (.tmp 97) rfl eltApiBallot (w.heap.size + 1) (.slice A' P.length c') P.length (CL Bt.cells P) rfl (HO.out.alloc _) (some ⟨wr.heap.size, 0, none⟩) 1 1 v.cells rfl rfl (fun h => by cases h) (fresh_news wr v.cells.toArray 53) (Bt.one v) ?i3 ?i4 ?i5 ?_)
            case i3 => have := HSM.out; have := HLE.out; simp only [maxLen]; omega
            case i4 => have := HSM.out; have := HLE.out; omega
            case i5 => have := HW.out.2.2; simp; omega
            intro A9 c9 w9 ho9 hg9 _
            have G9 := Lib.hid ((World.grownBy_alloc wr _ (Value.slice A' P.length c').ownBlock).trans hg9)
            have W9 : Hid (Below w.heap.size w w9 ∧ Ob w9 r [.int .i64 v.n, .int .u64 (v.h : Nat), .int .u64 (v.l : Nat), .int .i64 v.v, .int .i64 v.c, .slice v.A v.m v.k] ∧ w.heap.size + 1 ≤ w9.heap.size) := ⟨HW.out.1.trans ⟨G9.out.os, G9.out.tape, G9.out.output, G9.out.size, fun z hz => G9.out.block z (by have := HW.out.2.2; omega) (fun e => by have := (HO.out.lt z e.symm).1; omega)⟩, HW.out.2.1.kept G9.out (fun e => by have := (HO.out.lt r e.symm).1; have := HRR.out; omega), Nat.le_trans HW.out.2.2 G9.out.size⟩
            obtain ⟨P9, hp9⟩ : ∃ P', P ++ [v] = P' := ⟨_, rfl⟩
            have HPN9 := Lib.hid hp9
            have HE : Hid (P.length + 1 = P9.length) := by rw [← hp9]; simp [Hid]
            have O9 : Hid (w9.ownsRow (w.heap.size + 1) 53 6 (.slice A9 P9.length c9) P9.length (CL Bt.cells P9)) := by rw [← HE.out, ← hp9, CL_push]; exact ho9
            rw [HE.out]
            clear ho9 hg9 G9 hp9 HE
            have HW1 := Lib.hid W9.out.1
            rw [HPN9.out] at HQ
            have HLE9 : Hid (P9.length ≤ n + 2) := by rw [← HPN9.out]; have := HLE.out; simp only [Hid, List.length_append, List.length_cons, List.length_nil]; omega
            have HLP : Hid (P9.length ≤ n + 1) := by have := putF_len Bt.n Bt.wins L v; rw [HQ.out, HL.out] at this; exact this
            go_wp2_with fail
            refine (copyBallots_any A9 P9.length c9 P9 lg _ (rdBt O9.out rfl) (fun r hr => HLG.out _ HW1.out r (by rw [HQ.out]; exact hr)) (by have := HSM.out; have := HLP.out; omega)).mono ?_
            rintro e w19 ⟨A19, c19, R19, rfl, hb19, ho19, hc19⟩
            have B19 := Lib.hid (HW1.out.trans (hb19.mono HW1.out.size))
            have O19 := Lib.hid (own_mono ho19 HW1.out.size)
            have C19 := Lib.hid (hc19.lower HW1.out.size)
            clear hb19 ho19 hc19
            go_wp2_with fail
            go_ret
            exact ⟨A19, c19, R19, by rw [HQ.out]; first | exact rfl | (rw [List.length_set]; exact rfl), B19.out, by rw [HQ.out]; exact O19.out, by rw [HQ.out]; exact C19.out⟩
end Go.Proofs.Ytjjobgolpedgeaa
set_option linter.unusedVariables false
set_option linter.unusedSimpArgs false
namespace Go.Proofs.Ytjjobgolpedgeaa
open Go.RowKit

theorem more_aboveAnswer (v x : Bt) : moreF v.v v.m v.c x.v x.m x.c = v.above x := by
  unfold moreF Bt.above longer
  by_cases h0 : v.v = x.v
  · rw [if_neg (show ¬ (v.v ≠ x.v) from fun h => h h0), if_pos h0]
    by_cases h1 : v.m = x.m
    · rw [if_neg (show ¬ ((v.m : Int) ≠ (x.m : Int)) from fun h => h (by omega)), decide_eq_false (show ¬ ((x.m : Int) < v.m) by omega), decide_eq_true (show (v.m : Int) = x.m by omega), Bool.false_or, Bool.true_and]
    · rw [if_pos (show ((v.m : Int) ≠ (x.m : Int)) by omega), decide_eq_false (show ¬ ((v.m : Int) = x.m) by omega), Bool.false_and, Bool.or_false]
  · rw [if_pos h0, if_neg h0]
theorem CL_set6Answer (v : Bt) : ∀ (L : List Bt) (i : Nat), i < L.length → CL Bt.cells (L.set i v) = ((((((CL Bt.cells L).set (i * 6) (.int .i64 v.n)).set (i * 6 + 1) (.int .u64 (v.h : Nat))).set (i * 6 + 2) (.int .u64 (v.l : Nat))).set (i * 6 + 3) (.int .i64 v.v)).set (i * 6 + 4) (.int .i64 v.c)).set (i * 6 + 5) (.slice v.A v.m v.k) := by
  intro L
  induction L with
  | nil => intro i h; simp at h
  | cons x t ih =>
    intro i h
    cases i with
    | zero => rfl
    | succ i =>
      have := ih i (by simpa using h)
      have e : (i + 1) * 6 = i * 6 + 1 + 1 + 1 + 1 + 1 + 1 := by omega
      rw [e]
      simp only [CL, List.set_cons_succ, List.flatMap_cons, Bt.cells, List.cons_append, List.nil_append] at this ⊢
      rw [this]
set_option maxHeartbeats 16000000 in
set_option maxRecDepth 100000 in
theorem refPutAnswer_fn (A : Option Addr) (n c : Nat) (L : List Bt) (v : Bt) (lg : Bt → List Et) (w : World) (h : RdC 6 Bt.cells w A n L) (hlg : ∀ r, r = v ∨ r ∈ L → LgOk lg w r) (hA : A = none → n = 0 ∧ c = 0) (hsm : (n + 3) * 64 ≤ 140737488355328) :
    Calls Try.prog 61 #[.slice A n c, v.agg] w (RetB 38 lg w (putF Bt.n Bt.wins L v)) := by
  have H := Lib.hid h
  have HA := Lib.hid hA
  have HL := Lib.hid h.len
  have hn : (n : Int) ≤ 6000000000000 := by omega
  have HSM := Lib.hid hsm
  have HLG : Hid (∀ W', Below w.heap.size w W' → ∀ r, r ∈ putF Bt.n Bt.wins L v → LgOk lg W' r) := fun W' hb r hr => ⟨(hlg r (putF_mem hr)).1.below hb, (hlg r (putF_mem hr)).2⟩
  clear h hA hsm hlg
  go_enter Try.func61, Try.ntmps61
  go_wp2_with fail
  have OV := Lib.hid (Ob.fresh w #[.int .i64 v.n, .int .u64 (v.h : Nat), .int .u64 (v.l : Nat), .int .i64 v.v, .int .i64 v.c, .slice v.A v.m v.k] 38)
  have BW : Hid (Below w.heap.size w (w.alloc (.cells #[.int .i64 v.n, .int .u64 (v.h : Nat), .int .u64 (v.l : Nat), .int .i64 v.v, .int .i64 v.c, .slice v.A v.m v.k] 38))) := below_al _ _
  have HZ : Hid (w.heap.size < (w.alloc (.cells #[.int .i64 v.n, .int .u64 (v.h : Nat), .int .u64 (v.l : Nat), .int .i64 v.v, .int .i64 v.c, .slice v.A v.m v.k] 38)).heap.size) := by simp only [Hid, World.size_alloc]; omega
  generalize w.alloc (.cells #[.int .i64 v.n, .int .u64 (v.h : Nat), .int .u64 (v.l : Nat), .int .i64 v.v, .int .i64 v.c, .slice v.A v.m v.k] 38) = w2 at OV BW HZ ⊢
  obtain ⟨r, hr⟩ : ∃ r, w.heap.size = r := ⟨_, rfl⟩
  rw [hr] at OV HZ ⊢
  have HRR := Lib.hid hr
  clear hr
  have H2 := Lib.hid (H.out.below BW.out)
  go_loopw [5, 6] (fun ov iv wr => ∃ (k : Nat), k ≤ n ∧ ov = .slice none 0 0 ∧ iv = .int .i64 k ∧ Hid (∃ q, wr = w2.drewN q) ∧ Hid (∀ j x, j < k → L[j]? = some x → x.n ≠ v.n)) (fun _ iv _ => n - (intOf iv).toNat)
  case atStart => exact ⟨0, by omega, rfl, rfl, ⟨0, rfl⟩, fun j x hj => by omega⟩
  case round =>
    obtain ⟨k, hk, rfl, rfl, HD, HN⟩ := hrel
    have HB : Hid (Below w2.heap.size w2 wr) := by obtain ⟨q, hq⟩ := HD.out; rw [hq]; exact Below.drewN (Below.refl _ _) q
    by_cases hkn : k < n
    · obtain ⟨x, hx⟩ : ∃ x, L[k]? = some x := ⟨_, List.getElem?_eq_getElem (by have := HL.out; omega)⟩
      obtain ⟨ad, rfl, g0, g1, g2, g3, g4, g5⟩ := (H2.out.below HB.out).atBt hx
      obtain ⟨p0, p1, p2, p3, p4, p5⟩ := (OV.out.below HB.out).all6
      have hki : (k : Int) < (n : Int) := by omega
      have HKN := Lib.hid hkn
      have HXX := Lib.hid hx
      clear hx hkn hk
      go_upto_region 5 with fail
      by_cases e0 : x.n = v.n
      case neg =>
        have hb : (x.n == v.n) = false := beq_eq_false_iff_ne.2 e0
        have NE := Lib.hid e0
        clear e0
        go_quiet (fail)
        clear g0 g1 g2 g3 g4 g5 p0 p1 p2 p3 p4 p5 hb
        have hk2 : (k : Int) + 1 ≤ 6000000000001 := by have := HKN.out; omega
        go_wp2_with fail
        go_roundw
        case rel =>
          obtain ⟨q, hq⟩ := HD.out
          exact ⟨k + 1, HKN.out, rfl, by go_num, ⟨q + nq, by rw [hq, World.drewN_drewN]⟩, fun j y hj hy => by
            by_cases e : j = k
            · subst e; rw [HXX.out] at hy; cases hy; exact NE.out
            · exact HN.out j y (by omega) hy⟩
        case measure => have := HKN.out; simp [intOf]; omega
      have E0 := Lib.hid e0
      rw [e0] at g0
      clear e0
      go_quiet (fail)
      have HB5 : Hid (Below w2.heap.size w2 (wr.drewN nq)) := Below.drewN HB.out nq
      generalize wr.drewN nq = w4 at HB5 ⊢
      clear g0 g1 g2 g3 g4 g5 p0 p1 p2 p3 p4 p5 HB HD
      have R4 := Lib.hid (H2.out.below HB5.out)
      have BW4 : Hid (Below w.heap.size w w4) := BW.out.trans (HB5.out.mono BW.out.size)
      have HPL : Hid (putF Bt.n Bt.wins L v = L.set k (if Bt.wins v x then v else x)) := by
        have hp : Plc Bt.n L v k true := .inl ⟨rfl, ⟨x, HXX.out, E0.out⟩, HN.out⟩
        rw [← hp.put]
        exact putL_set HXX.out
      go_wp2_with (at_builtin; go_loud (refine wpList_app rfl (.tmp 23) (.tmp 24) rfl eltApiAnswer w.heap.size (.slice none 0 0) 0 [] rfl (World.ownsRow_nil _ _ _ _) (some ad) n c (CL Bt.cells L) rfl (by rw [CL_len (size := 6) (fun _ => rfl), HL.out]) HA.out (rdc_news (size := 6) (cells := Bt.cells) (by decide) (fun _ => rfl) R4.out) (CL_one (cells := Bt.cells) Bt.one L) ?a3 ?a4 ?a5 ?_))
      case a3 => have := HSM.out; simp only [maxLen]; omega
      case a4 => have := HSM.out; omega
      case a5 => exact BW4.out.size
      intro A5 c5 w5 ho5 hg5 _
      have B5 : Hid (Below w4.heap.size w4 w5) := ⟨hg5.os, hg5.tape, hg5.output, hg5.size, fun z hz => hg5.block z hz (fun e => by cases e)⟩
      have O5 : Hid (w5.ownsRow w.heap.size 38 6 (.slice A5 n c5) n (CL Bt.cells L)) := ho5
      clear ho5 hg5
      have BX5 : Hid (Below w.heap.size w w5) := BW4.out.trans (B5.out.mono BW4.out.size)
      have OV5 := Lib.hid ((OV.out.below HB5.out).below B5.out)
      have R5 := Lib.hid (R4.out.below B5.out)
      clear R4 B5 BW4 HB5
      obtain ⟨ad', e, g0, g1, g2, g3, g4, g5⟩ := R5.out.atBt HXX.out
      cases e
      obtain ⟨p0, p1, p2, p3, p4, p5⟩ := OV5.out.all6
      go_upto_region 7 with fail
      obtain ⟨ab, hab⟩ : ∃ ab, v.above x = ab := ⟨_, rfl⟩
      have FM := Lib.hid (fun y (hx : ((y.cell? ⟨r, 1, none⟩ = some (.int .u64 (v.h : Nat)) ∧ y.cell? ⟨r, 2, none⟩ = some (.int .u64 (v.l : Nat)) ∧ y.cell? ⟨r, 3, none⟩ = some (.int .i64 v.v) ∧ y.cell? ⟨r, 4, none⟩ = some (.int .i64 v.c) ∧ y.cell? ⟨r, 5, none⟩ = some (.slice v.A v.m v.k)) ∧ (y.cell? ⟨(ad.add (k * 6)).block, (ad.add (k * 6)).off + 1, none⟩ = some (.int .u64 (x.h : Nat)) ∧ y.cell? ⟨(ad.add (k * 6)).block, (ad.add (k * 6)).off + 2, none⟩ = some (.int .u64 (x.l : Nat)) ∧ y.cell? ⟨(ad.add (k * 6)).block, (ad.add (k * 6)).off + 3, none⟩ = some (.int .i64 x.v) ∧ y.cell? ⟨(ad.add (k * 6)).block, (ad.add (k * 6)).off + 4, none⟩ = some (.int .i64 x.c) ∧ y.cell? ⟨(ad.add (k * 6)).block, (ad.add (k * 6)).off + 5, none⟩ = some (.slice x.A x.m x.k)) ∧ Below w5.heap.size w5 y)) => (more_any v.v v.m v.c x.v x.m x.c y).mono (fun e y' (h9 : _ ∧ _) => show e = .returned (.bool ab) ∧ ((y'.cell? ⟨r, 1, none⟩ = some (.int .u64 (v.h : Nat)) ∧ y'.cell? ⟨r, 2, none⟩ = some (.int .u64 (v.l : Nat)) ∧ y'.cell? ⟨r, 3, none⟩ = some (.int .i64 v.v) ∧ y'.cell? ⟨r, 4, none⟩ = some (.int .i64 v.c) ∧ y'.cell? ⟨r, 5, none⟩ = some (.slice v.A v.m v.k)) ∧ (y'.cell? ⟨(ad.add (k * 6)).block, (ad.add (k * 6)).off + 1, none⟩ = some (.int .u64 (x.h : Nat)) ∧ y'.cell? ⟨(ad.add (k * 6)).block, (ad.add (k * 6)).off + 2, none⟩ = some (.int .u64 (x.l : Nat)) ∧ y'.cell? ⟨(ad.add (k * 6)).block, (ad.add (k * 6)).off + 3, none⟩ = some (.int .i64 x.v) ∧ y'.cell? ⟨(ad.add (k * 6)).block, (ad.add (k * 6)).off + 4, none⟩ = some (.int .i64 x.c) ∧ y'.cell? ⟨(ad.add (k * 6)).block, (ad.add (k * 6)).off + 5, none⟩ = some (.slice x.A x.m x.k)) ∧ Below w5.heap.size w5 y') from ⟨by rw [h9.1, more_aboveAnswer, hab], h9.2 ▸ hx⟩))
      have FT := Lib.hid (fun y (hx : ((y.cell? ⟨r, 1, none⟩ = some (.int .u64 (v.h : Nat)) ∧ y.cell? ⟨r, 2, none⟩ = some (.int .u64 (v.l : Nat)) ∧ y.cell? ⟨r, 3, none⟩ = some (.int .i64 v.v) ∧ y.cell? ⟨r, 4, none⟩ = some (.int .i64 v.c) ∧ y.cell? ⟨r, 5, none⟩ = some (.slice v.A v.m v.k)) ∧ (y.cell? ⟨(ad.add (k * 6)).block, (ad.add (k * 6)).off + 1, none⟩ = some (.int .u64 (x.h : Nat)) ∧ y.cell? ⟨(ad.add (k * 6)).block, (ad.add (k * 6)).off + 2, none⟩ = some (.int .u64 (x.l : Nat)) ∧ y.cell? ⟨(ad.add (k * 6)).block, (ad.add (k * 6)).off + 3, none⟩ = some (.int .i64 x.v) ∧ y.cell? ⟨(ad.add (k * 6)).block, (ad.add (k * 6)).off + 4, none⟩ = some (.int .i64 x.c) ∧ y.cell? ⟨(ad.add (k * 6)).block, (ad.add (k * 6)).off + 5, none⟩ = some (.slice x.A x.m x.k)) ∧ Below w5.heap.size w5 y)) => (takes_any v.h v.l x.h x.l ab y).mono (fun e y' (h9 : _ ∧ _) => show e = .returned (.bool (Bt.wins v x)) ∧ ((y'.cell? ⟨r, 1, none⟩ = some (.int .u64 (v.h : Nat)) ∧ y'.cell? ⟨r, 2, none⟩ = some (.int .u64 (v.l : Nat)) ∧ y'.cell? ⟨r, 3, none⟩ = some (.int .i64 v.v) ∧ y'.cell? ⟨r, 4, none⟩ = some (.int .i64 v.c) ∧ y'.cell? ⟨r, 5, none⟩ = some (.slice v.A v.m v.k)) ∧ (y'.cell? ⟨(ad.add (k * 6)).block, (ad.add (k * 6)).off + 1, none⟩ = some (.int .u64 (x.h : Nat)) ∧ y'.cell? ⟨(ad.add (k * 6)).block, (ad.add (k * 6)).off + 2, none⟩ = some (.int .u64 (x.l : Nat)) ∧ y'.cell? ⟨(ad.add (k * 6)).block, (ad.add (k * 6)).off + 3, none⟩ = some (.int .i64 x.v) ∧ y'.cell? ⟨(ad.add (k * 6)).block, (ad.add (k * 6)).off + 4, none⟩ = some (.int .i64 x.c) ∧ y'.cell? ⟨(ad.add (k * 6)).block, (ad.add (k * 6)).off + 5, none⟩ = some (.slice x.A x.m x.k)) ∧ Below w5.heap.size w5 y') from ⟨by rw [h9.1, ← hab]; exact rfl, ⟨⟨(h9.2.cell (World.block_lt_of_cell? y _ hx.1.1)).trans hx.1.1, (h9.2.cell (World.block_lt_of_cell? y _ hx.1.2.1)).trans hx.1.2.1, (h9.2.cell (World.block_lt_of_cell? y _ hx.1.2.2.1)).trans hx.1.2.2.1, (h9.2.cell (World.block_lt_of_cell? y _ hx.1.2.2.2.1)).trans hx.1.2.2.2.1, (h9.2.cell (World.block_lt_of_cell? y _ hx.1.2.2.2.2)).trans hx.1.2.2.2.2⟩, ⟨(h9.2.cell (World.block_lt_of_cell? y _ hx.2.1.1)).trans hx.2.1.1, (h9.2.cell (World.block_lt_of_cell? y _ hx.2.1.2.1)).trans hx.2.1.2.1, (h9.2.cell (World.block_lt_of_cell? y _ hx.2.1.2.2.1)).trans hx.2.1.2.2.1, (h9.2.cell (World.block_lt_of_cell? y _ hx.2.1.2.2.2.1)).trans hx.2.1.2.2.2.1, (h9.2.cell (World.block_lt_of_cell? y _ hx.2.1.2.2.2.2)).trans hx.2.1.2.2.2.2⟩, hx.2.2.trans (h9.2.mono hx.2.2.size)⟩⟩))
      clear hab
      go_region_held3 (fun y => ((y.cell? ⟨r, 1, none⟩ = some (.int .u64 (v.h : Nat)) ∧ y.cell? ⟨r, 2, none⟩ = some (.int .u64 (v.l : Nat)) ∧ y.cell? ⟨r, 3, none⟩ = some (.int .i64 v.v) ∧ y.cell? ⟨r, 4, none⟩ = some (.int .i64 v.c) ∧ y.cell? ⟨r, 5, none⟩ = some (.slice v.A v.m v.k)) ∧ (y.cell? ⟨(ad.add (k * 6)).block, (ad.add (k * 6)).off + 1, none⟩ = some (.int .u64 (x.h : Nat)) ∧ y.cell? ⟨(ad.add (k * 6)).block, (ad.add (k * 6)).off + 2, none⟩ = some (.int .u64 (x.l : Nat)) ∧ y.cell? ⟨(ad.add (k * 6)).block, (ad.add (k * 6)).off + 3, none⟩ = some (.int .i64 x.v) ∧ y.cell? ⟨(ad.add (k * 6)).block, (ad.add (k * 6)).off + 4, none⟩ = some (.int .i64 x.c) ∧ y.cell? ⟨(ad.add (k * 6)).block, (ad.add (k * 6)).off + 5, none⟩ = some (.slice x.A x.m x.k)) ∧ Below w5.heap.size w5 y)) (first | exact ⟨⟨p1, p2, p3, p4, p5⟩, ⟨g1, g2, g3, g4, g5⟩, Below.drew (Below.refl _ _)⟩ | assumption | go_keep)
        (first | (go_at_call 102; refine (FT.out _ hxm).mono ?_; rintro e w6 ⟨rfl, hx'⟩) | (go_at_call 128; refine (FM.out _ (by first | assumption | (simp [*]))).mono ?_; rintro e wm ⟨rfl, hxm⟩))
      have H6 := Lib.hid hx'.2.2
      have OO := Lib.hid (own_kept O5.out H6.out)
      have BX := Lib.hid (BX5.out.trans (H6.out.mono BX5.out.size))
      have OV6 := Lib.hid (OV5.out.below H6.out)
      clear hx' hxm FM FT g0 g1 g2 g3 g4 g5 p0 p1 p2 p3 p4 p5 O5 BX5 OV5 R5 H6
      obtain ⟨bb, hbb⟩ : ∃ bb, Bt.wins v x = bb := ⟨_, rfl⟩
      rw [hbb] at HPL ⊢
      clear hbb
      cases bb with
      | true =>
        have HQ : Hid (putF Bt.n Bt.wins L v = L.set k v) := HPL.out
        obtain ⟨p0, p1, p2, p3, p4, p5⟩ := OV6.out.all6
        obtain ⟨gb, cap, hv, hgb, _⟩ := OO.out.form (by have := HKN.out; omega)
        cases hv
        have HGB : Hid (w.heap.size ≤ gb) := hgb
        have c0 := (OO.out.cellAt (k * 6) (by have := HKN.out; omega)).trans (CL_get (size := 6) (cells := Bt.cells) (fun _ => rfl) L k x HXX.out 0 (.int .i64 x.n) rfl)
        have c1 := (OO.out.cellAt (k * 6 + 1) (by have := HKN.out; omega)).trans (CL_get (size := 6) (cells := Bt.cells) (fun _ => rfl) L k x HXX.out 1 (.int .u64 (x.h : Nat)) rfl)
        have c2 := (OO.out.cellAt (k * 6 + 2) (by have := HKN.out; omega)).trans (CL_get (size := 6) (cells := Bt.cells) (fun _ => rfl) L k x HXX.out 2 (.int .u64 (x.l : Nat)) rfl)
        have c3 := (OO.out.cellAt (k * 6 + 3) (by have := HKN.out; omega)).trans (CL_get (size := 6) (cells := Bt.cells) (fun _ => rfl) L k x HXX.out 3 (.int .i64 x.v) rfl)
        have c4 := (OO.out.cellAt (k * 6 + 4) (by have := HKN.out; omega)).trans (CL_get (size := 6) (cells := Bt.cells) (fun _ => rfl) L k x HXX.out 4 (.int .i64 x.c) rfl)
        have c5 := (OO.out.cellAt (k * 6 + 5) (by have := HKN.out; omega)).trans (CL_get (size := 6) (cells := Bt.cells) (fun _ => rfl) L k x HXX.out 5 (.slice x.A x.m x.k) rfl)
        have f0 := OO.out.frozenAt (k * 6)
        have f1 := OO.out.frozenAt (k * 6 + 1)
        have f2 := OO.out.frozenAt (k * 6 + 2)
        have f3 := OO.out.frozenAt (k * 6 + 3)
        have f4 := OO.out.frozenAt (k * 6 + 4)
        have f5 := OO.out.frozenAt (k * 6 + 5)
        have zg : gb < w6.heap.size := World.block_lt_of_cell? w6 _ c0
        have zr := OV6.out.lt (by simp)
        clear hgb
        have BZ := Lib.hid ((((((BX.out.setCell (p := ⟨gb, k * 6, none⟩) HGB.out (.int .i64 v.n)).setCell (p := ⟨gb, k * 6 + 1, none⟩) HGB.out (.int .u64 (v.h : Nat))).setCell (p := ⟨gb, k * 6 + 2, none⟩) HGB.out (.int .u64 (v.l : Nat))).setCell (p := ⟨gb, k * 6 + 3, none⟩) HGB.out (.int .i64 v.v)).setCell (p := ⟨gb, k * 6 + 4, none⟩) HGB.out (.int .i64 v.c)).setCell (p := ⟨gb, k * 6 + 5, none⟩) HGB.out (.slice v.A v.m v.k))
        have OZ0 := ((((((OO.out.stored (k * 6) (.int .i64 v.n)).1.stored (k * 6 + 1) (.int .u64 (v.h : Nat))).1.stored (k * 6 + 2) (.int .u64 (v.l : Nat))).1.stored (k * 6 + 3) (.int .i64 v.v)).1.stored (k * 6 + 4) (.int .i64 v.c)).1.stored (k * 6 + 5) (.slice v.A v.m v.k)).1
        rw [← CL_set6Answer v L k (by have := HKN.out; have := HL.out; omega)] at OZ0
        have OZ := Lib.hid OZ0
        clear OZ0
        go_wp2_with fail
        refine (copyAnswers_any _ n _ (L.set k v) lg _ (rdBt OZ.out (by rw [List.length_set]; exact HL.out)) (fun r hr => HLG.out _ BZ.out r (by rw [HQ.out]; exact hr)) (by have := HSM.out; omega)).mono ?_
        rintro e w19 ⟨A19, c19, R19, rfl, hb19, ho19, hc19⟩
        have B19 := Lib.hid (BZ.out.trans (hb19.mono BZ.out.size))
        have O19 := Lib.hid (own_mono ho19 BZ.out.size)
        have C19 := Lib.hid (hc19.lower BZ.out.size)
        clear hb19 ho19 hc19
        go_wp2_with fail
        go_ret
        exact ⟨A19, c19, R19, by rw [HQ.out]; first | exact rfl | (rw [List.length_set]; exact rfl), B19.out, by rw [HQ.out]; exact O19.out, by rw [HQ.out]; exact C19.out⟩
      | false =>
        have HQ : Hid (putF Bt.n Bt.wins L v = L) := by rw [HPL.out]; exact set_same HXX.out
        go_wp2_with fail
        refine (copyAnswers_any A5 n c5 L lg _ (rdBt OO.out HL.out) (fun r hr => HLG.out _ BX.out r (by rw [HQ.out]; exact hr)) (by have := HSM.out; omega)).mono ?_
        rintro e w19 ⟨A19, c19, R19, rfl, hb19, ho19, hc19⟩
        have B19 := Lib.hid (BX.out.trans (hb19.mono BX.out.size))
        have O19 := Lib.hid (own_mono ho19 BX.out.size)
        have C19 := Lib.hid (hc19.lower BX.out.size)
        clear hb19 ho19 hc19
        go_wp2_with fail
        go_ret
        exact ⟨A19, c19, R19, by rw [HQ.out]; first | exact rfl | (rw [List.length_set]; exact rfl), B19.out, by rw [HQ.out]; exact O19.out, by rw [HQ.out]; exact C19.out⟩
    · obtain rfl : n = k := by omega
      have hki : ¬ (n : Int) < (n : Int) := by omega
      have HNO : Hid (∀ j x, j < L.length → L[j]? = some x → x.n ≠ v.n) := fun j x hj => HN.out j x (by have := HL.out; omega)
      have B3 : Hid (Below w.heap.size w wr) := BW.out.trans (HB.out.mono BW.out.size)
      have OV3 := Lib.hid (OV.out.below HB.out)
      have HB0 : Hid (w.heap.size + 1 ≤ wr.heap.size) := by have := HZ.out; have := HRR.out; have := HB.out.size; simp only [Hid]; omega
      clear hkn hk HD HN HB OV H2 BW HZ
      go_wp2_with fail
      obtain ⟨w7, rfl⟩ : ∃ z, z = wr := ⟨_, rfl⟩
      go_loopw [5, 7, 8] (fun ov dv iv wr => ∃ (k a : Nat) (A' : Option Addr) (c' : Nat) (done : Bool) (P : List Bt), k ≤ n ∧ iv = .int .i64 k ∧ dv = .bool done ∧ ov = .slice A' P.length c' ∧ Hid (P = outK Bt.wins L v a false k) ∧ Hid (Below w.heap.size w wr ∧ Ob wr r [.int .i64 v.n, .int .u64 (v.h : Nat), .int .u64 (v.l : Nat), .int .i64 v.v, .int .i64 v.c, .slice v.A v.m v.k] ∧ w.heap.size + 1 ≤ wr.heap.size) ∧ Hid (wr.ownsRow (w.heap.size + 1) 38 6 (.slice A' P.length c') P.length (CL Bt.cells P)) ∧ Hid (P.length = k + if done then 1 else 0) ∧
        Hid ((done = true → a < k) ∧ (done = false → a = n) ∧ (∀ x, L[a]? = some x → v.n < x.n) ∧ (∀ j x, j < a → j < k → L[j]? = some x → x.n ≤ v.n))) (fun _ _ iv _ => n - (intOf iv).toNat)
      case atStart => exact ⟨0, n, none, 0, false, [], by omega, rfl, rfl, rfl, rfl, ⟨B3.out, OV3.out, HB0.out⟩, World.ownsRow_nil _ _ _ _, rfl, (fun h => by cases h), (fun _ => rfl), (fun x hx => by have := (List.getElem?_eq_some_iff.1 hx).1; have := HL.out; omega), (fun j x _ hj => by omega)⟩
      case round =>
        obtain ⟨k, a, A', c', done, P, hk, rfl, rfl, rfl, HP, HW, HO, HPL, HC⟩ := hrel
        by_cases hkn : k < n
        · obtain ⟨x, hx⟩ : ∃ x, L[k]? = some x := ⟨_, List.getElem?_eq_getElem (by have := HL.out; omega)⟩
          obtain ⟨ad, rfl, g0, g1, g2, g3, g4, g5⟩ := (H.out.below HW.out.1).atBt hx
          obtain ⟨p0, p1, p2, p3, p4, p5⟩ := HW.out.2.1.all6
          have hki : (k : Int) < (n : Int) := by omega
          have HKN := Lib.hid hkn
          have HXX := Lib.hid hx
          have HNX := Lib.hid (outK_succ Bt.wins v a false hx)
          have HNK := Lib.hid (outK_succ Bt.wins v k false hx)
          clear hx hkn hk
          go_upto_region 14 with fail
          go_cut [81] (fun bv wx => ∃ (b1 : Bool), bv = .bool b1 ∧ Hid (b1 = true ↔ done = false ∧ v.n < x.n) ∧ Hid (∃ q, wx = wr.drewN q))
          case first =>
            cases done with
            | true =>
              go_quiet (fail)
              go_wp2_with fail
              go_meet
              exact ⟨false, rfl, ⟨(fun h => by cases h), (fun h => by cases h.1)⟩, nq, rfl⟩
            | false =>
              by_cases h1 : v.n < x.n
              case pos =>
                have H1 := Lib.hid h1
                go_quiet (fail)
                go_wp2_with fail
                go_meet
                exact ⟨true, rfl, ⟨(fun _ => ⟨by trivial, H1.out⟩), (fun _ => rfl)⟩, nq, rfl⟩
              case neg =>
                have H1 := Lib.hid h1
                go_quiet (fail)
                go_wp2_with fail
                go_meet
                exact ⟨false, rfl, ⟨(fun h => by cases h), (fun h => by have := H1.out; omega)⟩, nq, rfl⟩
          case rest =>
            obtain ⟨b1, rfl, HB1, HQ⟩ := hcut
            have W8 : Hid (Below w.heap.size w wc ∧ Ob wc r [.int .i64 v.n, .int .u64 (v.h : Nat), .int .u64 (v.l : Nat), .int .i64 v.v, .int .i64 v.c, .slice v.A v.m v.k] ∧ w.heap.size + 1 ≤ wc.heap.size) := by obtain ⟨q, hq⟩ := HQ.out; rw [hq]; exact ⟨Below.drewN HW.out.1 q, HW.out.2.1.drewN q, HW.out.2.2⟩
            have O8 : Hid (wc.ownsRow (w.heap.size + 1) 38 6 (.slice A' P.length c') P.length (CL Bt.cells P)) := by obtain ⟨q, hq⟩ := HQ.out; rw [hq]; exact own_kept HO.out (Below.drewN (Below.refl _ _) q)
            clear HQ HW HO g0 g1 g2 g3 g4 g5 p0 p1 p2 p3 p4 p5
            obtain ⟨w8, rfl⟩ : ∃ z, z = wc := ⟨_, rfl⟩
            have HLE : Hid (P.length ≤ n) := by have h2 := HKN.out; have h1 := HPL.out; simp only [Hid]; split at h1 <;> omega
            have hk2 : (k : Int) + 1 ≤ 6000000000001 := by have := HKN.out; omega
            cases b1 with
            | true =>
              obtain ⟨hd, hvx⟩ := HB1.out.1 rfl
              subst hd
              have HVX := Lib.hid hvx
              have HAN : Hid (a = n) := HC.out.2.1 rfl
              have HC4 : Hid (∀ j x, j < a → j < k → L[j]? = some x → x.n ≤ v.n) := HC.out.2.2.2
              have HPK : Hid (outK Bt.wins L v k false k = P) := by rw [HP.out, HAN.out, outK_far k (Nat.le_refl _) (by have := HKN.out; have := HL.out; omega), outK_far k (by have := HKN.out; omega) (by have := HKN.out; have := HL.out; omega)]; exact rfl
              have HPL0 := Lib.hid (show P.length = k by have h1 := HPL.out; simpa using h1)
              clear hvx HC HPL HB1
              obtain ⟨p0, p1, p2, p3, p4, p5⟩ := W8.out.2.1.all6
              go_wp2_with (at_builtin; refine wpList_app rfl (.tmp 82) (.tmp 84) rfl eltApiAnswer (w.heap.size + 1) (.slice A' P.length c') P.length (CL Bt.cells P) rfl (O8.out.alloc _) (some ⟨w8.heap.size, 0, none⟩) 1 1 v.cells rfl rfl (fun h => by cases h) (fresh_news w8 v.cells.toArray 38) (Bt.one v) ?b3 ?b4 ?b5 ?_)
              case b3 => have := HSM.out; have := HLE.out; simp only [maxLen]; omega
              case b4 => have := HSM.out; have := HLE.out; omega
              case b5 => have := W8.out.2.2; simp; omega
              intro A9 c9 w9 ho9 hg9 _
              have G9 := Lib.hid ((World.grownBy_alloc w8 _ (Value.slice A' P.length c').ownBlock).trans hg9)
              have W9 : Hid (Below w.heap.size w w9 ∧ Ob w9 r [.int .i64 v.n, .int .u64 (v.h : Nat), .int .u64 (v.l : Nat), .int .i64 v.v, .int .i64 v.c, .slice v.A v.m v.k] ∧ w.heap.size + 1 ≤ w9.heap.size) := ⟨W8.out.1.trans ⟨G9.out.os, G9.out.tape, G9.out.output, G9.out.size, fun z hz => G9.out.block z (by have := W8.out.2.2; omega) (fun e => by have := (O8.out.lt z e.symm).1; omega)⟩, W8.out.2.1.kept G9.out (fun e => by have := (O8.out.lt r e.symm).1; have := HRR.out; omega), Nat.le_trans W8.out.2.2 G9.out.size⟩
              obtain ⟨P9, hp9⟩ : ∃ P', P ++ [v] = P' := ⟨_, rfl⟩
              have HPN9 := Lib.hid hp9
              have HE : Hid (P.length + 1 = P9.length) := by rw [← hp9]; simp [Hid]
              have O9 : Hid (w9.ownsRow (w.heap.size + 1) 38 6 (.slice A9 P9.length c9) P9.length (CL Bt.cells P9)) := by rw [← HE.out, ← hp9, CL_push]; exact ho9
              rw [HE.out]
              clear ho9 hg9 G9 hp9 HE
              clear p0 p1 p2 p3 p4 p5
              have HLE9 : Hid (P9.length ≤ n + 1) := by rw [← HPN9.out]; have := HLE.out; simp only [Hid, List.length_append, List.length_cons, List.length_nil]; omega
              obtain ⟨ad', e, g0, g1, g2, g3, g4, g5⟩ := (H.out.below W9.out.1).atBt HXX.out
              cases e
              go_wp2_with (at_builtin; refine wpList_app rfl (.tmp 86) (.tmp 91) rfl eltApiAnswer (w.heap.size + 1) (.slice A9 P9.length c9) P9.length (CL Bt.cells P9) rfl (O9.out.alloc _) (some ⟨w9.heap.size, 0, none⟩) 1 1 x.cells rfl rfl (fun h => by cases h) (fresh_news w9 x.cells.toArray 38) (Bt.one x) ?e3 ?e4 ?e5 ?_)
              case e3 => have := HSM.out; have := HLE9.out; simp only [maxLen]; omega
              case e4 => have := HSM.out; have := HLE9.out; omega
              case e5 => have := W9.out.2.2; simp; omega
              intro A10 c10 w10 ho9 hg9 _
              have G9 := Lib.hid ((World.grownBy_alloc w9 _ (Value.slice A9 P9.length c9).ownBlock).trans hg9)
              have W10 : Hid (Below w.heap.size w w10 ∧ Ob w10 r [.int .i64 v.n, .int .u64 (v.h : Nat), .int .u64 (v.l : Nat), .int .i64 v.v, .int .i64 v.c, .slice v.A v.m v.k] ∧ w.heap.size + 1 ≤ w10.heap.size) := ⟨W9.out.1.trans ⟨G9.out.os, G9.out.tape, G9.out.output, G9.out.size, fun z hz => G9.out.block z (by have := W9.out.2.2; omega) (fun e => by have := (O9.out.lt z e.symm).1; omega)⟩, W9.out.2.1.kept G9.out (fun e => by have := (O9.out.lt r e.symm).1; have := HRR.out; omega), Nat.le_trans W9.out.2.2 G9.out.size⟩
              obtain ⟨P10, hp10⟩ : ∃ P', P9 ++ [x] = P' := ⟨_, rfl⟩
              have HPN10 := Lib.hid hp10
              have HE : Hid (P9.length + 1 = P10.length) := by rw [← hp10]; simp [Hid]
              have O10 : Hid (w10.ownsRow (w.heap.size + 1) 38 6 (.slice A10 P10.length c10) P10.length (CL Bt.cells P10)) := by rw [← HE.out, ← hp10, CL_push]; exact ho9
              rw [HE.out]
              clear ho9 hg9 G9 hp10 HE
              clear g0 g1 g2 g3 g4 g5
              go_wp2_with fail
              go_roundw
              case rel => exact ⟨k + 1, k, A10, c10, true, P10, HKN.out, by go_num, rfl, rfl, by rw [HNK.out, HPK.out, ← HPN10.out, ← HPN9.out]; simp [pce, Hid], W10.out, O10.out, by rw [← HPN10.out, ← HPN9.out]; have := HPL0.out; simp only [Hid, List.length_append, List.length_cons, List.length_nil, if_true] at this ⊢; omega, (fun _ => by omega), (fun h => by cases h), (fun y hy => by rw [HXX.out] at hy; cases hy; exact HVX.out), (fun j y hj _ hy => HC4.out j y (by have := HAN.out; have := HKN.out; omega) hj hy)⟩
              case measure => have := HKN.out; simp [intOf]; omega
            | false =>
              have HKA : Hid ((k == a) = false) := beq_eq_false_iff_ne.2 (fun e => by
                cases done with
                | true => have := HC.out.1 rfl; omega
                | false => have := HC.out.2.1 rfl; have := HKN.out; omega)
              obtain ⟨ad', e, g0, g1, g2, g3, g4, g5⟩ := (H.out.below W8.out.1).atBt HXX.out
              cases e
              go_wp2_with (at_builtin; refine wpList_app rfl (.tmp 86) (.tmp 91) rfl eltApiAnswer (w.heap.size + 1) (.slice A' P.length c') P.length (CL Bt.cells P) rfl (O8.out.alloc _) (some ⟨w8.heap.size, 0, none⟩) 1 1 x.cells rfl rfl (fun h => by cases h) (fresh_news w8 x.cells.toArray 38) (Bt.one x) ?f3 ?f4 ?f5 ?_)
              case f3 => have := HSM.out; have := HLE.out; simp only [maxLen]; omega
              case f4 => have := HSM.out; have := HLE.out; omega
              case f5 => have := W8.out.2.2; simp; omega
              intro A9 c9 w9 ho9 hg9 _
              have G9 := Lib.hid ((World.grownBy_alloc w8 _ (Value.slice A' P.length c').ownBlock).trans hg9)
              have W9 : Hid (Below w.heap.size w w9 ∧ Ob w9 r [.int .i64 v.n, .int .u64 (v.h : Nat), .int .u64 (v.l : Nat), .int .i64 v.v, .int .i64 v.c, .slice v.A v.m v.k] ∧ w.heap.size + 1 ≤ w9.heap.size) := ⟨W8.out.1.trans ⟨G9.out.os, G9.out.tape, G9.out.output, G9.out.size, fun z hz => G9.out.block z (by have := W8.out.2.2; omega) (fun e => by have := (O8.out.lt z e.symm).1; omega)⟩, W8.out.2.1.kept G9.out (fun e => by have := (O8.out.lt r e.symm).1; have := HRR.out; omega), Nat.le_trans W8.out.2.2 G9.out.size⟩
              obtain ⟨P9, hp9⟩ : ∃ P', P ++ [x] = P' := ⟨_, rfl⟩
              have HPN9 := Lib.hid hp9
              have HE : Hid (P.length + 1 = P9.length) := by rw [← hp9]; simp [Hid]
              have O9 : Hid (w9.ownsRow (w.heap.size + 1) 38 6 (.slice A9 P9.length c9) P9.length (CL Bt.cells P9)) := by rw [← HE.out, ← hp9, CL_push]; exact ho9
              rw [HE.out]
              clear ho9 hg9 G9 hp9 HE
              clear g0 g1 g2 g3 g4 g5
              go_wp2_with fail
              go_roundw
              case rel => exact ⟨k + 1, a, A9, c9, done, P9, HKN.out, by go_num, rfl, rfl, by rw [HNX.out, HKA.out, ← HP.out, ← HPN9.out]; exact rfl, W9.out, O9.out, by rw [← HPN9.out]; have := HPL.out; simp only [Hid, List.length_append, List.length_cons, List.length_nil] at this ⊢; omega, (fun h => by have := HC.out.1 h; omega), HC.out.2.1, HC.out.2.2.1, (fun j y hj hjk hy => by
                by_cases e : j = k
                · subst e
                  rw [HXX.out] at hy
                  cases hy
                  cases done with
                  | true => have := HC.out.1 rfl; omega
                  | false => exact Int.not_lt.1 fun h => by have := HB1.out.2 ⟨rfl, h⟩; cases this
                · exact HC.out.2.2.2 j y hj (by omega) hy)⟩
              case measure => have := HKN.out; simp [intOf]; omega
        · obtain rfl : n = k := by omega
          have HPC : Hid (Plc Bt.n L v a false) := .inr ⟨rfl, HNO.out, by
            have := HL.out
            cases done with
            | true => have := HC.out.1 rfl; omega
            | false => have := HC.out.2.1 rfl; omega, HC.out.2.2.1, fun j y hj hy => Int.not_lt.2 <| HC.out.2.2.2 j y hj (by have := (List.getElem?_eq_some_iff.1 hy).1; have := HL.out; omega) hy⟩
          have HLE : Hid (P.length ≤ n + 1) := by have h1 := HPL.out; simp only [Hid]; split at h1 <;> omega
          clear hkn hk
          cases done with
          | true =>
            have HQ : Hid (putF Bt.n Bt.wins L v = P) := by
              have h1 := HC.out.1 rfl
              have h2 : ¬ a = L.length := by have := HL.out; omega
              rw [← HPC.out.put, HP.out]
              unfold putL
              rw [if_neg h2, List.append_nil, HL.out]
              exact rfl
            have HW1 := Lib.hid HW.out.1
            go_wp2_with fail
            refine (copyAnswers_any A' P.length c' P lg _ (rdBt HO.out rfl) (fun r hr => HLG.out _ HW1.out r (by rw [HQ.out]; exact hr)) (by have := HSM.out; have := HLE.out; omega)).mono ?_
            rintro e w19 ⟨A19, c19, R19, rfl, hb19, ho19, hc19⟩
            have B19 := Lib.hid (HW1.out.trans (hb19.mono HW1.out.size))
            have O19 := Lib.hid (own_mono ho19 HW1.out.size)
            have C19 := Lib.hid (hc19.lower HW1.out.size)
            clear hb19 ho19 hc19
            go_wp2_with fail
            go_ret
            exact ⟨A19, c19, R19, by rw [HQ.out]; first | exact rfl | (rw [List.length_set]; exact rfl), B19.out, by rw [HQ.out]; exact O19.out, by rw [HQ.out]; exact C19.out⟩
          | false =>
            have HQ : Hid (putF Bt.n Bt.wins L v = P ++ [v]) := by
              have h1 := HC.out.2.1 rfl
              rw [← HPC.out.put, HP.out]
              unfold putL
              rw [if_pos (by rw [HL.out]; exact h1), HL.out]
              exact rfl
            obtain ⟨p0, p1, p2, p3, p4, p5⟩ := HW.out.2.1.all6
            go_wp2_with (at_builtin; refine wpList_app rfl (.tmp 95) (.tmp 97) rfl eltApiAnswer (w.heap.size + 1) (.slice A' P.length c') P.length (CL Bt.cells P) rfl (HO.out.alloc _) (some ⟨wr.heap.size, 0, none⟩) 1 1 v.cells rfl rfl (fun h => by cases h) (fresh_news wr v.cells.toArray 38) (Bt.one v) ?i3 ?i4 ?i5 ?_)
            case i3 => have := HSM.out; have := HLE.out; simp only [maxLen]; omega
            case i4 => have := HSM.out; have := HLE.out; omega
            case i5 => have := HW.out.2.2; simp; omega
            intro A9 c9 w9 ho9 hg9 _
            have G9 := Lib.hid ((World.grownBy_alloc wr _ (Value.slice A' P.length c').ownBlock).trans hg9)
            have W9 : Hid (Below w.heap.size w w9 ∧ Ob w9 r [.int .i64 v.n, .int .u64 (v.h : Nat), .int .u64 (v.l : Nat), .int .i64 v.v, .int .i64 v.c, .slice v.A v.m v.k] ∧ w.heap.size + 1 ≤ w9.heap.size) := ⟨HW.out.1.trans ⟨G9.out.os, G9.out.tape, G9.out.output, G9.out.size, fun z hz => G9.out.block z (by have := HW.out.2.2; omega) (fun e => by have := (HO.out.lt z e.symm).1; omega)⟩, HW.out.2.1.kept G9.out (fun e => by have := (HO.out.lt r e.symm).1; have := HRR.out; omega), Nat.le_trans HW.out.2.2 G9.out.size⟩
            obtain ⟨P9, hp9⟩ : ∃ P', P ++ [v] = P' := ⟨_, rfl⟩
            have HPN9 := Lib.hid hp9
            have HE : Hid (P.length + 1 = P9.length) := by rw [← hp9]; simp [Hid]
            have O9 : Hid (w9.ownsRow (w.heap.size + 1) 38 6 (.slice A9 P9.length c9) P9.length (CL Bt.cells P9)) := by rw [← HE.out, ← hp9, CL_push]; exact ho9
            rw [HE.out]
            clear ho9 hg9 G9 hp9 HE
            have HW1 := Lib.hid W9.out.1
            rw [HPN9.out] at HQ
            have HLE9 : Hid (P9.length ≤ n + 2) := by rw [← HPN9.out]; have := HLE.out; simp only [Hid, List.length_append, List.length_cons, List.length_nil]; omega
            have HLP : Hid (P9.length ≤ n + 1) := by have := putF_len Bt.n Bt.wins L v; rw [HQ.out, HL.out] at this; exact this
            go_wp2_with fail
            refine (copyAnswers_any A9 P9.length c9 P9 lg _ (rdBt O9.out rfl) (fun r hr => HLG.out _ HW1.out r (by rw [HQ.out]; exact hr)) (by have := HSM.out; have := HLP.out; omega)).mono ?_
            rintro e w19 ⟨A19, c19, R19, rfl, hb19, ho19, hc19⟩
            have B19 := Lib.hid (HW1.out.trans (hb19.mono HW1.out.size))
            have O19 := Lib.hid (own_mono ho19 HW1.out.size)
            have C19 := Lib.hid (hc19.lower HW1.out.size)
            clear hb19 ho19 hc19
            go_wp2_with fail
            go_ret
            exact ⟨A19, c19, R19, by rw [HQ.out]; first | exact rfl | (rw [List.length_set]; exact rfl), B19.out, by rw [HQ.out]; exact O19.out, by rw [HQ.out]; exact C19.out⟩
end Go.Proofs.Ytjjobgolpedgeaa
