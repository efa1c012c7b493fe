/-
  The walk of TallyChoice.
-/
import Derived.Test.YtjjobgolpedgeaaTChoiceP
import Derived.Test.YtjjobgolpedgeaaTSmall
import Derived.Test.YtjjobgolpedgeaaTWorks
import Derived.Test.YtjjobgolpedgeaaTOpen3
set_option linter.unusedVariables false
set_option linter.unusedSimpArgs false
namespace Go.Proofs.Ytjjobgolpedgeaa
open Go.RowKit

theorem bt_len (R : List Bt) : (CL Bt.cells R).length = R.length * 6 := CL_len (size := 6) (fun _ => rfl) R
theorem rdV_cons {w : World} {A : Option Addr} {n : Nat} {x : Lt} {C : Option Addr} {k : Nat} {R : List Bt} {V : List Lt} (h : RdC 6 Bt.cells w A n (x.raw C k :: R)) (hx : OkL w C k x.log) (hl : R.length = V.length) (hr : ∀ (i : Nat) (y : Lt), V[i]? = some y → ∃ (B : Option Addr) (k : Nat), R[i]? = some (y.raw B k) ∧ OkL w B k y.log) : RdV w A n (x :: V) := by
  refine ⟨x.raw C k :: R, h, by simp [hl], fun i y hy => ?_⟩
  cases i with
  | zero => simp at hy; subst hy; exact ⟨C, k, rfl, hx⟩
  | succ i => simp at hy; obtain ⟨B, j, e, ho⟩ := hr i y hy; exact ⟨B, j, by simpa using e, ho⟩
set_option maxRecDepth 100000 in
set_option maxHeartbeats 16000000 in
theorem tallyChoice_walk (fa : Int) (pa : Pt) (A : Option Addr) (n c : Nat) (I : List Pt) (W : World) (wf : (Lit.int .i64 fa).wf = true) (ha : pa.Ok W) (sa : pa.Sm) (h : RdC 6 Pt.cells W A n I) (ok : ∀ x ∈ I, x.Ok W) (hsm : n * 64 ≤ 140737488351232 ∧ ∀ x ∈ I, x.Sm) (hcn : A = none → n = 0 ∧ c = 0) :
    Calls Try.prog 7 #[.int .i64 fa, pa.1.agg pa.2.1 pa.2.2, .slice A n c] W fun e w' => e = .returned (.bool true) ∧ Below W.heap.size W w' := by
  have HI := Lib.hid (rdV_of h ok hsm.2)
  have HIL : Hid ((I.map (·.1)).length = n) := by rw [List.length_map]; exact h.len
  have hnb : (n : Int) ≤ 6000000000000 := by have := hsm.1; omega
  have HSM := Lib.hid hsm.1
  have HCN := Lib.hid hcn
  have LA := Lib.hid (ha.okL sa)
  have HWF := Lib.hid wf
  generalize I.map (·.1) = J at HI HIL
  obtain ⟨a, C, kc⟩ := pa
  simp only at LA
  clear h ok hsm ha sa wf hcn
  go_enter Try.func7, Try.ntmps7
  go_wp2_with fail
  have OA := Lib.hid (Ob.fresh W #[.int .i64 a.n, .int .u64 (a.h : Nat), .int .u64 (a.l : Nat), .int .i64 a.v, .int .i64 a.c, .slice C a.log.length kc] 53)
  have BW : Hid (Below W.heap.size W (W.alloc (.cells #[.int .i64 a.n, .int .u64 (a.h : Nat), .int .u64 (a.l : Nat), .int .i64 a.v, .int .i64 a.c, .slice C a.log.length kc] 53))) := below_alloc _ _
  generalize W.alloc (.cells #[.int .i64 a.n, .int .u64 (a.h : Nat), .int .u64 (a.l : Nat), .int .i64 a.v, .int .i64 a.c, .slice C a.log.length kc] 53) = w1 at OA BW ⊢
  obtain ⟨ra, hra⟩ : ∃ r, W.heap.size = r := ⟨_, rfl⟩
  rw [hra] at OA ⊢
  clear hra
  refine (works_any _).mono ?_
  rintro e w2 ⟨rfl, hb2⟩
  replace OA := Lib.hid (OA.out.below hb2)
  replace BW := Lib.hid (BW.out.trans (hb2.mono BW.out.size))
  clear hb2
  go_wp2_with fail
  refine (within_fn fa _ 3 _ rfl (by omega) HWF.out).mono ?_
  rintro e w' ⟨rfl, rfl⟩
  have hw5 := withinF_le fa 3
  obtain ⟨f, hf⟩ : ∃ q, withinF fa 3 = q := ⟨_, rfl⟩
  rw [hf] at hw5 ⊢
  clear hf
  obtain ⟨p0, p1, p2, p3, p4, p5⟩ := OA.out.all6
  go_wp2_with fail
  clear p0 p1 p2 p3 p4 p5
  by_cases hn : (n : Int) < (f : Int)
  case pos =>
    refine (choose_few f a C kc A n c _ hn).mono ?_
    rintro e w3 ⟨rfl, hb3⟩
    replace BW := Lib.hid (BW.out.trans (hb3.mono BW.out.size))
    clear hb3
    have hd : (default : Lt).agg none 0 = .agg #[.int .i64 0, .int .u64 0, .int .u64 0, .int .i64 0, .int .i64 0, .slice none 0 0] := rfl
    rw [hd]
    clear hd
    go_upto_region 6 with fail
    have OX := Lib.hid (Ob.fresh w3 #[.int .i64 0, .int .u64 0, .int .u64 0, .int .i64 0, .int .i64 0, .slice none 0 0] 53)
    have B8 := Lib.hid (BW.out.alloc BW.out.size (.cells #[.int .i64 0, .int .u64 0, .int .u64 0, .int .i64 0, .int .i64 0, .slice none 0 0] 53))
    generalize w3.alloc (.cells #[.int .i64 0, .int .u64 0, .int .u64 0, .int .i64 0, .int .i64 0, .slice none 0 0] 53) = w8 at OX B8 ⊢
    generalize w3.heap.size = r at OX ⊢
    obtain ⟨p0, p1, p2, p3, p4, p5⟩ : (w8.cell? ⟨r, 0, none⟩ = some (.int .i64 0) ∧ w8.cell? ⟨r, 1, none⟩ = some (.int .u64 0) ∧ w8.cell? ⟨r, 2, none⟩ = some (.int .u64 0) ∧ w8.cell? ⟨r, 3, none⟩ = some (.int .i64 0) ∧ w8.cell? ⟨r, 4, none⟩ = some (.int .i64 0) ∧ w8.cell? ⟨r, 5, none⟩ = some (.slice none 0 0)) := OX.out.all6
    have RA : Hid (RdV ((w8.alloc (.cells #[.int .i64 0, .int .u64 0, .int .u64 0, .int .i64 0, .int .i64 0, .slice none 0 0] 53)).alloc (.cells #[.int .i64 0, .int .u64 0, .int .u64 0, .int .i64 0, .int .i64 0, .slice none 0 0] 53)) (some ⟨w8.heap.size, 0, none⟩) 1 [(default : Lt)]) := (rdV_one (x := (default : Lt)) (B := none) (k := 0) (OkL.nil _) _).below (below_alloc _ _)
    have RB : Hid (RdV ((w8.alloc (.cells #[.int .i64 0, .int .u64 0, .int .u64 0, .int .i64 0, .int .i64 0, .slice none 0 0] 53)).alloc (.cells #[.int .i64 0, .int .u64 0, .int .u64 0, .int .i64 0, .int .i64 0, .slice none 0 0] 53)) (some ⟨w8.heap.size + 1, 0, none⟩) 1 [(default : Lt)]) := by
      have h := rdV_one (w := w8.alloc (.cells #[.int .i64 0, .int .u64 0, .int .u64 0, .int .i64 0, .int .i64 0, .slice none 0 0] 53)) (x := (default : Lt)) (B := none) (k := 0) (OkL.nil _) 53
      rw [World.size_alloc] at h
      exact h
    have BK : Hid (Below W.heap.size W ((w8.alloc (.cells #[.int .i64 0, .int .u64 0, .int .u64 0, .int .i64 0, .int .i64 0, .slice none 0 0] 53)).alloc (.cells #[.int .i64 0, .int .u64 0, .int .u64 0, .int .i64 0, .int .i64 0, .slice none 0 0] 53))) := (B8.out.alloc B8.out.size _).alloc (by have := B8.out.size; rw [World.size_alloc]; omega) _
    go_wp2_with fail
    refine (sameBallots_any _ _ 1 _ _ [(default : Lt)] _ RA.out RB.out).mono ?_
    rintro e x1 ⟨rfl, q, rfl⟩
    go_wp2_with fail
    go_ret
    exact ⟨rfl, Below.drewN BK.out q⟩
  case neg =>
    replace HI := Lib.hid (HI.out.below BW.out)
    replace LA := Lib.hid (LA.out.below BW.out)
    refine (choose_v f a C kc A n c J _ hn LA.out HI.out (by have := HSM.out; omega)).mono ?_
    rintro e w3 ⟨hb3, D, kd, rfl, lx⟩
    have HUN := Lib.hid (choose_under a J)
    have HIS := Lib.hid (choose_is a J)
    have HCC := Lib.hid (choose_c a J)
    obtain ⟨x, hx⟩ : ∃ x, chooseV a J = x := ⟨_, rfl⟩
    rw [hx] at lx HUN HIS HCC ⊢
    have LX := Lib.hid lx
    have H3 := Lib.hid hb3
    replace OA := Lib.hid (OA.out.below H3.out)
    replace BW := Lib.hid (BW.out.trans (H3.out.mono BW.out.size))
    replace HI := Lib.hid (HI.out.below H3.out)
    replace LA := Lib.hid (LA.out.below H3.out)
    clear hb3 lx H3 hx
    go_upto_region 7 with fail
    have OX := Lib.hid (Ob.fresh w3 #[.int .i64 x.n, .int .u64 (x.h : Nat), .int .u64 (x.l : Nat), .int .i64 x.v, .int .i64 x.c, .slice D x.log.length kd] 53)
    have H4 : Hid (Below w3.heap.size w3 (w3.alloc (.cells #[.int .i64 x.n, .int .u64 (x.h : Nat), .int .u64 (x.l : Nat), .int .i64 x.v, .int .i64 x.c, .slice D x.log.length kd] 53))) := below_alloc _ _
    generalize w3.alloc (.cells #[.int .i64 x.n, .int .u64 (x.h : Nat), .int .u64 (x.l : Nat), .int .i64 x.v, .int .i64 x.c, .slice D x.log.length kd] 53) = w4 at OX H4 ⊢
    generalize w3.heap.size = rx at OX ⊢
    replace OA := Lib.hid (OA.out.below H4.out)
    replace BW := Lib.hid (BW.out.trans (H4.out.mono BW.out.size))
    replace HI := Lib.hid (HI.out.below H4.out)
    replace LA := Lib.hid (LA.out.below H4.out)
    replace LX := Lib.hid (LX.out.below H4.out)
    clear H4
    obtain ⟨p0, p1, p2, p3, p4, p5⟩ := OA.out.all6
    go_wp2_with (at_builtin; refine wpList_app rfl (.tmp 38) (.tmp 40) rfl eltApiBallot w4.heap.size (.slice none 0 0) 0 [] rfl (World.ownsRow_nil _ _ _ _) (some ⟨w4.heap.size, 0, none⟩) 1 1 (a.raw C kc).cells rfl rfl (fun h => by cases h) (fresh_news w4 (a.raw C kc).cells.toArray 53) (Bt.one (a.raw C kc)) ?d3 ?d4 ?d5 ?_)
    case d3 => simp only [maxLen]; omega
    intro A5 c5 w5 ho5 hg5 _
    have H5 : Hid (Below w4.heap.size w4 w5) := (below_alloc _ _).trans ⟨hg5.os, hg5.tape, hg5.output, hg5.size, fun q hq => hg5.block q (by simp; omega) (fun e => by cases e)⟩
    have O5 := Lib.hid ho5
    clear ho5 hg5 p0 p1 p2 p3 p4 p5
    obtain ⟨R, hR, hRl, hRo⟩ := HI.out
    have HR := Lib.hid (hR.below H5.out)
    have HRL := Lib.hid hRl
    have HRO := Lib.hid hRo
    clear hR hRl hRo
    go_wp2_with (at_builtin; refine (wpList_app rfl (.tmp 42) (.tmp 43) rfl eltApiBallot w4.heap.size (.slice A5 (0 + 1) c5) (0 + 1) ([] ++ (a.raw C kc).cells) rfl O5.out A n c (CL Bt.cells R) rfl (by rw [bt_len, HRL.out, HIL.out]) HCN.out (rdc_news (size := 6) (cells := Bt.cells) (by decide) (fun _ => rfl) HR.out) (CL_one (cells := Bt.cells) Bt.one R) ?f3 ?f4 ?f5 ?_))
    case f3 => have := HSM.out; simp only [maxLen]; omega
    case f4 => have := HSM.out; omega
    case f5 => have := H5.out.size; omega
    intro A6 c6 w6 ho6 hg6 _
    have H6 : Hid (Below w4.heap.size w4 w6) := below_own H5.out H5.out.size O5.out hg6
    have RD : Hid (RdC 6 Bt.cells w6 A6 (1 + n) (a.raw C kc :: R)) := rdBt (show w6.ownsRow w4.heap.size 53 6 (.slice A6 (1 + n) c6) (1 + n) (CL Bt.cells (a.raw C kc :: R)) from ho6) (by have := HRL.out; have := HIL.out; simp only [List.length_cons]; omega)
    have RV : Hid (RdV w6 A6 (1 + n) (a :: J)) := rdV_cons RD.out (LA.out.below H6.out) HRL.out fun i y hy => by
      obtain ⟨B, k, e, ho⟩ := HRO.out i y hy
      exact ⟨B, k, e, ho.below H6.out⟩
    clear ho6 hg6 O5 H5 RD HR HRL HRO
    replace OX := Lib.hid (OX.out.below H6.out)
    replace LX := Lib.hid (LX.out.below H6.out)
    replace BW := Lib.hid (BW.out.trans (H6.out.mono BW.out.size))
    clear H6
    obtain ⟨m, hm⟩ : ∃ m, 1 + n = m := ⟨_, rfl⟩
    rw [hm] at RV ⊢
    have HM : Hid ((a :: J).length = m) := by have := HIL.out; simp only [Hid, List.length_cons]; omega
    have hmb : (m : Int) ≤ 6000000000001 := by omega
    clear hm
    generalize a :: J = U at HUN HIS HCC RV HM
    clear OA LA HI HSM HCN HIL
    have hxl : (x.log.length : Int) ≤ 6000000000000 := by have := LX.out.small; omega
    go_wp2_with fail
    go_loopw [10, 11, 12] (fun mv sv iv wr => ∃ (i : Nat) (bb : Bool), i ≤ m ∧ iv = .int .i64 i ∧ mv = .int .i64 (topC (U.take i)) ∧ sv = .bool bb ∧ Hid (Below w6.heap.size w6 wr) ∧ Hid ((∃ j y, j < i ∧ U[j]? = some y ∧ Is y x) → bb = true)) (fun _ _ iv _ => m - (intOf iv).toNat)
    case atStart => exact ⟨0, false, by omega, rfl, rfl, rfl, Below.refl _ _, fun ⟨j, y, hj, _⟩ => by omega⟩
    case round =>
      obtain ⟨i, bb, hi, rfl, rfl, rfl, HR, HB⟩ := hrel
      by_cases him : i < m
      · obtain ⟨y, hy⟩ : ∃ y, U[i]? = some y := ⟨_, List.getElem?_eq_getElem (by have := HM.out; omega)⟩
        obtain ⟨ad, E, ke, rfl, oe, g0, g1, g2, g3, g4, g5⟩ := (RV.out.below HR.out).atV hy
        have HUY : Hid (Under y x) := HUN.out y (List.mem_of_getElem? hy)
        have HMX : Hid (topC (U.take (i + 1)) = max (topC (U.take i)) y.c) := by rw [take_next hy]; exact topC_push _ _
        have hki : (i : Int) < (m : Int) := by omega
        have HIM := Lib.hid him
        have HYY := Lib.hid hy
        have LY := Lib.hid oe
        have hyl : (y.log.length : Int) ≤ 6000000000000 := by have := oe.small; omega
        clear hy him hi oe
        go_upto_region 17 with fail
        obtain ⟨mx, hmx⟩ : ∃ mx, (if topC (U.take i) < y.c then y.c else topC (U.take i)) = mx := ⟨_, rfl⟩
        rw [hmx]
        replace HMX : Hid (topC (U.take (i + 1)) = mx) := by rw [HMX.out, ← max_if]; exact hmx
        clear hmx
        obtain ⟨mk, hmk⟩ : ∃ mk, topC (U.take i) = mk := ⟨_, rfl⟩
        rw [hmk]
        clear hmk
        have OY := Lib.hid (Ob.fresh wr #[.int .i64 y.n, .int .u64 (y.h : Nat), .int .u64 (y.l : Nat), .int .i64 y.v, .int .i64 y.c, .slice E y.log.length ke] 53)
        have HY : Hid (Below wr.heap.size wr (wr.alloc (.cells #[.int .i64 y.n, .int .u64 (y.h : Nat), .int .u64 (y.l : Nat), .int .i64 y.v, .int .i64 y.c, .slice E y.log.length ke] 53))) := below_alloc _ _
        generalize wr.alloc (.cells #[.int .i64 y.n, .int .u64 (y.h : Nat), .int .u64 (y.l : Nat), .int .i64 y.v, .int .i64 y.c, .slice E y.log.length ke] 53) = w7 at OY HY ⊢
        generalize wr.heap.size = ry at OY ⊢
        have OX7 := Lib.hid ((OX.out.below HR.out).below HY.out)
        have LX7 := Lib.hid ((LX.out.below HR.out).below HY.out)
        have LY7 := Lib.hid (LY.out.below HY.out)
        have HR7 : Hid (Below w6.heap.size w6 w7) := HR.out.trans (HY.out.mono HR.out.size)
        clear g0 g1 g2 g3 g4 g5 HR HY LY
        go_cut [79] (fun bv wx => bv = .bool false ∧ w7 = wx)
        case first =>
          obtain ⟨p0, p1, p2, p3, p4, p5⟩ := OX7.out.all6
          obtain ⟨q0, q1, q2, q3, q4, q5⟩ := OY.out.all6
          have hu := HUY.out
          unfold Under at hu
          have c1 : ¬ x.v < y.v := by omega
          by_cases c2 : y.v = x.v
          case neg =>
            have hb : (y.v == x.v) = false := beq_eq_false_iff_ne.2 c2
            clear c2 hu
            go_wp2_with fail
            go_meet
            exact ⟨rfl, rfl⟩
          have c3 : ¬ (x.log.length : Int) < (y.log.length : Int) := by omega
          rw [c2] at q3 c1
          clear c2 hu
          go_wp2_with fail
          go_meet
          exact ⟨rfl, rfl⟩
        case rest =>
          obtain ⟨rfl, rfl⟩ := hcut
          go_upto_region 19 with fail
          have hi2 : (i : Int) + 1 ≤ 6000000000002 := by have := HIM.out; omega
          obtain ⟨p0, p1, p2, p3, p4, p5⟩ := OX7.out.all6
          obtain ⟨q0, q1, q2, q3, q4, q5⟩ := OY.out.all6
          cases bb with
          | true =>
            go_wp2_with fail
            go_roundw
            case rel => exact ⟨i + 1, true, HIM.out, by go_num, by rw [HMX.out], rfl, HR7.out, fun _ => rfl⟩
            case measure => have := HIM.out; simp [intOf]; omega
          | false =>
            by_cases e0 : y.n = x.n
            case neg =>
              have hb : (y.n == x.n) = false := beq_eq_false_iff_ne.2 e0
              have E := Lib.hid e0
              clear e0
              go_wp2_with fail
              go_roundw
              case rel => exact ⟨i + 1, false, HIM.out, by go_num, by rw [HMX.out], rfl, HR7.out, fun ⟨j, z, hj, hz, h⟩ => by
                by_cases e : j = i
                · subst e; rw [HYY.out] at hz; cases hz; exact absurd h.1 E.out
                · have h9 := HB.out ⟨j, z, by omega, hz, h⟩; cases h9⟩
              case measure => have := HIM.out; simp [intOf]; omega
            by_cases e1 : y.h = x.h
            case neg =>
              have hb : ((y.h : Int) == (x.h : Int)) = false := beq_eq_false_iff_ne.2 (by omega)
              have E := Lib.hid e1
              rw [e0] at q0
              clear e0 e1
              go_wp2_with fail
              go_roundw
              case rel => exact ⟨i + 1, false, HIM.out, by go_num, by rw [HMX.out], rfl, HR7.out, fun ⟨j, z, hj, hz, h⟩ => by
                by_cases e : j = i
                · subst e; rw [HYY.out] at hz; cases hz; exact absurd h.2.1 E.out
                · have h9 := HB.out ⟨j, z, by omega, hz, h⟩; cases h9⟩
              case measure => have := HIM.out; simp [intOf]; omega
            by_cases e2 : y.l = x.l
            case neg =>
              have hb : ((y.l : Int) == (x.l : Int)) = false := beq_eq_false_iff_ne.2 (by omega)
              have E := Lib.hid e2
              rw [e0] at q0
              rw [e1] at q1
              clear e0 e1 e2
              go_wp2_with fail
              go_roundw
              case rel => exact ⟨i + 1, false, HIM.out, by go_num, by rw [HMX.out], rfl, HR7.out, fun ⟨j, z, hj, hz, h⟩ => by
                by_cases e : j = i
                · subst e; rw [HYY.out] at hz; cases hz; exact absurd h.2.2.1 E.out
                · have h9 := HB.out ⟨j, z, by omega, hz, h⟩; cases h9⟩
              case measure => have := HIM.out; simp [intOf]; omega
            by_cases e3 : y.v = x.v
            case neg =>
              have hb : (y.v == x.v) = false := beq_eq_false_iff_ne.2 e3
              have E := Lib.hid e3
              rw [e0] at q0
              rw [e1] at q1
              rw [e2] at q2
              clear e0 e1 e2 e3
              go_wp2_with fail
              go_roundw
              case rel => exact ⟨i + 1, false, HIM.out, by go_num, by rw [HMX.out], rfl, HR7.out, fun ⟨j, z, hj, hz, h⟩ => by
                by_cases e : j = i
                · subst e; rw [HYY.out] at hz; cases hz; exact absurd h.2.2.2.1 E.out
                · have h9 := HB.out ⟨j, z, by omega, hz, h⟩; cases h9⟩
              case measure => have := HIM.out; simp [intOf]; omega
            rw [e0] at q0
            rw [e1] at q1
            rw [e2] at q2
            rw [e3] at q3
            clear e0 e1 e2 e3
            go_wp2_with fail
            refine (sameEntries_any _ _ _ _ _ _ y.log x.log _ LY7.out.rd LX7.out.rd).mono ?_
            rintro e w8 ⟨⟨b2, rfl, hb2⟩, q, rfl⟩
            have HB2 := Lib.hid hb2
            have HR8 : Hid (Below w6.heap.size w6 (w7.drewN q)) := Below.drewN HR7.out q
            clear hb2 p0 p1 p2 p3 p4 p5 q0 q1 q2 q3 q4 q5
            go_wp2_with fail
            go_roundw
            case rel => exact ⟨i + 1, b2, HIM.out, by go_num, by rw [HMX.out], rfl, HR8.out, fun ⟨j, z, hj, hz, h⟩ => by
              by_cases e : j = i
              · subst e; rw [HYY.out] at hz; cases hz; exact HB2.out.2 h.2.2.2.2
              · have h9 := HB.out ⟨j, z, by omega, hz, h⟩; cases h9⟩
            case measure => have := HIM.out; simp [intOf]; omega
      · obtain rfl : i = m := by omega
        have hki : ¬ (i : Int) < (i : Int) := by omega
        have HBT : Hid (bb = true) := by
          obtain ⟨y, hy, h⟩ := HIS.out
          obtain ⟨j, hj⟩ := List.getElem?_of_mem hy
          exact HB.out ⟨j, y, by have := (List.getElem?_eq_some_iff.1 hj).1; have := HM.out; omega, hj, h⟩
        rw [HBT.out]
        have HTC : Hid (topC (U.take i) = topC U) := by rw [List.take_of_length_le (by have := HM.out; omega)]; exact rfl
        rw [HTC.out]
        have OX9 := Lib.hid (OX.out.below HR.out)
        have BF := Lib.hid (BW.out.trans (HR.out.mono BW.out.size))
        obtain ⟨p0, p1, p2, p3, p4, p5⟩ := OX9.out.all6
        have hc := HCC.out
        obtain ⟨tc, htc⟩ : ∃ z, topC U = z := ⟨_, rfl⟩
        rw [htc] at hc ⊢
        clear him hi htc
        by_cases h1 : (x.log.length : Int) < tc
        case pos =>
          have e : x.c = (x.log.length : Int) := by omega
          rw [e] at p4
          clear e hc
          go_wp2_with fail
          go_ret
          exact ⟨rfl, BF.out⟩
        case neg =>
          have e : x.c = tc := by omega
          rw [e] at p4
          clear e hc
          go_wp2_with fail
          go_ret
          exact ⟨rfl, BF.out⟩
end Go.Proofs.Ytjjobgolpedgeaa
