/-
  The walk of TallySettled.
-/
import Derived.Test.YtjjobgolpedgeaaTMeetP
import Derived.Test.YtjjobgolpedgeaaTSmall
import Derived.Test.YtjjobgolpedgeaaTWorks
import Derived.Test.YtjjobgolpedgeaaTOpen3
import Derived.Test.YtjjobgolpedgeaaTLog2
set_option linter.unusedVariables false
set_option linter.unusedSimpArgs false
namespace Go.Proofs.Ytjjobgolpedgeaa
open Go.RowKit

/-- what the answers are -/
def SOk (f : Nat) (k : Nat) (V : List Lt) : Prop := Rise Lt.n V ∧ V.length ≤ k ∧ ∀ x ∈ V, 0 ≤ x.n ∧ x.n ≤ 2 * (f : Int) ∧ 0 ≤ x.v
theorem SOk.nil (f : Nat) : SOk f 0 [] := ⟨List.Pairwise.nil, by simp, fun x h => by simp at h⟩
theorem SOk.put {f k : Nat} {V : List Lt} {y : Lt} (h : SOk f k V) (hq : 0 ≤ y.n ∧ y.n ≤ 2 * (f : Int) ∧ 0 ≤ y.v) : SOk f (k + 1) (putF Lt.n Lt.wins V y) := by
  refine ⟨?_, ?_, fun x hx => ?_⟩
  · rw [putF_ins _ h.1]; exact ins_rise h.1
  · have := putF_len Lt.n Lt.wins V y; have := h.2.1; omega
  · rcases putF_mem hx with rfl | hx
    · exact hq
    · exact h.2.2 x hx
theorem SOk.len {f k : Nat} {V : List Lt} (h : SOk f k V) (hf : f ≤ 3) : V.length ≤ 7 := by
  have h1 := pigeon (2 * f + 1) (V.map Lt.n) (rise_nodup h.1) (fun y hy => by
    obtain ⟨x, hx, rfl⟩ := List.mem_map.1 hy
    have := h.2.2 x hx; omega)
  rw [List.length_map] at h1
  omega
def okW (f vw : Int) (x : Lt) : Bool := x.v == vw && x.n == vw.tmod (2 * f + 1)
theorem mxL_from {a b : Int} {L : List Lt} (h : ∃ x ∈ L, a ≤ x.v ∧ b ≤ x.v) : mxL a L = mxL b L := by
  obtain ⟨x, hx, h1, h2⟩ := h
  have h3 := (mxL_ge a L).2 x hx
  have h4 := (mxL_ge b L).2 x hx
  have key : ∀ {a b : Int}, a ≤ x.v → b ≤ x.v → mxL a L ≤ mxL b L := by
    intro a b ha hb
    rcases mxL_in a L with e | ⟨y, hy, e⟩
    · have := (mxL_ge b L).2 x hx; omega
    · have := (mxL_ge b L).2 y hy; omega
  have := key h1 h2
  have := key h2 h1
  omega
theorem settle_by {f : Nat} {V : List Lt} (h1 : 1 ≤ f) (h3 : f ≤ 3) (h : ∀ x ∈ V, 0 ≤ x.v) : settleV f V = if (f : Int) < (V.length : Int) then V.find? (okW f (mxL (-1) V)) else none := by
  unfold settleV
  by_cases hl : (f : Int) < (V.length : Int)
  · rw [if_neg (by omega), if_pos hl]
    have hne : V ≠ [] := by intro e; subst e; simp at hl; omega
    obtain ⟨x, hx, e⟩ := mxL_head hne
    have hv := h x hx
    have e1 : mxL (V.headD default).v V = mxL (-1) V := by
      refine mxL_from ?_
      cases V with
      | nil => exact absurd rfl hne
      | cons y t => exact ⟨y, by simp, Int.le_refl _, by have := h y (by simp); show (-1 : Int) ≤ y.v; omega⟩
    rw [e1]
    rw [e1] at e
    have e2 : okV (f : Int) (mxL (-1) V) = okW f (mxL (-1) V) := by
      funext z
      unfold okV okW prim
      rw [e, Int.tmod_eq_emod_of_nonneg hv]
      have h5 : x.v % (2 * (f : Int) + 1) % (2 * (f : Int) + 1) = x.v % (2 * (f : Int) + 1) := Int.emod_emod_of_dvd _ (Int.dvd_refl _)
      rw [h5]
    rw [e2]
  · rw [if_pos (by omega), if_neg hl]
theorem mxL_push (a : Int) (L : List Lt) (x : Lt) : mxL a (L ++ [x]) = max (mxL a L) x.v := by simp [mxL]
set_option maxRecDepth 100000 in
set_option maxHeartbeats 3200000 in
theorem tallySettled_walk (fa : Int) (A : Option Addr) (n c : Nat) (I : List Pt) (W : World) (wf : (Lit.int .i64 fa).wf = true) (h : RdC 6 Pt.cells W A n I) (ok : ∀ x ∈ I, x.Ok W) (hsm : n * 64 ≤ 140737488351232 ∧ ∀ x ∈ I, x.Sm) :
    Calls Try.prog 4 #[.int .i64 fa, .slice A n c] W fun e w' => e = .returned (.bool true) ∧ Below W.heap.size W w' := by
  have HI := Lib.hid (rdV_of h ok hsm.2)
  have HOK : Hid (∀ x ∈ I.map (·.1), x.Ok) := fun x hx => by obtain ⟨p, hp, rfl⟩ := List.mem_map.1 hx; exact (ok p hp).ok
  have HIL : Hid ((I.map (·.1)).length = n) := by rw [List.length_map]; exact h.len
  have HWF := Lib.hid wf
  have hnb : (n : Int) ≤ 6000000000000 := by have := hsm.1; omega
  generalize I.map (·.1) = J at HI HOK HIL
  clear h ok hsm wf
  go_enter Try.func4, Try.ntmps4
  go_wp2_with fail
  refine (works_any _).mono ?_
  rintro e w1 ⟨rfl, hb1⟩
  have B1 := Lib.hid hb1
  clear hb1
  go_wp2_with fail
  refine (within_fn fa _ 2 _ rfl (by omega) HWF.out).mono ?_
  rintro e w' ⟨rfl, rfl⟩
  have hw5 := withinF_le fa 2
  obtain ⟨f, hf⟩ : ∃ q, 1 + withinF fa 2 = q := ⟨_, rfl⟩
  have hfi : (1 : Int) + (withinF fa 2 : Nat) = (f : Nat) := by omega
  have hf1 : 1 ≤ f := by omega
  have hf3 : f ≤ 3 := by omega
  clear hw5 hf
  have f1 : (1 : Int) ≤ (f : Int) := by omega
  have f3 : (f : Int) ≤ 3 := by omega
  have HF1 := Lib.hid hf1
  have HF3 := Lib.hid hf3
  clear hf1 hf3
  go_wp2_with fail
  clear hfi
  go_loopw [5, 6] (fun mv iv wr => ∃ (k : Nat) (A' : Option Addr) (c' : Nat) (V : List Lt), k ≤ n ∧ iv = .int .i64 k ∧ mv = .slice A' V.length c' ∧ Hid (V.length ≤ c') ∧ Hid (Below W.heap.size W wr) ∧ Hid (RdV wr A' V.length V) ∧ Hid (SOk f k V)) (fun _ iv _ => n - (intOf iv).toNat)
  case atStart => exact ⟨0, none, 0, [], by omega, rfl, rfl, Nat.le_refl _, B1.out, RdV.nil _ _, SOk.nil _⟩
  case round =>
    obtain ⟨k, A', c', V, hk, rfl, rfl, HC, HR, HV, HO⟩ := hrel
    by_cases hkn : k < n
    · obtain ⟨x, hx⟩ : ∃ x, J[k]? = some x := ⟨_, List.getElem?_eq_getElem (by have := HIL.out; omega)⟩
      obtain ⟨ad, B, j, rfl, o1, g0, g1, g2, g3, g4, g5⟩ := (HI.out.below HR.out).atV hx
      have hki : (k : Int) < (n : Int) := by omega
      have hk2 : (k : Int) + 1 ≤ 6000000000000 := by omega
      have HKN := Lib.hid hkn
      have O1 := Lib.hid o1
      have HXW : Hid x.Ok := HOK.out x (List.mem_of_getElem? hx)
      have HSZ : Hid ((V.length + 2) * 64 ≤ 140737488355328) := by have := HO.out.len HF3.out; simp only [Hid]; omega
      clear hx hkn hk o1
      go_wp2_with fail
      have OX := Lib.hid (Ob.fresh wr #[.int .i64 x.n, .int .u64 (x.h : Nat), .int .u64 (x.l : Nat), .int .i64 x.v, .int .i64 x.c, .slice B x.log.length j] 38)
      have BX : Hid (Below wr.heap.size wr (wr.alloc (.cells #[.int .i64 x.n, .int .u64 (x.h : Nat), .int .u64 (x.l : Nat), .int .i64 x.v, .int .i64 x.c, .slice B x.log.length j] 38))) := below_alloc _ _
      have ZX : Hid (wr.heap.size < (wr.alloc (.cells #[.int .i64 x.n, .int .u64 (x.h : Nat), .int .u64 (x.l : Nat), .int .i64 x.v, .int .i64 x.c, .slice B x.log.length j] 38)).heap.size) := by simp only [Hid, World.size_alloc]; omega
      generalize wr.alloc (.cells #[.int .i64 x.n, .int .u64 (x.h : Nat), .int .u64 (x.l : Nat), .int .i64 x.v, .int .i64 x.c, .slice B x.log.length j] 38) = w2 at OX BX ZX ⊢
      obtain ⟨r, hr⟩ : ∃ r, wr.heap.size = r := ⟨_, rfl⟩
      rw [hr] at OX ZX ⊢
      have HRR := Lib.hid hr
      clear hr g0 g1 g2 g3 g4 g5
      refine (within_fn x.n _ (2 * f) _ (by omega) (by have := HF3.out; omega) HXW.out.n).mono ?_
      rintro e w' ⟨rfl, rfl⟩
      have hw7 : (0 : Int) ≤ (withinF x.n (2 * f) : Nat) ∧ ((withinF x.n (2 * f) : Nat) : Int) ≤ 2 * (f : Int) := by have := withinF_le x.n (2 * f); omega
      obtain ⟨q, hq⟩ : ∃ q : Int, ((withinF x.n (2 * f) : Nat) : Int) = q := ⟨_, rfl⟩
      rw [hq] at hw7 ⊢
      have HQ := Lib.hid hw7
      clear hq hw7
      obtain ⟨p0, p1, p2, p3, p4, p5⟩ := OX.out.all6
      obtain ⟨s0, s1, s2, s3, s4, s5⟩ := OX.out.fro6
      go_wp2_with fail
      have OY := Lib.hid (OX.out.set 0 (by simp) (.int .i64 q))
      have BY : Hid (Below wr.heap.size wr (w2.setCell ⟨r, 0, none⟩ (.int .i64 q))) := BX.out.setCell (by rw [HRR.out]; exact Nat.le_refl _) _
      have ZY : Hid (r < (w2.setCell ⟨r, 0, none⟩ (.int .i64 q)).heap.size) := by have := ZX.out; simp only [Hid, World.size_setCell]; exact this
      generalize w2.setCell ⟨r, 0, none⟩ (.int .i64 q) = w3 at OY BY ZY ⊢
      clear p0 p1 p2 p3 p4 p5 s0 s1 s2 s3 s4 s5 OX BX ZX
      refine (within_fn x.v _ 20 _ rfl (by omega) HXW.out.v).mono ?_
      rintro e w' ⟨rfl, rfl⟩
      have hw8 : (0 : Int) ≤ (withinF x.v 20 : Nat) := by omega
      obtain ⟨u, hu⟩ : ∃ u : Int, ((withinF x.v 20 : Nat) : Int) = u := ⟨_, rfl⟩
      rw [hu] at hw8 ⊢
      have HU := Lib.hid hw8
      clear hu hw8
      obtain ⟨p0, p1, p2, p3, p4, p5⟩ := OY.out.all6
      obtain ⟨s0, s1, s2, s3, s4, s5⟩ := OY.out.fro6
      go_wp2_with fail
      have BZ : Hid (Below wr.heap.size wr (w3.setCell ⟨r, 3, none⟩ (.int .i64 u))) := BY.out.setCell (by rw [HRR.out]; exact Nat.le_refl _) _
      generalize w3.setCell ⟨r, 3, none⟩ (.int .i64 u) = w4 at BZ ⊢
      clear p0 p1 p2 p3 p4 p5 s0 s1 s2 s3 s4 s5 OY BY ZY
      refine (putAnswer_w A' V.length c' V ⟨q, x.h, x.l, u, x.c, x.log⟩ B j _ (HV.out.below BZ.out) (O1.out.below BZ.out) HSZ.out).mono ?_
      rintro e w5 ⟨A2, c2, rfl, hc2, hb2, ho2⟩
      have B5 : Hid (Below W.heap.size W w5) := (HR.out.trans (BZ.out.mono HR.out.size)).trans (hb2.mono (Nat.le_trans HR.out.size BZ.out.size))
      have R5 := Lib.hid ho2
      have C5 := Lib.hid hc2
      have O5 := Lib.hid (HO.out.put (y := ⟨q, x.h, x.l, u, x.c, x.log⟩) ⟨HQ.out.1, HQ.out.2, HU.out⟩)
      clear hb2 ho2 hc2 HR HV HO HC
      go_wp2_with fail
      go_roundw
      case rel => exact ⟨k + 1, A2, c2, _, HKN.out, by go_num, rfl, C5.out, B5.out, R5.out, O5.out⟩
      case measure => have := HKN.out; simp [intOf]; omega
    · obtain rfl : k = n := by omega
      have hki : ¬ (k : Int) < (k : Int) := by omega
      have hvl : (V.length : Int) ≤ 7 := by have := HO.out.len HF3.out; omega
      have hvc : (V.length : Int) ≤ (c' : Int) := by have := HC.out; omega
      have HSB := Lib.hid (settle_by HF1.out HF3.out (fun x hx => (HO.out.2.2 x hx).2.2))
      clear hkn hk
      go_wp2_with fail
      refine (settle_v f A' V.length c' V _ (WalkArith.wf_i64 ⟨by omega, by omega⟩) HV.out (by omega)).mono ?_
      rintro e w5 ⟨hb5, h5⟩
      have B5 : Hid (Below W.heap.size W w5) := HR.out.trans (hb5.mono HR.out.size)
      have V5 := Lib.hid (HV.out.below hb5)
      obtain ⟨x, D, j, er, he, hres, ho⟩ : ∃ (x : Lt) (D : Option Addr) (j : Nat) (er : Int), e = .returned (.tuple #[x.agg D j, .int .i64 er]) ∧ ((settleV f V = none ∧ x = default ∧ D = none ∧ j = 0 ∧ er = 81) ∨ (settleV f V = some x ∧ er = 0)) ∧ OkL w5 D j x.log := by
        rcases h5 with ⟨hn, he⟩ | ⟨x, D, j, hx, he, ho⟩
        · exact ⟨default, none, 0, 81, he, .inl ⟨hn, rfl, rfl, rfl, rfl⟩, OkL.nil _⟩
        · exact ⟨x, D, j, 0, he, .inr ⟨hx, rfl⟩, ho⟩
      subst he
      have HRES := Lib.hid hres
      have O5 := Lib.hid ho
      clear hb5 h5 hres ho HR HV
      go_wp2_with fail
      have OX := Lib.hid (Ob.fresh w5 #[.int .i64 x.n, .int .u64 (x.h : Nat), .int .u64 (x.l : Nat), .int .i64 x.v, .int .i64 x.c, .slice D x.log.length j] 38)
      have B6 : Hid (Below W.heap.size W (w5.alloc (.cells #[.int .i64 x.n, .int .u64 (x.h : Nat), .int .u64 (x.l : Nat), .int .i64 x.v, .int .i64 x.c, .slice D x.log.length j] 38))) := B5.out.alloc B5.out.size _
      have V6 : Hid (RdV (w5.alloc (.cells #[.int .i64 x.n, .int .u64 (x.h : Nat), .int .u64 (x.l : Nat), .int .i64 x.v, .int .i64 x.c, .slice D x.log.length j] 38)) A' V.length V) := V5.out.below (below_alloc _ _)
      have O6 : Hid (OkL (w5.alloc (.cells #[.int .i64 x.n, .int .u64 (x.h : Nat), .int .u64 (x.l : Nat), .int .i64 x.v, .int .i64 x.c, .slice D x.log.length j] 38)) D j x.log) := O5.out.below (below_alloc _ _)
      generalize w5.alloc (.cells #[.int .i64 x.n, .int .u64 (x.h : Nat), .int .u64 (x.l : Nat), .int .i64 x.v, .int .i64 x.c, .slice D x.log.length j] 38) = w6 at OX B6 V6 O6 ⊢
      generalize w5.heap.size = r at OX ⊢
      clear B5 V5 O5
      go_loopw [10, 11] (fun vv iv wr => ∃ (i : Nat), i ≤ V.length ∧ iv = .int .i64 i ∧ vv = .int .i64 (mxL (-1) (V.take i)) ∧ wr = w6) (fun _ iv _ => V.length - (intOf iv).toNat)
      case atStart => exact ⟨0, by omega, rfl, rfl, rfl⟩
      case round =>
        obtain ⟨i, hi, rfl, rfl, hww⟩ := hrel
        subst hww
        by_cases hin : i < V.length
        · obtain ⟨y, hy⟩ : ∃ x, V[i]? = some x := ⟨_, List.getElem?_eq_getElem hin⟩
          obtain ⟨ad, C1, j1, rfl, o1, g0, g1, g2, g3, g4, g5⟩ := V6.out.atV hy
          have hii : (i : Int) < (V.length : Int) := by omega
          have HMX : Hid (mxL (-1) (V.take (i + 1)) = max (mxL (-1) (V.take i)) y.v) := by rw [take_next hy]; exact mxL_push _ _ _
          have HIN := Lib.hid hin
          clear hy hin hi o1
          go_wp2_with fail
          go_roundw
          case rel => exact ⟨i + 1, HIN.out, by go_num, by rw [HMX.out, ← max_if], by simp⟩
          case measure => have := HIN.out; simp [intOf]; omega
        · obtain rfl : i = V.length := by omega
          have hii : ¬ (V.length : Int) < (V.length : Int) := by omega
          rw [List.take_length]
          obtain ⟨vw, hvw⟩ : ∃ z, mxL (-1) V = z := ⟨_, rfl⟩
          have HS2 : Hid (settleV f V = if (f : Int) < (V.length : Int) then V.find? (okW f vw) else none) := by rw [HSB.out, hvw]; exact rfl
          rw [hvw]
          clear hvw hin hi
          go_wp2_with fail
          obtain ⟨w7, rfl⟩ : ∃ z, z = wr := ⟨_, rfl⟩
          go_loopw [12] (fun iv wr => ∃ (i : Nat), i ≤ V.length ∧ iv = .int .i64 i ∧ Hid (Below w7.heap.size w7 wr) ∧ Hid ((f : Int) < (V.length : Int) → ∀ t y, t < i → V[t]? = some y → okW f vw y = false)) (fun iv _ => V.length - (intOf iv).toNat)
          case atStart => exact ⟨0, by omega, rfl, Below.refl _ _, fun _ t y ht => by omega⟩
          case round =>
            obtain ⟨i, hi, rfl, HR, HN⟩ := hrel
            have V7 := Lib.hid (V6.out.below HR.out)
            have O7 := Lib.hid (O6.out.below HR.out)
            have OX7 := Lib.hid (OX.out.below HR.out)
            have B7 : Hid (Below W.heap.size W wr) := B6.out.trans (HR.out.mono B6.out.size)
            by_cases hin : i < V.length
            · obtain ⟨y, hy⟩ : ∃ x, V[i]? = some x := ⟨_, List.getElem?_eq_getElem hin⟩
              obtain ⟨ad, C1, j1, rfl, o1, g0, g1, g2, g3, g4, g5⟩ := V7.out.atV hy
              have hii : (i : Int) < (V.length : Int) := by omega
              have hi2 : (i : Int) + 1 ≤ 8 := by omega
              have HYY := Lib.hid hy
              have HIN := Lib.hid hin
              clear hy hin hi o1
              go_upto_region 21 with fail
              by_cases hl : (f : Int) < (V.length : Int)
              case neg =>
                have hd : decide ((f : Int) < (V.length : Int)) = false := decide_eq_false hl
                have HL := Lib.hid hl
                clear hd
                go_quiet (fail)
                clear g0 g1 g2 g3 g4 g5 hl
                go_wp2_with fail
                go_roundw
                case rel => exact ⟨i + 1, HIN.out, by go_num, Below.drewN HR.out nq, fun h => absurd h HL.out⟩
                case measure => have := HIN.out; simp [intOf]; omega
              have HL := Lib.hid hl
              obtain ⟨bb, hbb⟩ : ∃ bb, (y.v == vw) = bb := ⟨_, rfl⟩
              have hne : (2 * (f : Int) + 1 == 0) = false := beq_eq_false_iff_ne.2 (by omega)
              have ht := tmod_in vw (2 * (f : Int) + 1) (by omega)
              cases bb with
              | false =>
                have HBB := Lib.hid hbb
                go_quiet (fail)
                clear g0 g1 g2 g3 g4 g5 hbb hne hl
                go_wp2_with fail
                go_roundw
                case rel => exact ⟨i + 1, HIN.out, by go_num, Below.drewN HR.out nq, fun h t z ht hz => by
                  by_cases e : t = i
                  · subst e; rw [HYY.out] at hz; cases hz; simp only [okW, HBB.out, Bool.false_and]
                  · exact HN.out h t z (by omega) hz⟩
                case measure => have := HIN.out; simp [intOf]; omega
              | true =>
                have HBB := Lib.hid hbb
                go_quiet (fail)
                have HR8 : Hid (Below w7.heap.size w7 (wr.drewN nq)) := Below.drewN HR.out nq
                have B8 : Hid (Below W.heap.size W (wr.drewN nq)) := Below.drewN B7.out nq
                have V8 := Lib.hid (V7.out.drewN nq)
                have O8 := Lib.hid (O7.out.drewN nq)
                have OX8 := Lib.hid (OX7.out.drewN nq)
                clear g0 g1 g2 g3 g4 g5 hbb hne hl V7 O7 OX7 B7 HR
                generalize wr.drewN nq = w8 at HR8 B8 V8 O8 OX8 ⊢
                obtain ⟨cc, hcc⟩ : ∃ cc, (y.n == vw.tmod (2 * (f : Int) + 1)) = cc := ⟨_, rfl⟩
                rw [hcc]
                cases cc with
                | false =>
                  have HCC := Lib.hid hcc
                  clear hcc
                  go_wp2_with fail
                  go_roundw
                  case rel => exact ⟨i + 1, HIN.out, by go_num, HR8.out, fun h t z ht hz => by
                    by_cases e : t = i
                    · subst e; rw [HYY.out] at hz; cases hz; simp only [okW, HCC.out, Bool.and_false]
                    · exact HN.out h t z (by omega) hz⟩
                  case measure => have := HIN.out; simp [intOf]; omega
                | true =>
                  have HST : Hid (settleV f V = some y) := by
                    rw [HS2.out, if_pos HL.out]
                    exact find_at HYY.out (by simp only [okW, hcc, HBB.out, Bool.and_true]) (fun t z ht hz => HN.out HL.out t z ht hz)
                  clear hcc
                  obtain ⟨hx, rfl⟩ : x = y ∧ er = 0 := by
                    rcases HRES.out with ⟨h1, _⟩ | ⟨h1, h2⟩
                    · rw [HST.out] at h1; cases h1
                    · rw [HST.out] at h1; cases h1; exact ⟨rfl, h2⟩
                  have HXY := Lib.hid hx
                  clear hx
                  obtain ⟨p0, p1, p2, p3, p4, p5⟩ := OX8.out.all6
                  have hcap : (i : Int) + 1 ≤ (c' : Int) := by omega
                  have hcap2 : (i : Int) ≤ (c' : Int) := by omega
                  have z1 : (0 : Int) ≤ (i : Int) := by omega
                  have z2 : (0 : Int) ≤ (i : Int) + 1 := by omega
                  have z3 : (i : Int) ≤ (i : Int) + 1 := by omega
                  have z4 : IntKind.i64.wrap ((i : Int) + 1) = (i : Int) + 1 := by rw [IntKind.wrap_i64]; omega
                  have z5 : ((i : Int) + 1).toNat - i = 1 := by omega
                  have z7 : ¬ c' = i := by omega
                  have z6 : ((i : Int) + 1 - (i : Int)).toNat = 1 := by omega
                  have V9 : Hid (RdV w8 (some (ad.add (i * 6))) 1 [x]) := V8.out.sub (by rw [HXY.out]; exact HYY.out)
                  have BK : Hid (Below w8.heap.size w8 (w8.alloc (.cells #[.int .i64 x.n, .int .u64 (x.h : Nat), .int .u64 (x.l : Nat), .int .i64 x.v, .int .i64 x.c, .slice D x.log.length j] 38)).drew) := Below.drew (below_alloc _ _)
                  have FS : Hid (∀ c d, Calls Try.prog 25 #[.slice (some ⟨w8.heap.size, 0, none⟩) 1 c, .slice (some (ad.add (i * 6))) 1 d] (w8.alloc (.cells #[.int .i64 x.n, .int .u64 (x.h : Nat), .int .u64 (x.l : Nat), .int .i64 x.v, .int .i64 x.c, .slice D x.log.length j] 38)).drew fun e w' => e = .returned (.bool true) ∧ ((w'.cell? ⟨r, 0, none⟩ = some (.int .i64 x.n) ∧ w'.cell? ⟨r, 1, none⟩ = some (.int .u64 (x.h : Nat)) ∧ w'.cell? ⟨r, 2, none⟩ = some (.int .u64 (x.l : Nat)) ∧ w'.cell? ⟨r, 3, none⟩ = some (.int .i64 x.v) ∧ w'.cell? ⟨r, 4, none⟩ = some (.int .i64 x.c) ∧ w'.cell? ⟨r, 5, none⟩ = some (.slice D x.log.length j)) ∧ Below w8.heap.size w8 w')) := fun c d =>
                    (sameAnswers_any _ _ 1 c d [x] _ ((rdV_one O8.out _).drewN 1) (V9.out.below BK.out)).mono fun e w' ⟨he, q, hq⟩ => by
                      have hb : Below w8.heap.size w8 w' := by rw [hq]; exact Below.drewN BK.out q
                      exact ⟨he, (OX8.out.below hb).all6, hb⟩
                  have HK := Lib.hid (⟨(OX8.out.below BK.out).all6, BK.out⟩ : ((w8.alloc (.cells #[.int .i64 x.n, .int .u64 (x.h : Nat), .int .u64 (x.l : Nat), .int .i64 x.v, .int .i64 x.c, .slice D x.log.length j] 38)).drew.cell? ⟨r, 0, none⟩ = some (.int .i64 x.n) ∧ (w8.alloc (.cells #[.int .i64 x.n, .int .u64 (x.h : Nat), .int .u64 (x.l : Nat), .int .i64 x.v, .int .i64 x.c, .slice D x.log.length j] 38)).drew.cell? ⟨r, 1, none⟩ = some (.int .u64 (x.h : Nat)) ∧ (w8.alloc (.cells #[.int .i64 x.n, .int .u64 (x.h : Nat), .int .u64 (x.l : Nat), .int .i64 x.v, .int .i64 x.c, .slice D x.log.length j] 38)).drew.cell? ⟨r, 2, none⟩ = some (.int .u64 (x.l : Nat)) ∧ (w8.alloc (.cells #[.int .i64 x.n, .int .u64 (x.h : Nat), .int .u64 (x.l : Nat), .int .i64 x.v, .int .i64 x.c, .slice D x.log.length j] 38)).drew.cell? ⟨r, 3, none⟩ = some (.int .i64 x.v) ∧ (w8.alloc (.cells #[.int .i64 x.n, .int .u64 (x.h : Nat), .int .u64 (x.l : Nat), .int .i64 x.v, .int .i64 x.c, .slice D x.log.length j] 38)).drew.cell? ⟨r, 4, none⟩ = some (.int .i64 x.c) ∧ (w8.alloc (.cells #[.int .i64 x.n, .int .u64 (x.h : Nat), .int .u64 (x.l : Nat), .int .i64 x.v, .int .i64 x.c, .slice D x.log.length j] 38)).drew.cell? ⟨r, 5, none⟩ = some (.slice D x.log.length j)) ∧ Below w8.heap.size w8 (w8.alloc (.cells #[.int .i64 x.n, .int .u64 (x.h : Nat), .int .u64 (x.l : Nat), .int .i64 x.v, .int .i64 x.c, .slice D x.log.length j] 38)).drew)
                  clear HRES
                  go_upto_region 22 with fail
                  go_region_held3 (fun y => (y.cell? ⟨r, 0, none⟩ = some (.int .i64 x.n) ∧ y.cell? ⟨r, 1, none⟩ = some (.int .u64 (x.h : Nat)) ∧ y.cell? ⟨r, 2, none⟩ = some (.int .u64 (x.l : Nat)) ∧ y.cell? ⟨r, 3, none⟩ = some (.int .i64 x.v) ∧ y.cell? ⟨r, 4, none⟩ = some (.int .i64 x.c) ∧ y.cell? ⟨r, 5, none⟩ = some (.slice D x.log.length j)) ∧ Below w8.heap.size w8 y) (first | exact ⟨⟨p0, p1, p2, p3, p4, p5⟩, Below.drew (Below.refl _ _)⟩ | exact HK.out | assumption | go_keep)
                    (first | (go_at_call 25; refine (FS.out _ _).mono ?_; rintro e x1 ⟨rfl, hx1⟩))
                  have B9 : Hid (Below W.heap.size W x1) := B8.out.trans (hx1.2.mono B8.out.size)
                  clear hx1 FS p0 p1 p2 p3 p4 p5
                  go_wp2_with fail
                  go_ret
                  exact ⟨rfl, B9.out⟩
            · obtain rfl : i = V.length := by omega
              have hii : ¬ (V.length : Int) < (V.length : Int) := by omega
              have HST : Hid (settleV f V = none) := by
                rw [HS2.out]
                split
                · rename_i hl
                  exact List.find?_eq_none.2 fun z hz => by
                    obtain ⟨t, ht⟩ := List.getElem?_of_mem hz
                    have := HN.out hl t z (List.getElem?_eq_some_iff.1 ht).1 ht
                    simp [this]
                · rfl
              obtain ⟨rfl, rfl, rfl, rfl⟩ : x = default ∧ D = none ∧ j = 0 ∧ er = 81 := by
                rcases HRES.out with ⟨_, h1⟩ | ⟨h1, h2⟩
                · exact h1
                · rw [HST.out] at h1; cases h1
              obtain ⟨w8, rfl⟩ : ∃ z, z = wr := ⟨_, rfl⟩
              obtain ⟨p0, p1, p2, p3, p4, p5⟩ : (w8.cell? ⟨r, 0, none⟩ = some (.int .i64 0) ∧ w8.cell? ⟨r, 1, none⟩ = some (.int .u64 0) ∧ w8.cell? ⟨r, 2, none⟩ = some (.int .u64 0) ∧ w8.cell? ⟨r, 3, none⟩ = some (.int .i64 0) ∧ w8.cell? ⟨r, 4, none⟩ = some (.int .i64 0) ∧ w8.cell? ⟨r, 5, none⟩ = some (.slice none 0 0)) := OX7.out.all6
              have RA : Hid (RdV ((w8.alloc (.cells #[.int .i64 0, .int .u64 0, .int .u64 0, .int .i64 0, .int .i64 0, .slice none 0 0] 38)).alloc (.cells #[.int .i64 0, .int .u64 0, .int .u64 0, .int .i64 0, .int .i64 0, .slice none 0 0] 38)) (some ⟨w8.heap.size, 0, none⟩) 1 [(default : Lt)]) := (rdV_one (x := (default : Lt)) (B := none) (k := 0) (OkL.nil _) _).below (below_alloc _ _)
              have RB : Hid (RdV ((w8.alloc (.cells #[.int .i64 0, .int .u64 0, .int .u64 0, .int .i64 0, .int .i64 0, .slice none 0 0] 38)).alloc (.cells #[.int .i64 0, .int .u64 0, .int .u64 0, .int .i64 0, .int .i64 0, .slice none 0 0] 38)) (some ⟨w8.heap.size + 1, 0, none⟩) 1 [(default : Lt)]) := by
                have h := rdV_one (w := w8.alloc (.cells #[.int .i64 0, .int .u64 0, .int .u64 0, .int .i64 0, .int .i64 0, .slice none 0 0] 38)) (x := (default : Lt)) (B := none) (k := 0) (OkL.nil _) 38
                rw [World.size_alloc] at h
                exact h
              have BK : Hid (Below W.heap.size W ((w8.alloc (.cells #[.int .i64 0, .int .u64 0, .int .u64 0, .int .i64 0, .int .i64 0, .slice none 0 0] 38)).alloc (.cells #[.int .i64 0, .int .u64 0, .int .u64 0, .int .i64 0, .int .i64 0, .slice none 0 0] 38))) := (B7.out.alloc B7.out.size _).alloc (by have := B7.out.size; rw [World.size_alloc]; omega) _
              clear hin hi HRES
              go_wp2_with fail
              refine (sameAnswers_any _ _ 1 _ _ [(default : Lt)] _ RA.out RB.out).mono ?_
              rintro e x1 ⟨rfl, q, rfl⟩
              go_wp2_with fail
              go_ret
              exact ⟨rfl, Below.drewN BK.out q⟩
end Go.Proofs.Ytjjobgolpedgeaa
