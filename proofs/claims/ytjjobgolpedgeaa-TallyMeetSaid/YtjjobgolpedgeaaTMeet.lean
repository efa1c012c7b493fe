/-
  The walk of TallyMeet.
-/
import Derived.Test.YtjjobgolpedgeaaTMeetP
import Derived.Test.YtjjobgolpedgeaaTSmall
import Derived.Test.YtjjobgolpedgeaaTWorks
import Derived.Test.YtjjobgolpedgeaaTOpen2
set_option linter.unusedVariables false
set_option linter.unusedSimpArgs false
namespace Go.Proofs.Ytjjobgolpedgeaa
open Go.RowKit

/-- what the marks are -/
def MOk (f : Nat) (self : Int) (k : Nat) (M : List Mk) : Prop := Rise Mk.n M ∧ M.length ≤ k ∧ ∀ x ∈ M, 0 ≤ x.n ∧ x.n ≤ 2 * (f : Int) ∧ x.n ≠ self
theorem MOk.nil (f : Nat) (self : Int) : MOk f self 0 [] := ⟨List.Pairwise.nil, by simp, fun x h => by simp at h⟩
theorem MOk.more {f k : Nat} {self : Int} {M : List Mk} (h : MOk f self k M) : MOk f self (k + 1) M := ⟨h.1, by have := h.2.1; omega, h.2.2⟩
theorem MOk.put {f k : Nat} {self q : Int} {M : List Mk} (h : MOk f self k M) (hq : 0 ≤ q ∧ q ≤ 2 * (f : Int)) (hs : q ≠ self) : MOk f self (k + 1) (putF Mk.n Mk.wins M ⟨q, 0, 0⟩) := by
  refine ⟨?_, ?_, fun x hx => ?_⟩
  · rw [putF_ins _ h.1]; exact ins_rise h.1
  · have := putF_len Mk.n Mk.wins M ⟨q, 0, 0⟩; have := h.2.1; omega
  · rcases putF_mem hx with rfl | hx
    · exact ⟨hq.1, hq.2, hs⟩
    · exact h.2.2 x hx
/-- what the answers are -/
def AOk (f : Nat) (k : Nat) (V : List Lt) : Prop := Rise Lt.n V ∧ V.length ≤ k ∧ ∀ x ∈ V, x.v = x.n ∧ 0 ≤ x.n ∧ x.n ≤ 2 * (f : Int)
theorem AOk.nil (f : Nat) : AOk f 0 [] := ⟨List.Pairwise.nil, by simp, fun x h => by simp at h⟩
theorem AOk.put {f k : Nat} {q : Int} {V : List Lt} (h : AOk f k V) (hq : 0 ≤ q ∧ q ≤ 2 * (f : Int)) : AOk f (k + 1) (putF Lt.n Lt.wins V ⟨q, 0, 0, q, 0, []⟩) := by
  refine ⟨?_, ?_, fun x hx => ?_⟩
  · rw [putF_ins _ h.1]; exact ins_rise h.1
  · have := putF_len Lt.n Lt.wins V ⟨q, 0, 0, q, 0, []⟩; have := h.2.1; omega
  · rcases putF_mem hx with rfl | hx
    · exact ⟨rfl, hq.1, hq.2⟩
    · exact h.2.2 x hx
theorem MOk.len {f k : Nat} {self : Int} {M : List Mk} (h : MOk f self k M) (hf : f ≤ 3) : M.length ≤ 7 := by
  have h1 := pigeon (2 * f + 1) (M.map Mk.n) (rise_nodup h.1) (fun y hy => by
    obtain ⟨x, hx, rfl⟩ := List.mem_map.1 hy
    have := h.2.2 x hx; omega)
  rw [List.length_map] at h1
  omega
theorem AOk.len {f k : Nat} {V : List Lt} (h : AOk f k V) (hf : f ≤ 3) : V.length ≤ 7 := by
  have h1 := pigeon (2 * f + 1) (V.map Lt.n) (rise_nodup h.1) (fun y hy => by
    obtain ⟨x, hx, rfl⟩ := List.mem_map.1 hy
    have := h.2.2 x hx; omega)
  rw [List.length_map] at h1
  omega
theorem putMark_at (A : Option Addr) (n c : Nat) (L : List Mk) (q : Int) (w : World) (h : RdC 3 Mk.cells w A n L) (hsm : (n + 2) * 24 ≤ 140737488355328) :
    Calls Try.prog 26 #[.slice A n c, .agg #[.int .i64 q, .int .u64 0, .int .u64 0]] w (RetL 49 3 Mk.cells w (putF Mk.n Mk.wins L ⟨q, 0, 0⟩)) := putMark_fn A n c L ⟨q, 0, 0⟩ w h hsm
theorem putAnswer_at (A : Option Addr) (n c : Nat) (V : List Lt) (q : Int) (w : World) (h : RdV w A n V) (hsm : (n + 2) * 64 ≤ 140737488355328) :
    Calls Try.prog 23 #[.slice A n c, .agg #[.int .i64 q, .int .u64 0, .int .u64 0, .int .i64 q, .int .i64 0, .slice none 0 0]] w (RetV w (putF Lt.n Lt.wins V ⟨q, 0, 0, q, 0, []⟩)) := putAnswer_v A n c V ⟨q, 0, 0, q, 0, []⟩ none 0 w h (OkL.nil _) hsm
set_option maxRecDepth 100000 in
set_option maxHeartbeats 3200000 in
theorem tallyMeet_walk (fa sa : Int) (A : Option Addr) (n c : Nat) (I : List Int) (B : Option Addr) (m d : Nat) (J : List Int) (W : World) (wf : (Lit.int .i64 fa).wf = true) (ws : (Lit.int .i64 sa).wf = true)
    (h : RdC 1 icells W A n I) (hi : ∀ x ∈ I, iok x) (hsm : n * 8 ≤ 140737488351232) (h2 : RdC 1 icells W B m J) (hj : ∀ x ∈ J, iok x) (hsm2 : m * 8 ≤ 140737488351232) :
    Calls Try.prog 5 #[.int .i64 fa, .int .i64 sa, .slice A n c, .slice B m d] W fun e w' => e = .returned (.bool true) ∧ Below W.heap.size W w' := by
  have HI := Lib.hid h
  have HJ := Lib.hid h2
  have HIW := Lib.hid hi
  have HJW := Lib.hid hj
  have HWF := Lib.hid wf
  have HWS := Lib.hid ws
  have hnb : (n : Int) ≤ 20000000000000 := by omega
  have hmb : (m : Int) ≤ 20000000000000 := by omega
  clear h h2 hi hj hsm hsm2 wf ws
  go_enter Try.func5, Try.ntmps5
  go_wp2_with fail
  refine (works_any _).mono ?_
  rintro e w1 ⟨rfl, hb1⟩
  have B1 := Lib.hid hb1
  clear hb1
  go_wp2_with fail
  refine (within_fn fa _ 2 _ rfl (by omega) HWF.out).mono ?_
  rintro e w' ⟨rfl, rfl⟩
  have hw5 := withinF_le fa 2
  obtain ⟨f, hf⟩ : ∃ q, 1 + withinF fa 2 = q := ⟨_, rfl⟩
  have hfi : (1 : Int) + (withinF fa 2 : Nat) = (f : Nat) := by omega
  have hf1 : 1 ≤ f := by omega
  have hf3 : f ≤ 3 := by omega
  clear hw5 hf
  have f1 : (1 : Int) ≤ (f : Int) := by omega
  have f3 : (f : Int) ≤ 3 := by omega
  go_wp2_with fail
  clear hfi
  refine (within_fn sa _ (2 * f) _ (by omega) (by omega) HWS.out).mono ?_
  rintro e w' ⟨rfl, rfl⟩
  have hw6 : (0 : Int) ≤ (withinF sa (2 * f) : Nat) ∧ ((withinF sa (2 * f) : Nat) : Int) ≤ 2 * (f : Int) := by have := withinF_le sa (2 * f); omega
  obtain ⟨self, hself⟩ : ∃ q : Int, ((withinF sa (2 * f) : Nat) : Int) = q := ⟨_, rfl⟩
  rw [hself] at hw6 ⊢
  clear hself
  have HF1 := Lib.hid hf1
  have HF3 := Lib.hid hf3
  have HS := Lib.hid hw6
  clear hf1 hf3 hw6
  go_wp2_with fail
  go_loopw [9, 10] (fun mv iv wr => ∃ (k : Nat) (A' : Option Addr) (c' : Nat) (M : List Mk), k ≤ n ∧ iv = .int .i64 k ∧ mv = .slice A' M.length c' ∧ Hid (Below W.heap.size W wr) ∧ Hid (RdC 3 Mk.cells wr A' M.length M) ∧ Hid (MOk f self k M)) (fun _ iv _ => n - (intOf iv).toNat)
  case atStart => exact ⟨0, none, 0, [], by omega, rfl, rfl, B1.out, RdC.nil _ _ _ _, MOk.nil _ _⟩
  case round =>
    obtain ⟨k, A', c', M, hk, rfl, rfl, HR, HM, HO⟩ := hrel
    by_cases hkn : k < n
    · obtain ⟨x, hx⟩ : ∃ x, I[k]? = some x := ⟨_, List.getElem?_eq_getElem (by have := HI.out.len; omega)⟩
      obtain ⟨ad, rfl, g0⟩ := (HI.out.below HR.out).atI hx
      have hki : (k : Int) < (n : Int) := by omega
      have hk2 : (k : Int) + 1 ≤ 20000000000000 := by omega
      have HKN := Lib.hid hkn
      have HXW : Hid (iok x) := HIW.out x (List.mem_of_getElem? hx)
      have HSZ : Hid ((M.length + 2) * 24 ≤ 140737488355328) := by have := HO.out.len HF3.out; simp only [Hid]; omega
      clear hx hkn hk
      go_wp2_with fail
      refine (within_fn x _ (2 * f) _ (by omega) (by have := HF3.out; omega) HXW.out).mono ?_
      rintro e w' ⟨rfl, rfl⟩
      have hw7 : (0 : Int) ≤ (withinF x (2 * f) : Nat) ∧ ((withinF x (2 * f) : Nat) : Int) ≤ 2 * (f : Int) := by have := withinF_le x (2 * f); omega
      obtain ⟨q, hq⟩ : ∃ q : Int, ((withinF x (2 * f) : Nat) : Int) = q := ⟨_, rfl⟩
      rw [hq] at hw7 ⊢
      have HQ := Lib.hid hw7
      clear hq hw7 g0
      by_cases hs : q = self
      · subst hs
        go_wp2_with fail
        go_roundw
        case rel => exact ⟨k + 1, A', c', M, HKN.out, by go_num, rfl, HR.out, HM.out, HO.out.more⟩
        case measure => have := HKN.out; simp [intOf]; omega
      · have hb : (q != self) = true := by simpa using hs
        have HNS := Lib.hid hs
        clear hs
        go_wp2_with fail
        refine (putMark_at A' M.length c' M q _ HM.out HSZ.out).mono ?_
        rintro e w2 ⟨A2, c2, rfl, hb2, ho2⟩
        have B2 : Hid (Below W.heap.size W w2) := HR.out.trans (hb2.mono HR.out.size)
        have R2 := Lib.hid (rdMk ho2 rfl)
        have O2 := Lib.hid (HO.out.put HQ.out HNS.out)
        clear hb2 ho2 HR HM HO
        go_wp2_with fail
        go_roundw
        case rel => exact ⟨k + 1, A2, c2, _, HKN.out, by go_num, rfl, B2.out, R2.out, O2.out⟩
        case measure => have := HKN.out; simp [intOf]; omega
    · obtain rfl : k = n := by omega
      have hki : ¬ (k : Int) < (k : Int) := by omega
      have HMB : Hid ((M.length : Int) ≤ 20000000000000) := by have := HO.out.len HF3.out; simp only [Hid]; omega
      have HV : Hid (Below W.heap.size W wr) := HR.out
      have MR := HM
      obtain ⟨w3, rfl⟩ : ∃ x, x = wr := ⟨_, rfl⟩
      clear hkn hk
      go_wp2_with fail
      go_loopw [12, 13] (fun av iv wr2 => ∃ (j : Nat) (B' : Option Addr) (d' : Nat) (V : List Lt), j ≤ m ∧ iv = .int .i64 j ∧ av = .slice B' V.length d' ∧ Hid (Below w3.heap.size w3 wr2) ∧ Hid (RdV wr2 B' V.length V) ∧ Hid (AOk f j V)) (fun _ iv _ => m - (intOf iv).toNat)
      case atStart => exact ⟨0, none, 0, [], by omega, rfl, rfl, Below.refl _ _, RdV.nil _ _, AOk.nil _⟩
      case round =>
        obtain ⟨j, B', d', V, hj, rfl, rfl, HR2, HV2, HO2⟩ := hrel
        by_cases hjm : j < m
        · obtain ⟨x, hx⟩ : ∃ x, J[j]? = some x := ⟨_, List.getElem?_eq_getElem (by have := HJ.out.len; omega)⟩
          obtain ⟨ad, rfl, g0⟩ := (HJ.out.below (HR.out.trans (HR2.out.mono HR.out.size))).atI hx
          have hji : (j : Int) < (m : Int) := by omega
          have hj2 : (j : Int) + 1 ≤ 20000000000000 := by omega
          have HJM := Lib.hid hjm
          have HXW : Hid (iok x) := HJW.out x (List.mem_of_getElem? hx)
          have HSZ : Hid ((V.length + 2) * 64 ≤ 140737488355328 ∨ 140737488355328 < (V.length + 2) * 64) := by simp only [Hid]; omega
          have HSV : Hid ((V.length : Int) ≤ 20000000000000) := by have := HO2.out.2.1; simp only [Hid]; omega
          clear hx hjm hj
          go_wp2_with fail
          refine (within_fn x _ (2 * f) _ (by omega) (by have := HF3.out; omega) HXW.out).mono ?_
          rintro e w' ⟨rfl, rfl⟩
          have hw7 : (0 : Int) ≤ (withinF x (2 * f) : Nat) ∧ ((withinF x (2 * f) : Nat) : Int) ≤ 2 * (f : Int) := by have := withinF_le x (2 * f); omega
          obtain ⟨q, hq⟩ : ∃ q : Int, ((withinF x (2 * f) : Nat) : Int) = q := ⟨_, rfl⟩
          rw [hq] at hw7 ⊢
          have HQ := Lib.hid hw7
          have HVS : Hid (V.length ≤ 7)  := HO2.out.len HF3.out
          clear hq hw7 g0
          go_wp2_with fail
          refine (putAnswer_at B' V.length d' V q _ HV2.out (by have := HVS.out; omega)).mono ?_
          rintro e w2 ⟨A2, c2, rfl, hb2, ho2⟩
          have B2 : Hid (Below w3.heap.size w3 w2) := HR2.out.trans (hb2.mono HR2.out.size)
          have R2 := Lib.hid ho2
          have O2 := Lib.hid (HO2.out.put HQ.out)
          clear hb2 ho2 HR2 HV2 HO2
          go_wp2_with fail
          go_roundw
          case rel => exact ⟨j + 1, A2, c2, _, HJM.out, by go_num, rfl, B2.out, R2.out, O2.out⟩
          case measure => have := HJM.out; simp [intOf]; omega
        · obtain rfl : j = m := by omega
          have hji : ¬ (j : Int) < (j : Int) := by omega
          have HVS : Hid (V.length ≤ 7)  := HO2.out.len HF3.out
          have HV := HM.out.below HR2.out
          have HMR := Lib.hid HV
          clear hjm hj HV
          go_wp2_with fail
          refine (settle_v f B' V.length d' V _ (WalkArith.wf_i64 ⟨by omega, by omega⟩) HV2.out (by have := HVS.out; omega)).mono ?_
          rintro e w5 ⟨hb5, h5⟩
          have B5 : Hid (Below W.heap.size W w5) := (HR.out.trans (HR2.out.mono HR.out.size)).trans (hb5.mono (HR.out.trans (HR2.out.mono HR.out.size)).size)
          have M5 := Lib.hid (HMR.out.below hb5)
          have V5 := Lib.hid (HV2.out.below hb5)
          have ST := Lib.hid (settle_own (f := (f : Int)) f1 f3 HO2.out.2.2)
          clear hb5 HMR HR HR2 HM HV2
          rcases h5 with ⟨hn, rfl⟩ | ⟨x, C, k', hx, rfl, ho⟩
          · have hlen : ¬ (f : Int) < (V.length : Int) := fun h => by
              obtain ⟨x, hx⟩ := ST.out.1 h
              rw [hn] at hx
              cases hx
            clear hn
            go_wp2_with fail
            refine (marked_any f A' M.length c' _).mono ?_
            rintro e w' ⟨rfl, rfl⟩
            obtain ⟨bb, hbb⟩ : ∃ bb, decide ((f : Int) ≤ (M.length : Int)) = bb := ⟨_, rfl⟩
            rw [hbb]
            clear hbb
            cases bb with
            | true =>
              go_wp2_with fail
              go_ret
              exact ⟨rfl, B5.out.alloc B5.out.size _⟩
            | false =>
              go_wp2_with fail
              go_ret
              exact ⟨rfl, B5.out.alloc B5.out.size _⟩
          · have hlen : (f : Int) < (V.length : Int) := by
              by_cases h : (f : Int) < (V.length : Int)
              · exact h
              · rw [ST.out.2 h] at hx; cases hx
            have HLEN := Lib.hid hlen
            clear hx
            have B6 := Lib.hid (B5.out.alloc B5.out.size (.cells #[.int .i64 x.n, .int .u64 (x.h : Nat), .int .u64 (x.l : Nat), .int .i64 x.v, .int .i64 x.c, .slice C x.log.length k'] 38))
            have M6 := Lib.hid (M5.out.below ((Below.refl _ _).alloc (Nat.le_refl _) (.cells #[.int .i64 x.n, .int .u64 (x.h : Nat), .int .u64 (x.l : Nat), .int .i64 x.v, .int .i64 x.c, .slice C x.log.length k'] 38)))
            have V6 := Lib.hid (V5.out.below ((Below.refl _ _).alloc (Nat.le_refl _) (.cells #[.int .i64 x.n, .int .u64 (x.h : Nat), .int .u64 (x.l : Nat), .int .i64 x.v, .int .i64 x.c, .slice C x.log.length k'] 38)))
            clear ho ST
            go_wp2_with fail
            generalize w5.alloc (.cells #[.int .i64 x.n, .int .u64 (x.h : Nat), .int .u64 (x.l : Nat), .int .i64 x.v, .int .i64 x.c, .slice C x.log.length k'] 38) = w6 at B6 M6 V6 ⊢
            generalize w5.heap.size = r6
            refine (marked_any f A' M.length c' _).mono ?_
            rintro e w' ⟨rfl, rfl⟩
            by_cases hmk : (f : Int) ≤ (M.length : Int)
            case neg =>
              rw [decide_eq_false hmk]
              clear hmk
              go_wp2_with fail
              go_ret
              exact ⟨rfl, B6.out⟩
            rw [decide_eq_true hmk]
            have HMK := Lib.hid hmk
            have hvl : (V.length : Int) ≤ 7 := by have := HVS.out; omega
            have hml := HMB.out
            clear hmk hlen
            go_wp2_with fail
            go_loopw [17] (fun iv wr => ∃ (i : Nat), i ≤ V.length ∧ iv = .int .i64 i ∧ Hid (∃ q, wr = w6.drewN q) ∧ Hid (∀ j x, j < i → V[j]? = some x → x.n ≠ self ∧ ∀ y ∈ M, y.n ≠ x.n)) (fun iv _ => V.length - (intOf iv).toNat)
            case atStart => exact ⟨0, by omega, rfl, ⟨0, rfl⟩, fun j x hj => by omega⟩
            case round =>
              obtain ⟨i, hi, rfl, HD, HN⟩ := hrel
              by_cases hin : i < V.length
              · obtain ⟨y, hy⟩ : ∃ x, V[i]? = some x := ⟨_, List.getElem?_eq_getElem hin⟩
                have V7 : Hid (RdV wr B' V.length V) := by obtain ⟨q, hq⟩ := HD.out; rw [hq]; exact V6.out.drewN q
                obtain ⟨ad, C1, j1, rfl, o1, g0, g1, g2, g3, g4, g5⟩ := V7.out.atV hy
                have hii : (i : Int) < (V.length : Int) := by omega
                have hi2 : (i : Int) + 1 ≤ 20000000000000 := by omega
                have HYY := Lib.hid hy
                have HIN := Lib.hid hin
                clear hy hin hi o1 V7
                by_cases hs : y.n = self
                · rw [hs] at g0
                  go_wp2_with fail
                  go_ret
                  obtain ⟨q, hq⟩ := HD.out
                  exact ⟨rfl, by rw [hq]; exact Below.drewN B6.out q⟩
                · have hb : (y.n == self) = false := beq_eq_false_iff_ne.2 hs
                  have HNS := Lib.hid hs
                  clear hs
                  go_wp2_with fail
                  clear g0 g1 g2 g3 g4 g5 hb
                  go_loopw [18] (fun kv wr2 => ∃ (k : Nat), k ≤ M.length ∧ kv = .int .i64 k ∧ Hid (∃ q, wr2 = w6.drewN q) ∧ Hid (∀ j z, j < k → M[j]? = some z → z.n ≠ y.n)) (fun kv _ => M.length - (intOf kv).toNat)
                  case atStart => exact ⟨0, by omega, rfl, HD.out, fun j x hj => by omega⟩
                  case round =>
                    obtain ⟨k2, hk, rfl, HD2, HN2⟩ := hrel
                    by_cases hkm : k2 < M.length
                    · obtain ⟨z, hz⟩ : ∃ x, M[k2]? = some x := ⟨_, List.getElem?_eq_getElem hkm⟩
                      have V7 : Hid (RdV wr (some ad) V.length V) := by obtain ⟨q, hq⟩ := HD2.out; rw [hq]; exact V6.out.drewN q
                      have M7 : Hid (RdC 3 Mk.cells wr A' M.length M) := by obtain ⟨q, hq⟩ := HD2.out; rw [hq]; exact M6.out.drewN q
                      obtain ⟨ad', C1, j1, e, o1, g0, g1, g2, g3, g4, g5⟩ := V7.out.atV HYY.out
                      cases e
                      obtain ⟨md, rfl, p0, p1, p2⟩ := M7.out.atMk hz
                      have hki : (k2 : Int) < (M.length : Int) := by omega
                      have hk3 : (k2 : Int) + 1 ≤ 20000000000001 := by omega
                      have HZZ := Lib.hid hz
                      have HKM := Lib.hid hkm
                      clear hz hkm hk o1 V7 M7
                      by_cases hs : z.n = y.n
                      · rw [hs] at p0
                        clear hs
                        go_upto_region 31 with fail
                        go_quiet (fail)
                        go_wp2_with fail
                        go_ret
                        obtain ⟨q, hq⟩ := HD2.out
                        exact ⟨rfl, by rw [hq]; exact Below.drewN (Below.drewN B6.out q) _⟩
                      · have hb : (z.n == y.n) = false := beq_eq_false_iff_ne.2 hs
                        have HNS2 := Lib.hid hs
                        clear hs
                        go_upto_region 31 with fail
                        go_quiet (fail)
                        clear g0 g1 g2 g3 g4 g5 p0 p1 p2 hb
                        go_wp2_with fail
                        go_roundw
                        case rel =>
                          obtain ⟨q, hq⟩ := HD2.out
                          exact ⟨k2 + 1, HKM.out, by go_num, ⟨q + nq, by rw [hq, World.drewN_drewN]⟩, fun j u hj hu => by
                            by_cases e : j = k2
                            · subst e; rw [HZZ.out] at hu; cases hu; exact HNS2.out
                            · exact HN2.out j u (by omega) hu⟩
                        case measure => have := HKM.out; simp [intOf]; omega
                    · obtain rfl : k2 = M.length := by omega
                      have hki : ¬ (M.length : Int) < (M.length : Int) := by omega
                      clear hkm hk
                      go_wp2_with fail
                      go_roundw
                      case rel => exact ⟨i + 1, HIN.out, by go_num, HD2.out, fun j u hj hu => by
                        by_cases e : j = i
                        · subst e; rw [HYY.out] at hu; cases hu
                          refine ⟨HNS.out, fun z hz => ?_⟩
                          obtain ⟨t, ht⟩ := List.getElem?_of_mem hz
                          exact HN2.out t z (List.getElem?_eq_some_iff.1 ht).1 ht
                        · exact HN.out j u (by omega) hu⟩
                      case measure => have := HIN.out; simp [intOf]; omega
              · obtain rfl : i = V.length := by omega
                exact (meet (f := (f : Int)) (self := self) (M := M) (V := V) HS.out.1 HS.out.2 HO.out.1 HO2.out.1 HO.out.2.2 (fun x hx => (HO2.out.2.2 x hx).2) HMK.out HLEN.out
                  (fun x hx => by obtain ⟨t, ht⟩ := List.getElem?_of_mem hx; exact (HN.out t x (List.getElem?_eq_some_iff.1 ht).1 ht).1)
                  (fun x hx => by obtain ⟨t, ht⟩ := List.getElem?_of_mem hx; exact (HN.out t x (List.getElem?_eq_some_iff.1 ht).1 ht).2)).elim
end Go.Proofs.Ytjjobgolpedgeaa
