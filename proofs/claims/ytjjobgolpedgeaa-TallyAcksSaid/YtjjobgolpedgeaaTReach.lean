/-
  The walks of Reached, the program's and the document's; Marked, the document's.
-/
import Derived.Test.YtjjobgolpedgeaaTReachP
import Derived.Test.YtjjobgolpedgeaaTMeth
set_option linter.unusedVariables false
set_option linter.unusedSimpArgs false
namespace Go.Proofs.Ytjjobgolpedgeaa
open Go.RowKit

theorem refMarked_any (f : Int) (A : Option Addr) (n c : Nat) (w : World) : Calls Try.prog 35 #[.int .i64 f, .slice A n c] w fun e w' => e = .returned (.bool (decide (f ≤ (n : Int)))) ∧ w = w' := by
  go_enter Try.func35, Try.ntmps35
  go_wp2
  go_ret
  exact ⟨rfl, rfl⟩
theorem cnt_next {p : Int} {L : List Ak} {j : Nat} {x : Ak} (h : L[j]? = some x) : cntGe p (L.take (j + 1)) = cntGe p (L.take j) + if p ≤ x.p then 1 else 0 := by
  rw [take_next h, cntGe_push]
theorem best_next {f own : Int} {L M : List Ak} {b : Int} {k : Nat} {x : Ak} (h : L[k]? = some x) : bestP f M b (mins own (L.take (k + 1))) = tryP f M (bestP f M b (mins own (L.take k))) (min x.p own) := by
  rw [take_next h, mins_push, bestP_push]
theorem if_min (a b : Int) : (if b < a then b else a) = min a b := by omega
theorem if_max (a b : Int) : (if a < b then b else a) = max a b := by omega
set_option maxHeartbeats 1600000 in
set_option maxRecDepth 100000 in
theorem reached_any (f own : Int) (A : Option Addr) (n c : Nat) (L : List Ak) (w : World) (wf : (Lit.int .i64 f).wf = true) (h : RdC 4 Ak.cells w A n L) (hsm : n * 32 ≤ 140737488355328) :
    Calls Try.prog 33 #[.int .i64 f, .int .i64 own, .slice A n c] w fun e w' => e = .returned (.int .i64 (reachF f own L)) ∧ Below w.heap.size w w' := by
  have H := Lib.hid h
  have HSM := Lib.hid hsm
  have HL := Lib.hid h.len
  clear h hsm
  by_cases hf : f < 1
  · have hr : reachF f own L = max 0 own := if_pos hf
    rw [hr]
    clear hr
    go_enter Try.func33, Try.ntmps33
    by_cases ho : 0 < own
    · go_wp2
      go_ret
      exact ⟨ret_int (by omega), Below.refl _ _⟩
    · go_wp2
      go_ret
      exact ⟨ret_int (by omega), Below.refl _ _⟩
  · have hr := Lib.hid (show reachF f own L = bestP f L 0 (mins own L) from if_neg hf)
    go_enter Try.func33, Try.ntmps33
    go_wp2_with fail
    go_loopw [7, 20] (fun bv iv wr => ∃ (k : Nat), k ≤ n ∧ iv = .int .i64 k ∧ bv = .int .i64 (bestP f L 0 (mins own (L.take k))) ∧ Hid (Below w.heap.size w wr)) (fun _ iv _ => n - (intOf iv).toNat)
    case atStart => exact ⟨0, by omega, rfl, rfl, Below.refl _ _⟩
    case round =>
      obtain ⟨k, hk, rfl, rfl, HR⟩ := hrel
      by_cases hkn : k < n
      · obtain ⟨x, hx⟩ : ∃ x, L[k]? = some x := ⟨_, List.getElem?_eq_getElem (by have := HL.out; omega)⟩
        obtain ⟨ad, rfl, g0, g1, g2, g3⟩ := (H.out.below HR.out).atAk hx
        have hki : (k : Int) < (n : Int) := by omega
        have hk2 : (k : Int) + 1 ≤ 6000000000000 := by have := HSM.out; omega
        have HXX := Lib.hid hx
        have HKN := Lib.hid hkn
        have HBN := Lib.hid (best_next (f := f) (own := own) (M := L) (b := 0) hx)
        clear hx hkn hk
        by_cases hlo : own < x.p
        · go_wp2_with fail
          have HQ : Hid (min x.p own = own) := by simp only [Hid]; omega
          have BX : Hid (Below w.heap.size w (wr.alloc (.cells #[.int .i64 x.n, .int .u64 (x.h : Nat), .int .u64 (x.l : Nat), .int .i64 x.p] 29))) := HR.out.alloc HR.out.size _
          generalize wr.alloc (.cells #[.int .i64 x.n, .int .u64 (x.h : Nat), .int .u64 (x.l : Nat), .int .i64 x.p] 29) = w1 at BX ⊢
          clear g0 g1 g2 g3 hlo HR
          go_loopw [11, 30] (fun nv iv wr2 => ∃ (j : Nat), j ≤ n ∧ iv = .int .i64 j ∧ nv = .int .i64 (cntGe own (L.take j) : Nat) ∧ Hid (Below w.heap.size w wr2)) (fun _ iv _ => n - (intOf iv).toNat)
          case atStart => exact ⟨0, by omega, rfl, rfl, BX.out⟩
          case round =>
            obtain ⟨j, hj, rfl, rfl, HR⟩ := hrel
            clear BX
            by_cases hjn : j < n
            · obtain ⟨y, hy⟩ : ∃ y, L[j]? = some y := ⟨_, List.getElem?_eq_getElem (by have := HL.out; omega)⟩
              obtain ⟨ad', e, g0, g1, g2, g3⟩ := (H.out.below HR.out).atAk hy
              cases e
              have hji : (j : Int) < (n : Int) := by omega
              have hj2 : (j : Int) + 1 ≤ 6000000000000 := by have := HSM.out; omega
              have hcb : (cntGe own (L.take j) : Int) ≤ 6000000000000 := by have := cntGe_le own (L.take j); rw [List.length_take] at this; omega
              have HJN := Lib.hid hjn
              have HC := Lib.hid (cnt_next (p := own) hy)
              clear hy hjn hj
              by_cases hge : own ≤ y.p
              · have HC2 : Hid (cntGe own (L.take (j + 1)) = cntGe own (L.take j) + 1) := by have := HC.out; rwa [if_pos hge] at this
                clear HC
                go_wp2_with fail
                go_roundw
                case rel => exact ⟨j + 1, HJN.out, by go_num, by rw [HC2.out]; go_num, HR.out.alloc HR.out.size _⟩
                case measure => have := HJN.out; simp [intOf]; omega
              · have HC2 : Hid (cntGe own (L.take (j + 1)) = cntGe own (L.take j)) := by have := HC.out; rwa [if_neg hge] at this
                clear HC
                go_wp2_with fail
                go_roundw
                case rel => exact ⟨j + 1, HJN.out, by go_num, by rw [HC2.out], HR.out.alloc HR.out.size _⟩
                case measure => have := HJN.out; simp [intOf]; omega
            · obtain rfl : j = n := by omega
              have hji : ¬ (j : Int) < (j : Int) := by omega
              rw [List.take_of_length_le (i := j) (Nat.le_of_eq HL.out)]
              have hcb : (cntGe own L : Int) ≤ 6000000000000 := by have := cntGe_le own L; have := HL.out; have := HSM.out; omega
              have HT := HBN
              rw [HQ.out] at HT
              obtain ⟨bb, hbb⟩ : ∃ bb, bestP f L 0 (mins own (L.take k)) = bb := ⟨_, rfl⟩
              rw [hbb] at HT ⊢
              by_cases hfc : f ≤ (cntGe own L : Int)
              · by_cases hbq : bb < own
                · have HT2 : Hid (bestP f L 0 (mins own (L.take (k + 1))) = own) := by rw [HT.out]; simp only [Hid, tryP]; rw [if_pos hfc]; omega
                  clear HT HBN hbb hjn hj
                  go_wp2_with fail
                  go_roundw
                  case rel => exact ⟨k + 1, HKN.out, by go_num, by rw [HT2.out], HR.out⟩
                  case measure => have := HKN.out; simp [intOf]; omega
                · have HT2 : Hid (bestP f L 0 (mins own (L.take (k + 1))) = bb) := by rw [HT.out]; simp only [Hid, tryP]; rw [if_pos hfc]; omega
                  clear HT HBN hbb hjn hj
                  go_wp2_with fail
                  go_roundw
                  case rel => exact ⟨k + 1, HKN.out, by go_num, by rw [HT2.out], HR.out⟩
                  case measure => have := HKN.out; simp [intOf]; omega
              · have HT2 : Hid (bestP f L 0 (mins own (L.take (k + 1))) = bb) := by rw [HT.out]; simp only [Hid, tryP]; rw [if_neg hfc]
                clear HT HBN hbb hjn hj
                go_wp2_with fail
                go_roundw
                case rel => exact ⟨k + 1, HKN.out, by go_num, by rw [HT2.out], HR.out⟩
                case measure => have := HKN.out; simp [intOf]; omega
        · go_wp2_with fail
          have HQ : Hid (min x.p own = x.p) := by simp only [Hid]; omega
          have BX : Hid (Below w.heap.size w (wr.alloc (.cells #[.int .i64 x.n, .int .u64 (x.h : Nat), .int .u64 (x.l : Nat), .int .i64 x.p] 29))) := HR.out.alloc HR.out.size _
          generalize wr.alloc (.cells #[.int .i64 x.n, .int .u64 (x.h : Nat), .int .u64 (x.l : Nat), .int .i64 x.p] 29) = w1 at BX ⊢
          clear g0 g1 g2 g3 hlo HR
          go_loopw [11, 30] (fun nv iv wr2 => ∃ (j : Nat), j ≤ n ∧ iv = .int .i64 j ∧ nv = .int .i64 (cntGe x.p (L.take j) : Nat) ∧ Hid (Below w.heap.size w wr2)) (fun _ iv _ => n - (intOf iv).toNat)
          case atStart => exact ⟨0, by omega, rfl, rfl, BX.out⟩
          case round =>
            obtain ⟨j, hj, rfl, rfl, HR⟩ := hrel
            clear BX
            by_cases hjn : j < n
            · obtain ⟨y, hy⟩ : ∃ y, L[j]? = some y := ⟨_, List.getElem?_eq_getElem (by have := HL.out; omega)⟩
              obtain ⟨ad', e, g0, g1, g2, g3⟩ := (H.out.below HR.out).atAk hy
              cases e
              have hji : (j : Int) < (n : Int) := by omega
              have hj2 : (j : Int) + 1 ≤ 6000000000000 := by have := HSM.out; omega
              have hcb : (cntGe x.p (L.take j) : Int) ≤ 6000000000000 := by have := cntGe_le x.p (L.take j); rw [List.length_take] at this; omega
              have HJN := Lib.hid hjn
              have HC := Lib.hid (cnt_next (p := x.p) hy)
              clear hy hjn hj
              by_cases hge : x.p ≤ y.p
              · have HC2 : Hid (cntGe x.p (L.take (j + 1)) = cntGe x.p (L.take j) + 1) := by have := HC.out; rwa [if_pos hge] at this
                clear HC
                go_wp2_with fail
                go_roundw
                case rel => exact ⟨j + 1, HJN.out, by go_num, by rw [HC2.out]; go_num, HR.out.alloc HR.out.size _⟩
                case measure => have := HJN.out; simp [intOf]; omega
              · have HC2 : Hid (cntGe x.p (L.take (j + 1)) = cntGe x.p (L.take j)) := by have := HC.out; rwa [if_neg hge] at this
                clear HC
                go_wp2_with fail
                go_roundw
                case rel => exact ⟨j + 1, HJN.out, by go_num, by rw [HC2.out], HR.out.alloc HR.out.size _⟩
                case measure => have := HJN.out; simp [intOf]; omega
            · obtain rfl : j = n := by omega
              have hji : ¬ (j : Int) < (j : Int) := by omega
              rw [List.take_of_length_le (i := j) (Nat.le_of_eq HL.out)]
              have hcb : (cntGe x.p L : Int) ≤ 6000000000000 := by have := cntGe_le x.p L; have := HL.out; have := HSM.out; omega
              have HT := HBN
              rw [HQ.out] at HT
              obtain ⟨bb, hbb⟩ : ∃ bb, bestP f L 0 (mins own (L.take k)) = bb := ⟨_, rfl⟩
              rw [hbb] at HT ⊢
              by_cases hfc : f ≤ (cntGe x.p L : Int)
              · by_cases hbq : bb < x.p
                · have HT2 : Hid (bestP f L 0 (mins own (L.take (k + 1))) = x.p) := by rw [HT.out]; simp only [Hid, tryP]; rw [if_pos hfc]; omega
                  clear HT HBN hbb hjn hj
                  go_wp2_with fail
                  go_roundw
                  case rel => exact ⟨k + 1, HKN.out, by go_num, by rw [HT2.out], HR.out⟩
                  case measure => have := HKN.out; simp [intOf]; omega
                · have HT2 : Hid (bestP f L 0 (mins own (L.take (k + 1))) = bb) := by rw [HT.out]; simp only [Hid, tryP]; rw [if_pos hfc]; omega
                  clear HT HBN hbb hjn hj
                  go_wp2_with fail
                  go_roundw
                  case rel => exact ⟨k + 1, HKN.out, by go_num, by rw [HT2.out], HR.out⟩
                  case measure => have := HKN.out; simp [intOf]; omega
              · have HT2 : Hid (bestP f L 0 (mins own (L.take (k + 1))) = bb) := by rw [HT.out]; simp only [Hid, tryP]; rw [if_neg hfc]
                clear HT HBN hbb hjn hj
                go_wp2_with fail
                go_roundw
                case rel => exact ⟨k + 1, HKN.out, by go_num, by rw [HT2.out], HR.out⟩
                case measure => have := HKN.out; simp [intOf]; omega
      · obtain rfl : k = n := by omega
        have hki : ¬ (k : Int) < (k : Int) := by omega
        rw [List.take_of_length_le (Nat.le_of_eq HL.out)]
        go_wp2_with fail
        go_ret
        exact ⟨ret_int hr.out.symm, HR.out⟩
/-- the document's best behind k rounds -/
def refB (f own : Int) (L : List Ak) : Nat → Int
  | 0 => 0
  | k + 1 => bestP f L (tryP f L 0 own) (mins own (L.take k))
set_option maxHeartbeats 1600000 in
set_option maxRecDepth 100000 in
theorem refReached_any (f own : Int) (A : Option Addr) (n c : Nat) (L : List Ak) (w : World) (h : RdC 4 Ak.cells w A n L) (hsm : n * 32 ≤ 140737488355328) :
    Calls Try.prog 34 #[.int .i64 f, .int .i64 own, .slice A n c] w fun e w' => e = .returned (.int .i64 (refReach f own L)) ∧ w = w' := by
  have H := Lib.hid h
  have HSM := Lib.hid hsm
  have HL := Lib.hid h.len
  have hnb : (n : Int) ≤ 6000000000000 := by omega
  clear h hsm
  go_enter Try.func34, Try.ntmps34
  go_wp2_with fail
  go_loopw [7, 8] (fun bv iv wr => ∃ (k : Nat), k ≤ n + 1 ∧ iv = .int .i64 ((k : Int) - 1) ∧ bv = .int .i64 (refB f own L k) ∧ w = wr) (fun _ iv _ => n + 1 - (intOf iv + 1).toNat)
  case atStart => exact ⟨0, by omega, rfl, rfl, rfl⟩
  case round =>
    obtain ⟨k, hk, rfl, rfl, hww⟩ := hrel
    subst hww
    cases k with
    | zero =>
      obtain ⟨b0, hb0⟩ : ∃ b0, refB f own L 0 = b0 := ⟨_, rfl⟩
      have HT : Hid (refB f own L 1 = tryP f L b0 own) := by rw [← hb0]; simp [Hid, refB, bestP, mins]
      have hk1 : ((0 : Nat) : Int) - 1 = -1 := rfl
      have hn1 : (-1 : Int) < (n : Int) := by omega
      rw [hk1, hb0]
      clear hk1 hb0
      go_wp2_with fail
      go_loopw [10, 11] (fun nv iv wr2 => ∃ (j : Nat), j ≤ n ∧ iv = .int .i64 j ∧ nv = .int .i64 (cntGe own (L.take j) : Nat) ∧ w = wr2) (fun _ iv _ => n - (intOf iv).toNat)
      case atStart => exact ⟨0, by omega, rfl, rfl, rfl⟩
      case round =>
        obtain ⟨j, hj, rfl, rfl, hww⟩ := hrel
        subst hww
        by_cases hjn : j < n
        · obtain ⟨y, hy⟩ : ∃ y, L[j]? = some y := ⟨_, List.getElem?_eq_getElem (by have := HL.out; omega)⟩
          obtain ⟨ad', e, g0, g1, g2, g3⟩ := H.out.atAk hy
          cases e
          have hji : (j : Int) < (n : Int) := by omega
          have hj2 : (j : Int) + 1 ≤ 6000000000000 := by have := HSM.out; omega
          have hcb : (cntGe own (L.take j) : Int) ≤ 6000000000000 := by have := cntGe_le own (L.take j); rw [List.length_take] at this; omega
          have HJN := Lib.hid hjn
          have HC := Lib.hid (cnt_next (p := own) hy)
          clear hy hjn hj
          by_cases hge : own ≤ y.p
          · have HC2 : Hid (cntGe own (L.take (j + 1)) = cntGe own (L.take j) + 1) := by have := HC.out; rwa [if_pos hge] at this
            clear HC
            go_wp2_with fail
            go_roundw
            case rel => exact ⟨j + 1, HJN.out, by go_num, by simp [HC2.out]⟩
            case measure => have := HJN.out; simp [intOf]; omega
          · have HC2 : Hid (cntGe own (L.take (j + 1)) = cntGe own (L.take j)) := by have := HC.out; rwa [if_neg hge] at this
            clear HC
            go_wp2_with fail
            go_roundw
            case rel => exact ⟨j + 1, HJN.out, by go_num, by simp [HC2.out]⟩
            case measure => have := HJN.out; simp [intOf]; omega
        · obtain rfl : j = n := by omega
          have hji : ¬ (j : Int) < (j : Int) := by omega
          rw [List.take_of_length_le (i := j) (Nat.le_of_eq HL.out)]
          have hcb : (cntGe own L : Int) ≤ 6000000000000 := by have := cntGe_le own L; have := HL.out; have := HSM.out; omega
          obtain ⟨bb, hbb⟩ : ∃ bb, b0 = bb := ⟨_, rfl⟩
          rw [hbb] at HT ⊢
          by_cases hfc : f ≤ (cntGe own L : Int)
          · by_cases hbq : bb < own
            · have HT2 : Hid (refB f own L 1 = own) := by rw [HT.out]; simp only [Hid, tryP]; rw [if_pos hfc]; omega
              clear HT hbb hjn hj
              go_wp2_with fail
              go_roundw
              case rel => exact ⟨0 + 1, by omega, by go_num, by simp [HT2.out]⟩
              case measure => first | (simp [intOf]; done) | (simp [intOf]; omega)
            · have HT2 : Hid (refB f own L 1 = bb) := by rw [HT.out]; simp only [Hid, tryP]; rw [if_pos hfc]; omega
              clear HT hbb hjn hj
              go_wp2_with fail
              go_roundw
              case rel => exact ⟨0 + 1, by omega, by go_num, by simp [HT2.out]⟩
              case measure => first | (simp [intOf]; done) | (simp [intOf]; omega)
          · have HT2 : Hid (refB f own L 1 = bb) := by rw [HT.out]; simp only [Hid, tryP]; rw [if_neg hfc]
            clear HT hbb hjn hj
            go_wp2_with fail
            go_roundw
            case rel => exact ⟨0 + 1, by omega, by go_num, by simp [HT2.out]⟩
            case measure => first | (simp [intOf]; done) | (simp [intOf]; omega)
    | succ m =>
      have hkm : ((m + 1 : Nat) : Int) - 1 = (m : Int) := by omega
      rw [hkm]
      clear hkm
      by_cases hmn : m < n
      · obtain ⟨x, hx⟩ : ∃ x, L[m]? = some x := ⟨_, List.getElem?_eq_getElem (by have := HL.out; omega)⟩
        obtain ⟨ad, rfl, g0, g1, g2, g3⟩ := H.out.atAk hx
        have hmi : (m : Int) < (n : Int) := by omega
        have HT0 : Hid (refB f own L (m + 1 + 1) = tryP f L (refB f own L (m + 1)) (min x.p own)) := best_next hx
        by_cases hlo : x.p < own
        · have HT : Hid (refB f own L (m + 1 + 1) = tryP f L (refB f own L (m + 1)) x.p) := by rw [HT0.out, show min x.p own = x.p by omega]; exact rfl
          clear HT0 hx
          go_wp2_with fail
          go_loopw [10, 11] (fun nv iv wr2 => ∃ (j : Nat), j ≤ n ∧ iv = .int .i64 j ∧ nv = .int .i64 (cntGe x.p (L.take j) : Nat) ∧ w = wr2) (fun _ iv _ => n - (intOf iv).toNat)
          case atStart => exact ⟨0, by omega, rfl, rfl, rfl⟩
          case round =>
            obtain ⟨j, hj, rfl, rfl, hww⟩ := hrel
            subst hww
            by_cases hjn : j < n
            · obtain ⟨y, hy⟩ : ∃ y, L[j]? = some y := ⟨_, List.getElem?_eq_getElem (by have := HL.out; omega)⟩
              obtain ⟨ad', e, g0, g1, g2, g3⟩ := H.out.atAk hy
              cases e
              have hji : (j : Int) < (n : Int) := by omega
              have hj2 : (j : Int) + 1 ≤ 6000000000000 := by have := HSM.out; omega
              have hcb : (cntGe x.p (L.take j) : Int) ≤ 6000000000000 := by have := cntGe_le x.p (L.take j); rw [List.length_take] at this; omega
              have HJN := Lib.hid hjn
              have HC := Lib.hid (cnt_next (p := x.p) hy)
              clear hy hjn hj
              by_cases hge : x.p ≤ y.p
              · have HC2 : Hid (cntGe x.p (L.take (j + 1)) = cntGe x.p (L.take j) + 1) := by have := HC.out; rwa [if_pos hge] at this
                clear HC
                go_wp2_with fail
                go_roundw
                case rel => exact ⟨j + 1, HJN.out, by go_num, by simp [HC2.out]⟩
                case measure => have := HJN.out; simp [intOf]; omega
              · have HC2 : Hid (cntGe x.p (L.take (j + 1)) = cntGe x.p (L.take j)) := by have := HC.out; rwa [if_neg hge] at this
                clear HC
                go_wp2_with fail
                go_roundw
                case rel => exact ⟨j + 1, HJN.out, by go_num, by simp [HC2.out]⟩
                case measure => have := HJN.out; simp [intOf]; omega
            · obtain rfl : j = n := by omega
              have hji : ¬ (j : Int) < (j : Int) := by omega
              rw [List.take_of_length_le (i := j) (Nat.le_of_eq HL.out)]
              have hcb : (cntGe x.p L : Int) ≤ 6000000000000 := by have := cntGe_le x.p L; have := HL.out; have := HSM.out; omega
              obtain ⟨bb, hbb⟩ : ∃ bb, refB f own L (m + 1) = bb := ⟨_, rfl⟩
              rw [hbb] at HT ⊢
              by_cases hfc : f ≤ (cntGe x.p L : Int)
              · by_cases hbq : bb < x.p
                · have HT2 : Hid (refB f own L (m + 1 + 1) = x.p) := by rw [HT.out]; simp only [Hid, tryP]; rw [if_pos hfc]; omega
                  clear HT hbb hjn hj
                  go_wp2_with fail
                  go_roundw
                  case rel => exact ⟨(m + 1) + 1, by omega, by go_num, by simp [HT2.out]⟩
                  case measure => first | (simp [intOf]; done) | (simp [intOf]; omega)
                · have HT2 : Hid (refB f own L (m + 1 + 1) = bb) := by rw [HT.out]; simp only [Hid, tryP]; rw [if_pos hfc]; omega
                  clear HT hbb hjn hj
                  go_wp2_with fail
                  go_roundw
                  case rel => exact ⟨(m + 1) + 1, by omega, by go_num, by simp [HT2.out]⟩
                  case measure => first | (simp [intOf]; done) | (simp [intOf]; omega)
              · have HT2 : Hid (refB f own L (m + 1 + 1) = bb) := by rw [HT.out]; simp only [Hid, tryP]; rw [if_neg hfc]
                clear HT hbb hjn hj
                go_wp2_with fail
                go_roundw
                case rel => exact ⟨(m + 1) + 1, by omega, by go_num, by simp [HT2.out]⟩
                case measure => first | (simp [intOf]; done) | (simp [intOf]; omega)
        · have HT : Hid (refB f own L (m + 1 + 1) = tryP f L (refB f own L (m + 1)) own) := by rw [HT0.out, show min x.p own = own by omega]; exact rfl
          clear HT0 hx
          go_wp2_with fail
          go_loopw [10, 11] (fun nv iv wr2 => ∃ (j : Nat), j ≤ n ∧ iv = .int .i64 j ∧ nv = .int .i64 (cntGe own (L.take j) : Nat) ∧ w = wr2) (fun _ iv _ => n - (intOf iv).toNat)
          case atStart => exact ⟨0, by omega, rfl, rfl, rfl⟩
          case round =>
            obtain ⟨j, hj, rfl, rfl, hww⟩ := hrel
            subst hww
            by_cases hjn : j < n
            · obtain ⟨y, hy⟩ : ∃ y, L[j]? = some y := ⟨_, List.getElem?_eq_getElem (by have := HL.out; omega)⟩
              obtain ⟨ad', e, g0, g1, g2, g3⟩ := H.out.atAk hy
              cases e
              have hji : (j : Int) < (n : Int) := by omega
              have hj2 : (j : Int) + 1 ≤ 6000000000000 := by have := HSM.out; omega
              have hcb : (cntGe own (L.take j) : Int) ≤ 6000000000000 := by have := cntGe_le own (L.take j); rw [List.length_take] at this; omega
              have HJN := Lib.hid hjn
              have HC := Lib.hid (cnt_next (p := own) hy)
              clear hy hjn hj
              by_cases hge : own ≤ y.p
              · have HC2 : Hid (cntGe own (L.take (j + 1)) = cntGe own (L.take j) + 1) := by have := HC.out; rwa [if_pos hge] at this
                clear HC
                go_wp2_with fail
                go_roundw
                case rel => exact ⟨j + 1, HJN.out, by go_num, by simp [HC2.out]⟩
                case measure => have := HJN.out; simp [intOf]; omega
              · have HC2 : Hid (cntGe own (L.take (j + 1)) = cntGe own (L.take j)) := by have := HC.out; rwa [if_neg hge] at this
                clear HC
                go_wp2_with fail
                go_roundw
                case rel => exact ⟨j + 1, HJN.out, by go_num, by simp [HC2.out]⟩
                case measure => have := HJN.out; simp [intOf]; omega
            · obtain rfl : j = n := by omega
              have hji : ¬ (j : Int) < (j : Int) := by omega
              rw [List.take_of_length_le (i := j) (Nat.le_of_eq HL.out)]
              have hcb : (cntGe own L : Int) ≤ 6000000000000 := by have := cntGe_le own L; have := HL.out; have := HSM.out; omega
              obtain ⟨bb, hbb⟩ : ∃ bb, refB f own L (m + 1) = bb := ⟨_, rfl⟩
              rw [hbb] at HT ⊢
              by_cases hfc : f ≤ (cntGe own L : Int)
              · by_cases hbq : bb < own
                · have HT2 : Hid (refB f own L (m + 1 + 1) = own) := by rw [HT.out]; simp only [Hid, tryP]; rw [if_pos hfc]; omega
                  clear HT hbb hjn hj
                  go_wp2_with fail
                  go_roundw
                  case rel => exact ⟨(m + 1) + 1, by omega, by go_num, by simp [HT2.out]⟩
                  case measure => first | (simp [intOf]; done) | (simp [intOf]; omega)
                · have HT2 : Hid (refB f own L (m + 1 + 1) = bb) := by rw [HT.out]; simp only [Hid, tryP]; rw [if_pos hfc]; omega
                  clear HT hbb hjn hj
                  go_wp2_with fail
                  go_roundw
                  case rel => exact ⟨(m + 1) + 1, by omega, by go_num, by simp [HT2.out]⟩
                  case measure => first | (simp [intOf]; done) | (simp [intOf]; omega)
              · have HT2 : Hid (refB f own L (m + 1 + 1) = bb) := by rw [HT.out]; simp only [Hid, tryP]; rw [if_neg hfc]
                clear HT hbb hjn hj
                go_wp2_with fail
                go_roundw
                case rel => exact ⟨(m + 1) + 1, by omega, by go_num, by simp [HT2.out]⟩
                case measure => first | (simp [intOf]; done) | (simp [intOf]; omega)
      · obtain rfl : m = n := by omega
        have hmi : ¬ (m : Int) < (m : Int) := by omega
        have HF : Hid (refB f own L (m + 1) = refReach f own L) := by simp only [Hid, refB, refReach]; rw [List.take_of_length_le (Nat.le_of_eq HL.out)]
        rw [HF.out]
        go_wp2_with fail
        go_ret
        exact ⟨rfl, rfl⟩
end Go.Proofs.Ytjjobgolpedgeaa
