/-
  The walks of tally.turned and of the conversions of a vote.
-/
import Derived.Test.YtjjobgolpedgeaaTKinds
set_option linter.unusedVariables false
set_option linter.unusedSimpArgs false
namespace Go.Proofs.Ytjjobgolpedgeaa
open Go.RowKit

theorem toAck_any (x : Ak) (w : World) : Calls Try.prog 74 #[x.agg] w fun e w' => e = .returned x.agg ∧ Below w.heap.size w w' := by
  go_enter Try.func74, Try.ntmps74
  go_wp2
  go_returns
  exact ⟨rfl, by go_grown⟩
set_option maxHeartbeats 800000 in
theorem turn_toAck (A : Option Addr) (n c : Nat) (L : List Ak) (w : World) (h : RdC 4 Ak.cells w A n L) (hsm : n * 32 ≤ 140737488355328) :
    Calls Try.prog 73 #[.slice A n c, .func (.func 74) #[] #[]] w (RetL 116 4 Ak.cells w L) := by
  have H := Lib.hid h
  have hn : (n : Int) ≤ 9223372036854775807 := by have := h.le; omega
  have HSM := Lib.hid hsm
  clear h hsm
  go_enter Try.func73, Try.ntmps73
  go_wp2_with fail
  go_loopw [5, 10] (fun vv iv wr => ∃ (k : Nat) (A' : Option Addr) (c' : Nat), k ≤ n ∧ iv = .int .i64 k ∧ vv = .slice A' k c' ∧ Hid (wr.ownsRow w.heap.size 116 4 (.slice A' k c') k (CL Ak.cells (L.take k)) ∧ Below w.heap.size w wr)) (fun _ iv _ => n - (intOf iv).toNat)
  case atStart => exact ⟨0, none, 0, by omega, rfl, rfl, by simpa [CL] using World.ownsRow_nil _ _ _ _, Below.refl _ _⟩
  case round =>
    obtain ⟨k, A', c', hk, rfl, rfl, HR⟩ := hrel
    by_cases hkn : k < n
    · obtain ⟨x, hx⟩ : ∃ x, L[k]? = some x := ⟨_, List.getElem?_eq_getElem (by have := H.out.len; omega)⟩
      obtain ⟨ad, rfl, g0, g1, g2, g3⟩ := (H.out.below HR.out.2).atAk hx
      have hki : (k : Int) < (n : Int) := by omega
      have HS : Hid ((k + 1) * 32 ≤ 140737488355328) := by have := HSM.out; simp only [Hid]; omega
      have HXX := Lib.hid hx
      have HKN := Lib.hid hkn
      go_wp2_with fail
      refine (toAck_any x _).mono ?_
      rintro e w' ⟨rfl, hb⟩
      have B1 : Hid (Below wr.heap.size wr w') := ((Below.refl _ _).alloc (Nat.le_refl _) _).trans (hb.mono (by simp))
      have O1 : Hid (w'.ownsRow w.heap.size 116 4 (.slice A' k c') k (CL Ak.cells (L.take k))) := own_kept HR.out.1 B1.out
      have B2 : Hid (Below w.heap.size w w') := HR.out.2.trans (B1.out.mono HR.out.2.size)
      clear hb g0 g1 g2 g3 HR B1 hx hkn
      go_wp2_with (at_builtin; refine wpList_app rfl (.tmp 14) (.tmp 18) rfl eltAck w.heap.size (.slice A' k c') k (CL Ak.cells (L.take k)) rfl (O1.out.alloc _) (some ⟨w'.heap.size, 0, none⟩) 1 1 x.cells rfl rfl (fun h => by cases h) (fresh_news w' x.cells.toArray 116) (Ak.one x) ?d3 ?d4 ?d5 ?_)
      case d3 => have := HS.out; simp only [maxLen]; omega
      case d4 => exact HS.out
      case d5 => have := B2.out.size; simp; omega
      intro A2 c2 w2 ho2 hg2 _
      have B3 : Hid (Below w.heap.size w w2) := below_own B2.out B2.out.size O1.out ((World.grownBy_alloc w' _ _).trans hg2)
      have O2 : Hid (w2.ownsRow w.heap.size 116 4 (.slice A2 (k + 1) c2) (k + 1) (CL Ak.cells (L.take (k + 1)))) := by
        rw [take_next HXX.out, CL_push]; exact ho2
      clear ho2 hg2 O1 B2
      go_wp2_with fail
      go_roundw
      case rel => exact ⟨k + 1, A2, c2, HKN.out, by go_num, rfl, O2.out, B3.out⟩
      case measure => simp [intOf]; omega
    · obtain rfl : k = n := by omega
      have hki : ¬ (k : Int) < (k : Int) := by omega
      go_wp2
      go_ret
      have hl := H.out.len
      refine ⟨A', c', by rw [hl]; exact rfl, HR.out.2, ?_⟩
      have := HR.out.1
      rw [List.take_of_length_le (Nat.le_of_eq hl)] at this
      rw [hl]
      exact this
theorem fromAck_any (x : Ak) (w : World) : Calls Try.prog 76 #[x.agg] w fun e w' => e = .returned x.agg ∧ Below w.heap.size w w' := by
  go_enter Try.func76, Try.ntmps76
  go_wp2
  go_returns
  exact ⟨rfl, by go_grown⟩
set_option maxHeartbeats 800000 in
theorem turn_fromAck (A : Option Addr) (n c : Nat) (L : List Ak) (w : World) (h : RdC 4 Ak.cells w A n L) (hsm : n * 32 ≤ 140737488355328) :
    Calls Try.prog 72 #[.slice A n c, .func (.func 76) #[] #[]] w (RetL 29 4 Ak.cells w L) := by
  have H := Lib.hid h
  have hn : (n : Int) ≤ 9223372036854775807 := by have := h.le; omega
  have HSM := Lib.hid hsm
  clear h hsm
  go_enter Try.func72, Try.ntmps72
  go_wp2_with fail
  go_loopw [5, 10] (fun vv iv wr => ∃ (k : Nat) (A' : Option Addr) (c' : Nat), k ≤ n ∧ iv = .int .i64 k ∧ vv = .slice A' k c' ∧ Hid (wr.ownsRow w.heap.size 29 4 (.slice A' k c') k (CL Ak.cells (L.take k)) ∧ Below w.heap.size w wr)) (fun _ iv _ => n - (intOf iv).toNat)
  case atStart => exact ⟨0, none, 0, by omega, rfl, rfl, by simpa [CL] using World.ownsRow_nil _ _ _ _, Below.refl _ _⟩
  case round =>
    obtain ⟨k, A', c', hk, rfl, rfl, HR⟩ := hrel
    by_cases hkn : k < n
    · obtain ⟨x, hx⟩ : ∃ x, L[k]? = some x := ⟨_, List.getElem?_eq_getElem (by have := H.out.len; omega)⟩
      obtain ⟨ad, rfl, g0, g1, g2, g3⟩ := (H.out.below HR.out.2).atAk hx
      have hki : (k : Int) < (n : Int) := by omega
      have HS : Hid ((k + 1) * 32 ≤ 140737488355328) := by have := HSM.out; simp only [Hid]; omega
      have HXX := Lib.hid hx
      have HKN := Lib.hid hkn
      go_wp2_with fail
      refine (fromAck_any x _).mono ?_
      rintro e w' ⟨rfl, hb⟩
      have B1 : Hid (Below wr.heap.size wr w') := ((Below.refl _ _).alloc (Nat.le_refl _) _).trans (hb.mono (by simp))
      have O1 : Hid (w'.ownsRow w.heap.size 29 4 (.slice A' k c') k (CL Ak.cells (L.take k))) := own_kept HR.out.1 B1.out
      have B2 : Hid (Below w.heap.size w w') := HR.out.2.trans (B1.out.mono HR.out.2.size)
      clear hb g0 g1 g2 g3 HR B1 hx hkn
      go_wp2_with (at_builtin; refine wpList_app rfl (.tmp 14) (.tmp 18) rfl eltApiAck w.heap.size (.slice A' k c') k (CL Ak.cells (L.take k)) rfl (O1.out.alloc _) (some ⟨w'.heap.size, 0, none⟩) 1 1 x.cells rfl rfl (fun h => by cases h) (fresh_news w' x.cells.toArray 29) (Ak.one x) ?d3 ?d4 ?d5 ?_)
      case d3 => have := HS.out; simp only [maxLen]; omega
      case d4 => exact HS.out
      case d5 => have := B2.out.size; simp; omega
      intro A2 c2 w2 ho2 hg2 _
      have B3 : Hid (Below w.heap.size w w2) := below_own B2.out B2.out.size O1.out ((World.grownBy_alloc w' _ _).trans hg2)
      have O2 : Hid (w2.ownsRow w.heap.size 29 4 (.slice A2 (k + 1) c2) (k + 1) (CL Ak.cells (L.take (k + 1)))) := by
        rw [take_next HXX.out, CL_push]; exact ho2
      clear ho2 hg2 O1 B2
      go_wp2_with fail
      go_roundw
      case rel => exact ⟨k + 1, A2, c2, HKN.out, by go_num, rfl, O2.out, B3.out⟩
      case measure => simp [intOf]; omega
    · obtain rfl : k = n := by omega
      have hki : ¬ (k : Int) < (k : Int) := by omega
      go_wp2
      go_ret
      have hl := H.out.len
      refine ⟨A', c', by rw [hl]; exact rfl, HR.out.2, ?_⟩
      have := HR.out.1
      rw [List.take_of_length_le (Nat.le_of_eq hl)] at this
      rw [hl]
      exact this
theorem toMark_any (x : Mk) (w : World) : Calls Try.prog 86 #[x.agg] w fun e w' => e = .returned x.agg ∧ Below w.heap.size w w' := by
  go_enter Try.func86, Try.ntmps86
  go_wp2
  go_returns
  exact ⟨rfl, by go_grown⟩
set_option maxHeartbeats 800000 in
theorem turn_toMark (A : Option Addr) (n c : Nat) (L : List Mk) (w : World) (h : RdC 3 Mk.cells w A n L) (hsm : n * 24 ≤ 140737488355328) :
    Calls Try.prog 85 #[.slice A n c, .func (.func 86) #[] #[]] w (RetL 135 3 Mk.cells w L) := by
  have H := Lib.hid h
  have hn : (n : Int) ≤ 9223372036854775807 := by have := h.le; omega
  have HSM := Lib.hid hsm
  clear h hsm
  go_enter Try.func85, Try.ntmps85
  go_wp2_with fail
  go_loopw [5, 10] (fun vv iv wr => ∃ (k : Nat) (A' : Option Addr) (c' : Nat), k ≤ n ∧ iv = .int .i64 k ∧ vv = .slice A' k c' ∧ Hid (wr.ownsRow w.heap.size 135 3 (.slice A' k c') k (CL Mk.cells (L.take k)) ∧ Below w.heap.size w wr)) (fun _ iv _ => n - (intOf iv).toNat)
  case atStart => exact ⟨0, none, 0, by omega, rfl, rfl, by simpa [CL] using World.ownsRow_nil _ _ _ _, Below.refl _ _⟩
  case round =>
    obtain ⟨k, A', c', hk, rfl, rfl, HR⟩ := hrel
    by_cases hkn : k < n
    · obtain ⟨x, hx⟩ : ∃ x, L[k]? = some x := ⟨_, List.getElem?_eq_getElem (by have := H.out.len; omega)⟩
      obtain ⟨ad, rfl, g0, g1, g2⟩ := (H.out.below HR.out.2).atMk hx
      have hki : (k : Int) < (n : Int) := by omega
      have HS : Hid ((k + 1) * 24 ≤ 140737488355328) := by have := HSM.out; simp only [Hid]; omega
      have HXX := Lib.hid hx
      have HKN := Lib.hid hkn
      go_wp2_with fail
      refine (toMark_any x _).mono ?_
      rintro e w' ⟨rfl, hb⟩
      have B1 : Hid (Below wr.heap.size wr w') := ((Below.refl _ _).alloc (Nat.le_refl _) _).trans (hb.mono (by simp))
      have O1 : Hid (w'.ownsRow w.heap.size 135 3 (.slice A' k c') k (CL Mk.cells (L.take k))) := own_kept HR.out.1 B1.out
      have B2 : Hid (Below w.heap.size w w') := HR.out.2.trans (B1.out.mono HR.out.2.size)
      clear hb g0 g1 g2 HR B1 hx hkn
      go_wp2_with (at_builtin; refine wpList_app rfl (.tmp 14) (.tmp 18) rfl eltMark w.heap.size (.slice A' k c') k (CL Mk.cells (L.take k)) rfl (O1.out.alloc _) (some ⟨w'.heap.size, 0, none⟩) 1 1 x.cells rfl rfl (fun h => by cases h) (fresh_news w' x.cells.toArray 135) (Mk.one x) ?d3 ?d4 ?d5 ?_)
      case d3 => have := HS.out; simp only [maxLen]; omega
      case d4 => exact HS.out
      case d5 => have := B2.out.size; simp; omega
      intro A2 c2 w2 ho2 hg2 _
      have B3 : Hid (Below w.heap.size w w2) := below_own B2.out B2.out.size O1.out ((World.grownBy_alloc w' _ _).trans hg2)
      have O2 : Hid (w2.ownsRow w.heap.size 135 3 (.slice A2 (k + 1) c2) (k + 1) (CL Mk.cells (L.take (k + 1)))) := by
        rw [take_next HXX.out, CL_push]; exact ho2
      clear ho2 hg2 O1 B2
      go_wp2_with fail
      go_roundw
      case rel => exact ⟨k + 1, A2, c2, HKN.out, by go_num, rfl, O2.out, B3.out⟩
      case measure => simp [intOf]; omega
    · obtain rfl : k = n := by omega
      have hki : ¬ (k : Int) < (k : Int) := by omega
      go_wp2
      go_ret
      have hl := H.out.len
      refine ⟨A', c', by rw [hl]; exact rfl, HR.out.2, ?_⟩
      have := HR.out.1
      rw [List.take_of_length_le (Nat.le_of_eq hl)] at this
      rw [hl]
      exact this
theorem fromMark_any (x : Mk) (w : World) : Calls Try.prog 88 #[x.agg] w fun e w' => e = .returned x.agg ∧ Below w.heap.size w w' := by
  go_enter Try.func88, Try.ntmps88
  go_wp2
  go_returns
  exact ⟨rfl, by go_grown⟩
set_option maxHeartbeats 800000 in
theorem turn_fromMark (A : Option Addr) (n c : Nat) (L : List Mk) (w : World) (h : RdC 3 Mk.cells w A n L) (hsm : n * 24 ≤ 140737488355328) :
    Calls Try.prog 84 #[.slice A n c, .func (.func 88) #[] #[]] w (RetL 49 3 Mk.cells w L) := by
  have H := Lib.hid h
  have hn : (n : Int) ≤ 9223372036854775807 := by have := h.le; omega
  have HSM := Lib.hid hsm
  clear h hsm
  go_enter Try.func84, Try.ntmps84
  go_wp2_with fail
  go_loopw [5, 10] (fun vv iv wr => ∃ (k : Nat) (A' : Option Addr) (c' : Nat), k ≤ n ∧ iv = .int .i64 k ∧ vv = .slice A' k c' ∧ Hid (wr.ownsRow w.heap.size 49 3 (.slice A' k c') k (CL Mk.cells (L.take k)) ∧ Below w.heap.size w wr)) (fun _ iv _ => n - (intOf iv).toNat)
  case atStart => exact ⟨0, none, 0, by omega, rfl, rfl, by simpa [CL] using World.ownsRow_nil _ _ _ _, Below.refl _ _⟩
  case round =>
    obtain ⟨k, A', c', hk, rfl, rfl, HR⟩ := hrel
    by_cases hkn : k < n
    · obtain ⟨x, hx⟩ : ∃ x, L[k]? = some x := ⟨_, List.getElem?_eq_getElem (by have := H.out.len; omega)⟩
      obtain ⟨ad, rfl, g0, g1, g2⟩ := (H.out.below HR.out.2).atMk hx
      have hki : (k : Int) < (n : Int) := by omega
      have HS : Hid ((k + 1) * 24 ≤ 140737488355328) := by have := HSM.out; simp only [Hid]; omega
      have HXX := Lib.hid hx
      have HKN := Lib.hid hkn
      go_wp2_with fail
      refine (fromMark_any x _).mono ?_
      rintro e w' ⟨rfl, hb⟩
      have B1 : Hid (Below wr.heap.size wr w') := ((Below.refl _ _).alloc (Nat.le_refl _) _).trans (hb.mono (by simp))
      have O1 : Hid (w'.ownsRow w.heap.size 49 3 (.slice A' k c') k (CL Mk.cells (L.take k))) := own_kept HR.out.1 B1.out
      have B2 : Hid (Below w.heap.size w w') := HR.out.2.trans (B1.out.mono HR.out.2.size)
      clear hb g0 g1 g2 HR B1 hx hkn
      go_wp2_with (at_builtin; refine wpList_app rfl (.tmp 14) (.tmp 18) rfl eltApiMark w.heap.size (.slice A' k c') k (CL Mk.cells (L.take k)) rfl (O1.out.alloc _) (some ⟨w'.heap.size, 0, none⟩) 1 1 x.cells rfl rfl (fun h => by cases h) (fresh_news w' x.cells.toArray 49) (Mk.one x) ?d3 ?d4 ?d5 ?_)
      case d3 => have := HS.out; simp only [maxLen]; omega
      case d4 => exact HS.out
      case d5 => have := B2.out.size; simp; omega
      intro A2 c2 w2 ho2 hg2 _
      have B3 : Hid (Below w.heap.size w w2) := below_own B2.out B2.out.size O1.out ((World.grownBy_alloc w' _ _).trans hg2)
      have O2 : Hid (w2.ownsRow w.heap.size 49 3 (.slice A2 (k + 1) c2) (k + 1) (CL Mk.cells (L.take (k + 1)))) := by
        rw [take_next HXX.out, CL_push]; exact ho2
      clear ho2 hg2 O1 B2
      go_wp2_with fail
      go_roundw
      case rel => exact ⟨k + 1, A2, c2, HKN.out, by go_num, rfl, O2.out, B3.out⟩
      case measure => simp [intOf]; omega
    · obtain rfl : k = n := by omega
      have hki : ¬ (k : Int) < (k : Int) := by omega
      go_wp2
      go_ret
      have hl := H.out.len
      refine ⟨A', c', by rw [hl]; exact rfl, HR.out.2, ?_⟩
      have := HR.out.1
      rw [List.take_of_length_le (Nat.le_of_eq hl)] at this
      rw [hl]
      exact this
theorem toBallot_any (x : Bt) (w : World) : Calls Try.prog 91 #[x.agg] w fun e w' => e = .returned x.agg ∧ Below w.heap.size w w' := by
  go_enter Try.func91, Try.ntmps91
  go_wp2
  go_returns
  exact ⟨rfl, by go_grown⟩
set_option maxHeartbeats 800000 in
theorem turn_toBallot (A : Option Addr) (n c : Nat) (L : List Bt) (w : World) (h : RdC 6 Bt.cells w A n L) (hsm : n * 64 ≤ 140737488355328) :
    Calls Try.prog 90 #[.slice A n c, .func (.func 91) #[] #[]] w (RetL 144 6 Bt.cells w L) := by
  have H := Lib.hid h
  have hn : (n : Int) ≤ 9223372036854775807 := by have := h.le; omega
  have HSM := Lib.hid hsm
  clear h hsm
  go_enter Try.func90, Try.ntmps90
  go_wp2_with fail
  go_loopw [5, 10] (fun vv iv wr => ∃ (k : Nat) (A' : Option Addr) (c' : Nat), k ≤ n ∧ iv = .int .i64 k ∧ vv = .slice A' k c' ∧ Hid (wr.ownsRow w.heap.size 144 6 (.slice A' k c') k (CL Bt.cells (L.take k)) ∧ Below w.heap.size w wr)) (fun _ iv _ => n - (intOf iv).toNat)
  case atStart => exact ⟨0, none, 0, by omega, rfl, rfl, by simpa [CL] using World.ownsRow_nil _ _ _ _, Below.refl _ _⟩
  case round =>
    obtain ⟨k, A', c', hk, rfl, rfl, HR⟩ := hrel
    by_cases hkn : k < n
    · obtain ⟨x, hx⟩ : ∃ x, L[k]? = some x := ⟨_, List.getElem?_eq_getElem (by have := H.out.len; omega)⟩
      obtain ⟨ad, rfl, g0, g1, g2, g3, g4, g5⟩ := (H.out.below HR.out.2).atBt hx
      have hki : (k : Int) < (n : Int) := by omega
      have HS : Hid ((k + 1) * 64 ≤ 140737488355328) := by have := HSM.out; simp only [Hid]; omega
      have HXX := Lib.hid hx
      have HKN := Lib.hid hkn
      go_wp2_with fail
      refine (toBallot_any x _).mono ?_
      rintro e w' ⟨rfl, hb⟩
      have B1 : Hid (Below wr.heap.size wr w') := ((Below.refl _ _).alloc (Nat.le_refl _) _).trans (hb.mono (by simp))
      have O1 : Hid (w'.ownsRow w.heap.size 144 6 (.slice A' k c') k (CL Bt.cells (L.take k))) := own_kept HR.out.1 B1.out
      have B2 : Hid (Below w.heap.size w w') := HR.out.2.trans (B1.out.mono HR.out.2.size)
      clear hb g0 g1 g2 g3 g4 g5 HR B1 hx hkn
      go_wp2_with (at_builtin; refine wpList_app rfl (.tmp 14) (.tmp 18) rfl eltBallot w.heap.size (.slice A' k c') k (CL Bt.cells (L.take k)) rfl (O1.out.alloc _) (some ⟨w'.heap.size, 0, none⟩) 1 1 x.cells rfl rfl (fun h => by cases h) (fresh_news w' x.cells.toArray 144) (Bt.one x) ?d3 ?d4 ?d5 ?_)
      case d3 => have := HS.out; simp only [maxLen]; omega
      case d4 => exact HS.out
      case d5 => have := B2.out.size; simp; omega
      intro A2 c2 w2 ho2 hg2 _
      have B3 : Hid (Below w.heap.size w w2) := below_own B2.out B2.out.size O1.out ((World.grownBy_alloc w' _ _).trans hg2)
      have O2 : Hid (w2.ownsRow w.heap.size 144 6 (.slice A2 (k + 1) c2) (k + 1) (CL Bt.cells (L.take (k + 1)))) := by
        rw [take_next HXX.out, CL_push]; exact ho2
      clear ho2 hg2 O1 B2
      go_wp2_with fail
      go_roundw
      case rel => exact ⟨k + 1, A2, c2, HKN.out, by go_num, rfl, O2.out, B3.out⟩
      case measure => simp [intOf]; omega
    · obtain rfl : k = n := by omega
      have hki : ¬ (k : Int) < (k : Int) := by omega
      go_wp2
      go_ret
      have hl := H.out.len
      refine ⟨A', c', by rw [hl]; exact rfl, HR.out.2, ?_⟩
      have := HR.out.1
      rw [List.take_of_length_le (Nat.le_of_eq hl)] at this
      rw [hl]
      exact this
theorem fromBallot_any (x : Bt) (w : World) : Calls Try.prog 93 #[x.agg] w fun e w' => e = .returned x.agg ∧ Below w.heap.size w w' := by
  go_enter Try.func93, Try.ntmps93
  go_wp2
  go_returns
  exact ⟨rfl, by go_grown⟩
set_option maxHeartbeats 800000 in
theorem turn_fromBallot (A : Option Addr) (n c : Nat) (L : List Bt) (w : World) (h : RdC 6 Bt.cells w A n L) (hsm : n * 64 ≤ 140737488355328) :
    Calls Try.prog 89 #[.slice A n c, .func (.func 93) #[] #[]] w (RetL 53 6 Bt.cells w L) := by
  have H := Lib.hid h
  have hn : (n : Int) ≤ 9223372036854775807 := by have := h.le; omega
  have HSM := Lib.hid hsm
  clear h hsm
  go_enter Try.func89, Try.ntmps89
  go_wp2_with fail
  go_loopw [5, 10] (fun vv iv wr => ∃ (k : Nat) (A' : Option Addr) (c' : Nat), k ≤ n ∧ iv = .int .i64 k ∧ vv = .slice A' k c' ∧ Hid (wr.ownsRow w.heap.size 53 6 (.slice A' k c') k (CL Bt.cells (L.take k)) ∧ Below w.heap.size w wr)) (fun _ iv _ => n - (intOf iv).toNat)
  case atStart => exact ⟨0, none, 0, by omega, rfl, rfl, by simpa [CL] using World.ownsRow_nil _ _ _ _, Below.refl _ _⟩
  case round =>
    obtain ⟨k, A', c', hk, rfl, rfl, HR⟩ := hrel
    by_cases hkn : k < n
    · obtain ⟨x, hx⟩ : ∃ x, L[k]? = some x := ⟨_, List.getElem?_eq_getElem (by have := H.out.len; omega)⟩
      obtain ⟨ad, rfl, g0, g1, g2, g3, g4, g5⟩ := (H.out.below HR.out.2).atBt hx
      have hki : (k : Int) < (n : Int) := by omega
      have HS : Hid ((k + 1) * 64 ≤ 140737488355328) := by have := HSM.out; simp only [Hid]; omega
      have HXX := Lib.hid hx
      have HKN := Lib.hid hkn
      go_wp2_with fail
      refine (fromBallot_any x _).mono ?_
      rintro e w' ⟨rfl, hb⟩
      have B1 : Hid (Below wr.heap.size wr w') := ((Below.refl _ _).alloc (Nat.le_refl _) _).trans (hb.mono (by simp))
      have O1 : Hid (w'.ownsRow w.heap.size 53 6 (.slice A' k c') k (CL Bt.cells (L.take k))) := own_kept HR.out.1 B1.out
      have B2 : Hid (Below w.heap.size w w') := HR.out.2.trans (B1.out.mono HR.out.2.size)
      clear hb g0 g1 g2 g3 g4 g5 HR B1 hx hkn
      go_wp2_with (at_builtin; refine wpList_app rfl (.tmp 14) (.tmp 18) rfl eltApiBallot w.heap.size (.slice A' k c') k (CL Bt.cells (L.take k)) rfl (O1.out.alloc _) (some ⟨w'.heap.size, 0, none⟩) 1 1 x.cells rfl rfl (fun h => by cases h) (fresh_news w' x.cells.toArray 53) (Bt.one x) ?d3 ?d4 ?d5 ?_)
      case d3 => have := HS.out; simp only [maxLen]; omega
      case d4 => exact HS.out
      case d5 => have := B2.out.size; simp; omega
      intro A2 c2 w2 ho2 hg2 _
      have B3 : Hid (Below w.heap.size w w2) := below_own B2.out B2.out.size O1.out ((World.grownBy_alloc w' _ _).trans hg2)
      have O2 : Hid (w2.ownsRow w.heap.size 53 6 (.slice A2 (k + 1) c2) (k + 1) (CL Bt.cells (L.take (k + 1)))) := by
        rw [take_next HXX.out, CL_push]; exact ho2
      clear ho2 hg2 O1 B2
      go_wp2_with fail
      go_roundw
      case rel => exact ⟨k + 1, A2, c2, HKN.out, by go_num, rfl, O2.out, B3.out⟩
      case measure => simp [intOf]; omega
    · obtain rfl : k = n := by omega
      have hki : ¬ (k : Int) < (k : Int) := by omega
      go_wp2
      go_ret
      have hl := H.out.len
      refine ⟨A', c', by rw [hl]; exact rfl, HR.out.2, ?_⟩
      have := HR.out.1
      rw [List.take_of_length_le (Nat.le_of_eq hl)] at this
      rw [hl]
      exact this
theorem toAnswer_any (x : Bt) (w : World) : Calls Try.prog 80 #[x.agg] w fun e w' => e = .returned x.agg ∧ Below w.heap.size w w' := by
  go_enter Try.func80, Try.ntmps80
  go_wp2
  go_returns
  exact ⟨rfl, by go_grown⟩
set_option maxHeartbeats 800000 in
theorem turn_toAnswer (A : Option Addr) (n c : Nat) (L : List Bt) (w : World) (h : RdC 6 Bt.cells w A n L) (hsm : n * 64 ≤ 140737488355328) :
    Calls Try.prog 79 #[.slice A n c, .func (.func 80) #[] #[]] w (RetL 125 6 Bt.cells w L) := by
  have H := Lib.hid h
  have hn : (n : Int) ≤ 9223372036854775807 := by have := h.le; omega
  have HSM := Lib.hid hsm
  clear h hsm
  go_enter Try.func79, Try.ntmps79
  go_wp2_with fail
  go_loopw [5, 10] (fun vv iv wr => ∃ (k : Nat) (A' : Option Addr) (c' : Nat), k ≤ n ∧ iv = .int .i64 k ∧ vv = .slice A' k c' ∧ Hid (wr.ownsRow w.heap.size 125 6 (.slice A' k c') k (CL Bt.cells (L.take k)) ∧ Below w.heap.size w wr)) (fun _ iv _ => n - (intOf iv).toNat)
  case atStart => exact ⟨0, none, 0, by omega, rfl, rfl, by simpa [CL] using World.ownsRow_nil _ _ _ _, Below.refl _ _⟩
  case round =>
    obtain ⟨k, A', c', hk, rfl, rfl, HR⟩ := hrel
    by_cases hkn : k < n
    · obtain ⟨x, hx⟩ : ∃ x, L[k]? = some x := ⟨_, List.getElem?_eq_getElem (by have := H.out.len; omega)⟩
      obtain ⟨ad, rfl, g0, g1, g2, g3, g4, g5⟩ := (H.out.below HR.out.2).atBt hx
      have hki : (k : Int) < (n : Int) := by omega
      have HS : Hid ((k + 1) * 64 ≤ 140737488355328) := by have := HSM.out; simp only [Hid]; omega
      have HXX := Lib.hid hx
      have HKN := Lib.hid hkn
      go_wp2_with fail
      refine (toAnswer_any x _).mono ?_
      rintro e w' ⟨rfl, hb⟩
      have B1 : Hid (Below wr.heap.size wr w') := ((Below.refl _ _).alloc (Nat.le_refl _) _).trans (hb.mono (by simp))
      have O1 : Hid (w'.ownsRow w.heap.size 125 6 (.slice A' k c') k (CL Bt.cells (L.take k))) := own_kept HR.out.1 B1.out
      have B2 : Hid (Below w.heap.size w w') := HR.out.2.trans (B1.out.mono HR.out.2.size)
      clear hb g0 g1 g2 g3 g4 g5 HR B1 hx hkn
      go_wp2_with (at_builtin; refine wpList_app rfl (.tmp 14) (.tmp 18) rfl eltAnswer w.heap.size (.slice A' k c') k (CL Bt.cells (L.take k)) rfl (O1.out.alloc _) (some ⟨w'.heap.size, 0, none⟩) 1 1 x.cells rfl rfl (fun h => by cases h) (fresh_news w' x.cells.toArray 125) (Bt.one x) ?d3 ?d4 ?d5 ?_)
      case d3 => have := HS.out; simp only [maxLen]; omega
      case d4 => exact HS.out
      case d5 => have := B2.out.size; simp; omega
      intro A2 c2 w2 ho2 hg2 _
      have B3 : Hid (Below w.heap.size w w2) := below_own B2.out B2.out.size O1.out ((World.grownBy_alloc w' _ _).trans hg2)
      have O2 : Hid (w2.ownsRow w.heap.size 125 6 (.slice A2 (k + 1) c2) (k + 1) (CL Bt.cells (L.take (k + 1)))) := by
        rw [take_next HXX.out, CL_push]; exact ho2
      clear ho2 hg2 O1 B2
      go_wp2_with fail
      go_roundw
      case rel => exact ⟨k + 1, A2, c2, HKN.out, by go_num, rfl, O2.out, B3.out⟩
      case measure => simp [intOf]; omega
    · obtain rfl : k = n := by omega
      have hki : ¬ (k : Int) < (k : Int) := by omega
      go_wp2
      go_ret
      have hl := H.out.len
      refine ⟨A', c', by rw [hl]; exact rfl, HR.out.2, ?_⟩
      have := HR.out.1
      rw [List.take_of_length_le (Nat.le_of_eq hl)] at this
      rw [hl]
      exact this
theorem fromAnswer_any (x : Bt) (w : World) : Calls Try.prog 82 #[x.agg] w fun e w' => e = .returned x.agg ∧ Below w.heap.size w w' := by
  go_enter Try.func82, Try.ntmps82
  go_wp2
  go_returns
  exact ⟨rfl, by go_grown⟩
set_option maxHeartbeats 800000 in
theorem turn_fromAnswer (A : Option Addr) (n c : Nat) (L : List Bt) (w : World) (h : RdC 6 Bt.cells w A n L) (hsm : n * 64 ≤ 140737488355328) :
    Calls Try.prog 78 #[.slice A n c, .func (.func 82) #[] #[]] w (RetL 38 6 Bt.cells w L) := by
  have H := Lib.hid h
  have hn : (n : Int) ≤ 9223372036854775807 := by have := h.le; omega
  have HSM := Lib.hid hsm
  clear h hsm
  go_enter Try.func78, Try.ntmps78
  go_wp2_with fail
  go_loopw [5, 10] (fun vv iv wr => ∃ (k : Nat) (A' : Option Addr) (c' : Nat), k ≤ n ∧ iv = .int .i64 k ∧ vv = .slice A' k c' ∧ Hid (wr.ownsRow w.heap.size 38 6 (.slice A' k c') k (CL Bt.cells (L.take k)) ∧ Below w.heap.size w wr)) (fun _ iv _ => n - (intOf iv).toNat)
  case atStart => exact ⟨0, none, 0, by omega, rfl, rfl, by simpa [CL] using World.ownsRow_nil _ _ _ _, Below.refl _ _⟩
  case round =>
    obtain ⟨k, A', c', hk, rfl, rfl, HR⟩ := hrel
    by_cases hkn : k < n
    · obtain ⟨x, hx⟩ : ∃ x, L[k]? = some x := ⟨_, List.getElem?_eq_getElem (by have := H.out.len; omega)⟩
      obtain ⟨ad, rfl, g0, g1, g2, g3, g4, g5⟩ := (H.out.below HR.out.2).atBt hx
      have hki : (k : Int) < (n : Int) := by omega
      have HS : Hid ((k + 1) * 64 ≤ 140737488355328) := by have := HSM.out; simp only [Hid]; omega
      have HXX := Lib.hid hx
      have HKN := Lib.hid hkn
      go_wp2_with fail
      refine (fromAnswer_any x _).mono ?_
      rintro e w' ⟨rfl, hb⟩
      have B1 : Hid (Below wr.heap.size wr w') := ((Below.refl _ _).alloc (Nat.le_refl _) _).trans (hb.mono (by simp))
      have O1 : Hid (w'.ownsRow w.heap.size 38 6 (.slice A' k c') k (CL Bt.cells (L.take k))) := own_kept HR.out.1 B1.out
      have B2 : Hid (Below w.heap.size w w') := HR.out.2.trans (B1.out.mono HR.out.2.size)
      clear hb g0 g1 g2 g3 g4 g5 HR B1 hx hkn
      go_wp2_with (at_builtin; refine wpList_app rfl (.tmp 14) (.tmp 18) rfl eltApiAnswer w.heap.size (.slice A' k c') k (CL Bt.cells (L.take k)) rfl (O1.out.alloc _) (some ⟨w'.heap.size, 0, none⟩) 1 1 x.cells rfl rfl (fun h => by cases h) (fresh_news w' x.cells.toArray 38) (Bt.one x) ?d3 ?d4 ?d5 ?_)
      case d3 => have := HS.out; simp only [maxLen]; omega
      case d4 => exact HS.out
      case d5 => have := B2.out.size; simp; omega
      intro A2 c2 w2 ho2 hg2 _
      have B3 : Hid (Below w.heap.size w w2) := below_own B2.out B2.out.size O1.out ((World.grownBy_alloc w' _ _).trans hg2)
      have O2 : Hid (w2.ownsRow w.heap.size 38 6 (.slice A2 (k + 1) c2) (k + 1) (CL Bt.cells (L.take (k + 1)))) := by
        rw [take_next HXX.out, CL_push]; exact ho2
      clear ho2 hg2 O1 B2
      go_wp2_with fail
      go_roundw
      case rel => exact ⟨k + 1, A2, c2, HKN.out, by go_num, rfl, O2.out, B3.out⟩
      case measure => simp [intOf]; omega
    · obtain rfl : k = n := by omega
      have hki : ¬ (k : Int) < (k : Int) := by omega
      go_wp2
      go_ret
      have hl := H.out.len
      refine ⟨A', c', by rw [hl]; exact rfl, HR.out.2, ?_⟩
      have := HR.out.1
      rw [List.take_of_length_le (Nat.le_of_eq hl)] at this
      rw [hl]
      exact this
end Go.Proofs.Ytjjobgolpedgeaa
