/-
  The walks of the laws' own small functions: within, below, put; lists of acknowledgements and of marks compared.
-/
import Derived.Test.YtjjobgolpedgeaaTOnceP
import Derived.Test.YtjjobgolpedgeaaTSettle
set_option linter.unusedVariables false
set_option linter.unusedSimpArgs false
namespace Go.Proofs.Ytjjobgolpedgeaa
open Go.RowKit

/-- k brought into 0 to m -/
def withinF (k : Int) (m : Nat) : Nat := (k % ((m : Int) + 1)).toNat
theorem withinF_le (k : Int) (m : Nat) : withinF k m ≤ m := by
  unfold withinF
  have := Int.emod_nonneg k (show (m : Int) + 1 ≠ 0 by omega); have := Int.emod_lt_of_pos k (show 0 < (m : Int) + 1 by omega)
  omega
theorem withinF_neg {k : Int} {m : Nat} (h : k.tmod ((m : Int) + 1) < 0) : k.tmod ((m : Int) + 1) + m + 1 = (withinF k m : Nat) := by
  unfold withinF
  have h1 := Int.emod_nonneg k (show (m : Int) + 1 ≠ 0 by omega); have h2 := Int.emod_lt_of_pos k (show 0 < (m : Int) + 1 by omega)
  rw [Int.tmod_eq_emod] at h ⊢
  split at h
  · omega
  · rename_i hc
    rw [if_neg hc]
    omega
theorem withinF_pos {k : Int} {m : Nat} (h : 0 ≤ k.tmod ((m : Int) + 1)) : k.tmod ((m : Int) + 1) = (withinF k m : Nat) := by
  unfold withinF
  have h1 := Int.emod_nonneg k (show (m : Int) + 1 ≠ 0 by omega); have h2 := Int.emod_lt_of_pos k (show 0 < (m : Int) + 1 by omega)
  rw [Int.tmod_eq_emod] at h ⊢
  split at h
  · rename_i hc
    rw [if_pos hc]
    omega
  · omega
theorem within_fn (k x : Int) (m : Nat) (w : World) (hx : x = m) (hm : m ≤ 1000000000000000) (wk : (Lit.int .i64 k).wf = true) :
    Calls Try.prog 20 #[.int .i64 k, .int .i64 x] w fun e w' => e = .returned (.int .i64 (withinF k m : Nat)) ∧ w = w' := by
  subst hx
  have b := bounds_i64 wk
  have hmi : (0 : Int) ≤ (m : Int) := by omega
  have hm2 : (m : Int) ≤ 1000000000000000 := by omega
  have ht := tmod_in k ((m : Int) + 1) (by omega)
  have e1 : IntKind.i64.wrap ((m : Int) + 1) = (m : Int) + 1 := by rw [IntKind.wrap_i64]; omega
  go_enter Try.func20, Try.ntmps20
  go_wp2
  · rename_i hneg
    go_ret
    exact ⟨ret_int (withinF_neg hneg), rfl⟩
  · rename_i hpos
    go_ret
    exact ⟨ret_int (withinF_pos hpos), rfl⟩
/-- the order of draws -/
def blw (h1 l1 h2 l2 : Nat) : Bool := decide ((h1 : Int) < h2) || (decide ((h1 : Int) = h2) && decide ((l1 : Int) < l2))
theorem below_any (h1 l1 h2 l2 : Nat) (w : World) : Calls Try.prog 19 #[.agg #[.int .u64 (h1 : Nat), .int .u64 (l1 : Nat)], .agg #[.int .u64 (h2 : Nat), .int .u64 (l2 : Nat)]] w fun e w' => e = .returned (.bool (blw h1 l1 h2 l2)) ∧ Below w.heap.size w w' := by
  unfold blw
  by_cases a1 : (h1 : Int) < h2
  · rw [decide_eq_true a1, Bool.true_or]
    go_enter Try.func19, Try.ntmps19
    go_wp2
    go_ret
    exact ⟨rfl, by go_grown⟩
  · rw [decide_eq_false a1, Bool.false_or]
    by_cases a2 : h1 = h2
    · subst a2
      rw [decide_eq_true rfl, Bool.true_and]
      go_enter Try.func19, Try.ntmps19
      go_wp2
      go_ret
      exact ⟨rfl, by go_grown⟩
    · have a3 : ((h1 : Int) == (h2 : Int)) = false := beq_eq_false_iff_ne.2 (by omega)
      rw [decide_eq_false (show ¬ (h1 : Int) = h2 by omega), Bool.false_and]
      go_enter Try.func19, Try.ntmps19
      go_wp2
      go_ret
      exact ⟨rfl, by go_grown⟩
set_option maxHeartbeats 800000 in
theorem put_any (A : Option Addr) (n c : Nat) (L : List Ak) (w : World) (h : RdC 4 Ak.cells w A n L) (hsm : n * 32 ≤ 140737488351232) :
    Calls Try.prog 18 #[.slice A n c] w (RetL 29 4 Ak.cells w (putAll L)) := by
  have H := Lib.hid h
  have HSM := Lib.hid hsm
  have HL := Lib.hid h.len
  clear h hsm
  go_enter Try.func18, Try.ntmps18
  go_wp2_with fail
  go_loopw [3, 4] (fun vv iv wr => ∃ (k : Nat) (A' : Option Addr) (c' : Nat), k ≤ n ∧ iv = .int .i64 k ∧ vv = .slice A' (putAll (L.take k)).length c' ∧ Hid (Below w.heap.size w wr) ∧ Hid (wr.ownsRow w.heap.size 29 4 (.slice A' (putAll (L.take k)).length c') (putAll (L.take k)).length (CL Ak.cells (putAll (L.take k))))) (fun _ iv _ => n - (intOf iv).toNat)
  case atStart => exact ⟨0, none, 0, by omega, rfl, rfl, Below.refl _ _, World.ownsRow_nil _ _ _ _⟩
  case round =>
    obtain ⟨k, A', c', hk, rfl, rfl, HR, HO⟩ := hrel
    by_cases hkn : k < n
    · obtain ⟨x, hx⟩ : ∃ x, L[k]? = some x := ⟨_, List.getElem?_eq_getElem (by have := HL.out; omega)⟩
      obtain ⟨ad, rfl, g0, g1, g2, g3⟩ := (H.out.below HR.out).atAk hx
      have hki : (k : Int) < (n : Int) := by omega
      have hk2 : (k : Int) + 1 ≤ 6000000000000 := by have := HSM.out; omega
      have HN := Lib.hid (show putAll (L.take (k + 1)) = putF Ak.n Ak.wins (putAll (L.take k)) x by rw [take_next hx, putAll_push])
      have HLE : Hid ((putAll (L.take k)).length ≤ k) := by have := putAll_len (L.take k); rw [List.length_take] at this; simp only [Hid]; omega
      have HKN := Lib.hid hkn
      clear hx hkn hk
      go_wp2_with fail
      refine (putAck_fn A' _ c' (putAll (L.take k)) x _ (rdAk HO.out rfl) (by have := HLE.out; have := HKN.out; have := HSM.out; omega)).mono ?_
      rintro e w2 ⟨A2, c2, rfl, hb2, ho2⟩
      have B2 : Hid (Below w.heap.size w w2) := HR.out.trans (hb2.mono HR.out.size)
      rw [← HN.out] at ho2 ⊢
      have O2 := Lib.hid (own_mono ho2 HR.out.size)
      clear hb2 ho2 HO HR g0 g1 g2 g3
      go_wp2_with fail
      go_roundw
      case rel => exact ⟨k + 1, A2, c2, HKN.out, by go_num, rfl, B2.out, O2.out⟩
      case measure => have := HKN.out; simp [intOf]; omega
    · obtain rfl : k = n := by omega
      have hki : ¬ (k : Int) < (k : Int) := by omega
      rw [List.take_of_length_le (Nat.le_of_eq HL.out)] at HO ⊢
      go_wp2_with fail
      go_ret
      exact ⟨A', c', rfl, HR.out, HO.out⟩
set_option maxHeartbeats 800000 in
theorem sameAcks0_any (A B : Option Addr) (n c d : Nat) (L : List Ak) (w : World) (ha : RdC 4 Ak.cells w A n L) (hb : RdC 4 Ak.cells w B n L) :
    Calls Try.prog 77 #[.slice A n c, .slice B n d] w fun e w' => e = .returned (.bool true) ∧ ∃ m, w' = w.drewN m := by
  have HA := Lib.hid ha
  have HB := Lib.hid hb
  have hn : (n : Int) ≤ 9223372036854775807 := by have := ha.le; omega
  clear ha hb
  go_enter Try.func77, Try.ntmps77
  go_wp2
  go_loopw [5] (fun i wr => ∃ (k m : Nat), k ≤ n ∧ i = .int .i64 k ∧ Hid (wr = w.drewN m)) (fun i _ => n - (intOf i).toNat)
  case atStart => exact ⟨0, 0, by omega, rfl, rfl⟩
  case round =>
    obtain ⟨k, m, hk, rfl, HR⟩ := hrel
    by_cases hkn : k < n
    · obtain ⟨x, hx⟩ : ∃ x, L[k]? = some x := ⟨_, List.getElem?_eq_getElem (by have := HA.out.len; omega)⟩
      have HA' : RdC 4 Ak.cells wr A n L := by rw [HR.out]; exact HA.out.drewN m
      have HB' : RdC 4 Ak.cells wr B n L := by rw [HR.out]; exact HB.out.drewN m
      obtain ⟨ad, rfl, g0, g1, g2, g3⟩ := HA'.atAk hx
      obtain ⟨bd, rfl, p0, p1, p2, p3⟩ := HB'.atAk hx
      have e1 : IntKind.i64.wrap ((k : Int) + 1) = (k : Int) + 1 := by rw [IntKind.wrap_i64]; omega
      clear hx HA' HB'
      go_wp2
      go_quiet (fail)
      go_wp2
      go_roundw
      case rel => exact ⟨k + 1, m + nq, by omega, by go_num, by rw [HR.out, World.drewN_drewN]; exact rfl⟩
      case measure => simp [intOf]; omega
    · obtain rfl : k = n := by omega
      go_wp2
      go_ret
      exact ⟨rfl, m, HR.out⟩
theorem sameAcks_any (A B : Option Addr) (n c d : Nat) (L : List Ak) (w : World) (ha : RdC 4 Ak.cells w A n L) (hb : RdC 4 Ak.cells w B n L) :
    Calls Try.prog 22 #[.slice A n c, .slice B n d] w fun e w' => e = .returned (.bool true) ∧ ∃ m, w' = w.drewN m := by
  have F := Lib.hid (sameAcks0_any A B n c d L w ha hb)
  clear ha hb
  go_enter Try.func22, Try.ntmps22
  go_wp2_with fail
  refine F.out.mono ?_
  rintro e w' ⟨rfl, m, hm⟩
  have HM := Lib.hid hm
  clear hm F
  go_wp2
  go_ret
  exact ⟨rfl, m, HM.out⟩
end Go.Proofs.Ytjjobgolpedgeaa
