/-
  The walk of the law WireBack.
-/
import Derived.Test.YtkdikbenheagmaaDoorBackP
import Derived.Test.YtkdikbenheagmaaDoorStruct
set_option linter.unusedVariables false
set_option linter.unusedSimpArgs false
namespace Go.Proofs.YtkdikbenheagmaaDoor
open Go.RowKit

set_option maxRecDepth 100000 in
set_option maxHeartbeats 800000 in
theorem refused_any (A : Option Addr) (n c : Nat) (l : List PutV) (w : World) (hr : RdC 5 PutV.cells w A n l) (hok : ∀ x ∈ l, x.Ok) :
    Calls Tryd.prog 45 #[.slice A n c] w fun e w' => e = .returned (.bool (l.any PutV.bad)) ∧ Below w.heap.size w w' := by
  have HR := Lib.hid hr
  have HOK := Lib.hid hok
  have hl := hr.len
  have hle := hr.le
  have HL := Lib.hid hl
  clear hr hok hl
  go_enter Tryd.func45, Tryd.ntmps45
  go_wp2
  go_loopw [3, 4] (fun i _ wr => ∃ k : Nat, k ≤ n ∧ i = .int .i64 k ∧ Hid ((l.take k).any PutV.bad = false ∧ Below w.heap.size w wr)) (fun i _ _ => n - (intOf i).toNat)
  case atStart => exact ⟨0, Nat.zero_le _, rfl, rfl, Below.refl _ _⟩
  case round =>
    obtain ⟨k, hk, rfl, HS⟩ := hrel
    by_cases hlt : k < n
    · have hkl : k < l.length := by rw [HL.out]; exact hlt
      obtain ⟨ad, ea, hc⟩ := HR.out.cell k _ (List.getElem?_eq_getElem hkl)
      cases ea
      have hsn : (l.take (k + 1)).any PutV.bad = ((l.take k).any PutV.bad || l[k].bad) := by rw [List.take_succ_eq_append_getElem hkl, List.any_append]; simp
      have HSN := Lib.hid hsn
      have hx := Lib.hid (HOK.out _ (List.getElem_mem hkl))
      generalize hxx : l[k] = x at hc HSN hx
      have HXX := Lib.hid hxx
      clear hxx hsn
      have hcr := Lib.hid (show ∀ j u, x.cells[j]? = some u → wr.cell? ((ad.add (k * 5)).add j) = some u from fun j u hu => by
        have h1 := hc j u hu
        rw [add_add, HS.out.2.cell (by rw [add_block]; have := World.block_lt_of_cell? w _ h1; rwa [add_block] at this)]
        exact h1)
      clear hc
      obtain ⟨kd, v, nn, mo, s⟩ := x
      have hk1 : k < n := hlt
      have HBAD := Lib.hid (show PutV.bad ⟨kd, v, nn, mo, s⟩ = true → l.any PutV.bad = true from fun hb => List.any_eq_true.2 ⟨_, List.getElem_mem hkl, by rw [HXX.out]; exact hb⟩)
      by_cases k1 : kd = 1
      · subst k1
        by_cases hn : nn < 0
        · have HCL := Lib.hid (show ∀ (j : Nat) (u : Value), [Value.int .i64 1, .int .u64 v, .int .i64 nn, .int .i64 mo, .string s][j]? = some u → wr.cell? ((ad.add (k * 5)).add j) = some u from hcr.out)
          have HB1 := Lib.hid (show PutV.bad ⟨1, v, nn, mo, s⟩ = true by unfold PutV.bad; simp; omega)
          go_wp2_with ((with_reducible refine wpList_load5 50 (.tmp 13) (ad.add (k * 5)) (.int .i64 1) (.int .u64 v) (.int .i64 nn) (.int .i64 mo) (.string s) HCL.out Tryd.underlying50 putInfo ?_ ?_); case refine_1 => rfl)
          go_ret
          refine ⟨ret_bool ?_, HS.out.2.alloc HS.out.2.size _⟩
          exact (HBAD.out HB1.out).symm
        · have HCL := Lib.hid (show ∀ (j : Nat) (u : Value), [Value.int .i64 1, .int .u64 v, .int .i64 nn, .int .i64 mo, .string s][j]? = some u → wr.cell? ((ad.add (k * 5)).add j) = some u from hcr.out)
          have HB1 := Lib.hid (show PutV.bad ⟨1, v, nn, mo, s⟩ = false by unfold PutV.bad; simp; omega)
          go_wp2_with ((with_reducible refine wpList_load5 50 (.tmp 13) (ad.add (k * 5)) (.int .i64 1) (.int .u64 v) (.int .i64 nn) (.int .i64 mo) (.string s) HCL.out Tryd.underlying50 putInfo ?_ ?_); case refine_1 => rfl)
          go_roundw
          case rel => exact ⟨k + 1, by omega, by go_num, by rw [HSN.out, HS.out.1, HB1.out]; rfl, HS.out.2.alloc HS.out.2.size _⟩
          case measure => simp [intOf]; omega
      · have q1 : (kd == 1) = false := beq_eq_false_iff_ne.2 k1
        have q1' : (kd != 1) = true := bne_iff_ne.2 k1
        by_cases k2 : kd = 2
        · subst k2
          by_cases hn : nn < 0
          · have HCL := Lib.hid (show ∀ (j : Nat) (u : Value), [Value.int .i64 2, .int .u64 v, .int .i64 nn, .int .i64 mo, .string s][j]? = some u → wr.cell? ((ad.add (k * 5)).add j) = some u from hcr.out)
            have HB1 := Lib.hid (show PutV.bad ⟨2, v, nn, mo, s⟩ = true by unfold PutV.bad; simp; omega)
            go_wp2_with ((with_reducible refine wpList_load5 50 (.tmp 13) (ad.add (k * 5)) (.int .i64 2) (.int .u64 v) (.int .i64 nn) (.int .i64 mo) (.string s) HCL.out Tryd.underlying50 putInfo ?_ ?_); case refine_1 => rfl)
            go_ret
            refine ⟨ret_bool ?_, HS.out.2.alloc HS.out.2.size _⟩
            exact (HBAD.out HB1.out).symm
          · by_cases hm : mo < nn
            · have HCL := Lib.hid (show ∀ (j : Nat) (u : Value), [Value.int .i64 2, .int .u64 v, .int .i64 nn, .int .i64 mo, .string s][j]? = some u → wr.cell? ((ad.add (k * 5)).add j) = some u from hcr.out)
              have HB1 := Lib.hid (show PutV.bad ⟨2, v, nn, mo, s⟩ = true by unfold PutV.bad; simp; omega)
              go_wp2_with ((with_reducible refine wpList_load5 50 (.tmp 13) (ad.add (k * 5)) (.int .i64 2) (.int .u64 v) (.int .i64 nn) (.int .i64 mo) (.string s) HCL.out Tryd.underlying50 putInfo ?_ ?_); case refine_1 => rfl)
              go_ret
              refine ⟨ret_bool ?_, HS.out.2.alloc HS.out.2.size _⟩
              exact (HBAD.out HB1.out).symm
            · have HCL := Lib.hid (show ∀ (j : Nat) (u : Value), [Value.int .i64 2, .int .u64 v, .int .i64 nn, .int .i64 mo, .string s][j]? = some u → wr.cell? ((ad.add (k * 5)).add j) = some u from hcr.out)
              have HB1 := Lib.hid (show PutV.bad ⟨2, v, nn, mo, s⟩ = false by unfold PutV.bad; simp; omega)
              go_wp2_with ((with_reducible refine wpList_load5 50 (.tmp 13) (ad.add (k * 5)) (.int .i64 2) (.int .u64 v) (.int .i64 nn) (.int .i64 mo) (.string s) HCL.out Tryd.underlying50 putInfo ?_ ?_); case refine_1 => rfl)
              go_roundw
              case rel => exact ⟨k + 1, by omega, by go_num, by rw [HSN.out, HS.out.1, HB1.out]; rfl, HS.out.2.alloc HS.out.2.size _⟩
              case measure => simp [intOf]; omega
        · have q2 : (kd == 2) = false := beq_eq_false_iff_ne.2 k2
          have q2' : (kd != 2) = true := bne_iff_ne.2 k2
          by_cases k0 : kd = 0
          · subst k0
            clear q1 q1' q2 q2' k1 k2
            have HCL := Lib.hid (show ∀ (j : Nat) (u : Value), [Value.int .i64 0, .int .u64 v, .int .i64 nn, .int .i64 mo, .string s][j]? = some u → wr.cell? ((ad.add (k * 5)).add j) = some u from hcr.out)
            have HB1 := Lib.hid (show PutV.bad ⟨0, v, nn, mo, s⟩ = false by unfold PutV.bad; simp)
            go_wp2_with ((with_reducible refine wpList_load5 50 (.tmp 13) (ad.add (k * 5)) (.int .i64 0) (.int .u64 v) (.int .i64 nn) (.int .i64 mo) (.string s) HCL.out Tryd.underlying50 putInfo ?_ ?_); case refine_1 => rfl)
            go_roundw
            case rel => exact ⟨k + 1, by omega, by go_num, by rw [HSN.out, HS.out.1, HB1.out]; rfl, HS.out.2.alloc HS.out.2.size _⟩
            case measure => simp [intOf]; omega
          · have q0' : (kd != 0) = true := bne_iff_ne.2 k0
            by_cases hm : mo < (s.size : Int)
            · have HCL := Lib.hid (show ∀ (j : Nat) (u : Value), [Value.int .i64 kd, .int .u64 v, .int .i64 nn, .int .i64 mo, .string s][j]? = some u → wr.cell? ((ad.add (k * 5)).add j) = some u from hcr.out)
              have HB1 := Lib.hid (show PutV.bad ⟨kd, v, nn, mo, s⟩ = true by unfold PutV.bad; simp; omega)
              go_wp2_with ((with_reducible refine wpList_load5 50 (.tmp 13) (ad.add (k * 5)) (.int .i64 kd) (.int .u64 v) (.int .i64 nn) (.int .i64 mo) (.string s) HCL.out Tryd.underlying50 putInfo ?_ ?_); case refine_1 => rfl)
              go_ret
              refine ⟨ret_bool ?_, HS.out.2.alloc HS.out.2.size _⟩
              exact (HBAD.out HB1.out).symm
            · have HCL := Lib.hid (show ∀ (j : Nat) (u : Value), [Value.int .i64 kd, .int .u64 v, .int .i64 nn, .int .i64 mo, .string s][j]? = some u → wr.cell? ((ad.add (k * 5)).add j) = some u from hcr.out)
              have HB1 := Lib.hid (show PutV.bad ⟨kd, v, nn, mo, s⟩ = false by unfold PutV.bad; simp; omega)
              go_wp2_with ((with_reducible refine wpList_load5 50 (.tmp 13) (ad.add (k * 5)) (.int .i64 kd) (.int .u64 v) (.int .i64 nn) (.int .i64 mo) (.string s) HCL.out Tryd.underlying50 putInfo ?_ ?_); case refine_1 => rfl)
              go_roundw
              case rel => exact ⟨k + 1, by omega, by go_num, by rw [HSN.out, HS.out.1, HB1.out]; rfl, HS.out.2.alloc HS.out.2.size _⟩
              case measure => simp [intOf]; omega
    · obtain rfl : k = n := by omega
      go_wp2
      go_ret
      have h1 := HS.out.1
      rw [List.take_of_length_le (Nat.le_of_eq HL.out)] at h1
      exact ⟨ret_bool h1.symm, HS.out.2⟩
end Go.Proofs.YtkdikbenheagmaaDoor
