/-
  The walk of the law WireSealed.
-/
import Derived.Test.YtkdikbenheagmaaDoorSealP
import Derived.Test.YtkdikbenheagmaaDoorAlive
set_option linter.unusedVariables false
set_option linter.unusedSimpArgs false
namespace Go.Proofs.YtkdikbenheagmaaDoor
open Go.RowKit

theorem Told.to {E : TypeId} {w w' : World} {e : Ending} {bs : List UInt8} {err : Int} (h : Told E w e w' bs err) {m : Nat} (hm : bs.length = m) :
    ∃ A c, e = .returned (.tuple #[.slice A m c, .int .i64 err]) ∧ Below w.heap.size w w' ∧ Rd w' A m bs ∧ (A = none → m = 0 ∧ c = 0) ∧ m ≤ c ∧ w'.ownsRow w.heap.size E 1 (.slice A m c) m (Bv bs) := by
  obtain ⟨A, c, rfl, hb, ho⟩ := h
  subst hm
  have g := gone_none ho
  exact ⟨A, c, rfl, hb, own_rd ho, g.1, g.2.1, ho⟩

set_option maxRecDepth 100000 in
set_option maxHeartbeats 1600000 in
theorem wireSealed_walk (A : Option Addr) (n c : Nat) (bs : List UInt8) (D : Option Addr) (m d : Nat) (fs : List UInt8) (w : World)
    (hr : Rd w A n bs) (hc : n ≤ c) (hA : A = none → n = 0 ∧ c = 0) (hy : n ≤ 140737488351232)
    (hr2 : Rd w D m fs) (hd : m ≤ d) (hA2 : D = none → m = 0 ∧ d = 0) (hy2 : m ≤ 140737488351232) (ht : Tab w) :
    Calls Tryd.prog 7 #[.slice A n c, .slice D m d] w fun e w' => e = .returned (.bool true) ∧ Below w.heap.size w w' := by
  have h0 : 0 < w.heap.size := World.block_lt_of_cell? w _ (ht 0 (by decide))
  have HT := Lib.hid ht
  have HR := Lib.hid hr
  have HA := Lib.hid hA
  have HR2 := Lib.hid hr2
  have HA2 := Lib.hid hA2
  have hl := hr.len
  have HL := Lib.hid hl
  have hl2 := hr2.len
  have HL2 := Lib.hid hl2
  clear ht hr hA hl hr2 hA2 hl2
  go_enter Tryd.func7, Tryd.ntmps7
  go_wp2_with fail
  refine (alive_any w HT.out).mono ?_
  rintro e w1 ⟨rfl, hb1⟩
  have B1 := Lib.hid hb1
  clear hb1
  by_cases hn : n ≤ 32756
  · have hdn : decide ((n : Int) ≤ 32756) = true := decide_eq_true (by omega)
    have hll : (sealL bs).length = n + 12 := by rw [sealL_len, HL.out]
    have HLL := Lib.hid hll
    clear hll
    have F := seal_any A n c bs w1 (HR.out.below B1.out) HA.out (HT.out.below B1.out h0)
    rw [if_pos hn, if_pos hn] at F
    have F := Lib.hid F
    go_wp2_with fail
    refine (F.out).mono ?_
    rintro e w2 ht2
    obtain ⟨A2, c2, rfl, hb2, hr2, hn2, hc2, _⟩ := ht2.to HLL.out
    have B2 : Hid (Below w.heap.size w w2) := B1.out.trans (hb2.mono B1.out.size)
    have H2 := Lib.hid hr2
    have N2 := Lib.hid hn2
    clear hb2 hr2 hn2 ht2
    go_wp2_with fail
    refine (num_any _ _).mono ?_
    rintro e w' ⟨rfl, rfl⟩
    go_wp2_with fail
    refine (num_any _ _).mono ?_
    rintro e w' ⟨rfl, rfl⟩
    have F := open_any' A2 (n + 12) c2 (sealL bs) w2 H2.out hc2 N2.out (HT.out.below B2.out h0)
    rw [open_seal bs (by rw [HL.out]; exact hn)] at F
    have F := Lib.hid F
    go_wp2_with fail
    refine (F.out).mono ?_
    rintro e w3 ht3
    obtain ⟨A3, c3, rfl, hb3, hr3, hn3, hc3, _⟩ := ht3.to HL.out
    have B3 : Hid (Below w.heap.size w w3) := B2.out.trans (hb3.mono B2.out.size)
    have H3 := Lib.hid hr3
    have N3 := Lib.hid hn3
    clear hb3 hr3 hn3 ht3
    go_wp2_with fail
    refine (num_any _ _).mono ?_
    rintro e w' ⟨rfl, rfl⟩
    go_wp2_with fail
    refine (sameBytes_any A3 n c3 bs A n c bs w3 H3.out (HR.out.below B3.out)).mono ?_
    rintro e w' ⟨rfl, rfl⟩
    rw [beq_self_eq_true]
    go_wp2_with fail
    refine (open_any' D m d fs w3 (HR2.out.below B3.out) hd HA2.out (HT.out.below B3.out h0)).mono ?_
    rintro e w4 ht4
    obtain ⟨A4, c4, rfl, hb4, hr4, hn4, hc4, _⟩ := ht4.to rfl
    have B4 : Hid (Below w.heap.size w w4) := B3.out.trans (hb4.mono B3.out.size)
    have H4 := Lib.hid hr4
    have N4 := Lib.hid hn4
    clear hb4 hr4 hn4 ht4
    go_wp2_with fail
    refine (num_any _ _).mono ?_
    rintro e w' ⟨rfl, rfl⟩
    by_cases he : (openL fs).2 = 0
    · have hok := open_ok fs he
      rw [he]
      have hbl := hok.2.1
      have HO := Lib.hid hok
      clear hok
      have F := seal_any A4 _ c4 (openL fs).1 w4 H4.out N4.out (HT.out.below B4.out h0)
      rw [if_pos hbl, if_pos hbl, HO.out.1] at F
      have F := Lib.hid F
      go_wp2_with fail
      refine (F.out).mono ?_
      rintro e w5 ht5
      obtain ⟨A5, c5, rfl, hb5, hr5, hn5, hc5, _⟩ := ht5.to HL2.out
      have B5 : Hid (Below w.heap.size w w5) := B4.out.trans (hb5.mono B4.out.size)
      have H5 := Lib.hid hr5
      have N5 := Lib.hid hn5
      clear hb5 hr5 hn5 ht5
      go_wp2_with fail
      refine (num_any _ _).mono ?_
      rintro e w' ⟨rfl, rfl⟩
      go_wp2_with fail
      refine (sameBytes_any A5 m c5 fs D m d fs w5 H5.out (HR2.out.below B5.out)).mono ?_
      rintro e w' ⟨rfl, rfl⟩
      rw [beq_self_eq_true]
      go_wp2
      go_ret
      exact ⟨rfl, B5.out⟩
    · have hnil := open_err fs he
      have he1 : (((openL fs).2 : Nat) : Int) ≠ 0 := by omega
      have he2 : ((((openL fs).2 : Nat) : Int) != 0) = true := bne_iff_ne.2 he1
      have hln : (openL fs).1.length = 0 := by rw [hnil]; rfl
      rw [hln]
      generalize (openL fs).2 = er at he he1 he2
      go_wp2
      go_ret
      exact ⟨rfl, B4.out⟩
  · have hdn : decide ((n : Int) ≤ 32756) = false := decide_eq_false (by omega)
    have F := seal_any A n c bs w1 (HR.out.below B1.out) HA.out (HT.out.below B1.out h0)
    rw [if_neg hn, if_neg hn] at F
    have F := Lib.hid F
    go_wp2_with fail
    refine (F.out).mono ?_
    rintro e w2 ht2
    obtain ⟨A2, c2, rfl, hb2, hr2, hn2, hc2, _⟩ := ht2.to rfl
    have B2 : Hid (Below w.heap.size w w2) := B1.out.trans (hb2.mono B1.out.size)
    have H2 := Lib.hid hr2
    have N2 := Lib.hid hn2
    clear hb2 hr2 hn2 ht2
    go_wp2_with fail
    refine (num_any _ _).mono ?_
    rintro e w' ⟨rfl, rfl⟩
    go_wp2_with fail
    refine (num_any _ _).mono ?_
    rintro e w' ⟨rfl, rfl⟩
    go_wp2_with fail
    refine (open_any' D m d fs w2 (HR2.out.below B2.out) hd HA2.out (HT.out.below B2.out h0)).mono ?_
    rintro e w4 ht4
    obtain ⟨A4, c4, rfl, hb4, hr4, hn4, hc4, _⟩ := ht4.to rfl
    have B4 : Hid (Below w.heap.size w w4) := B2.out.trans (hb4.mono B2.out.size)
    have H4 := Lib.hid hr4
    have N4 := Lib.hid hn4
    clear hb4 hr4 hn4 ht4
    go_wp2_with fail
    refine (num_any _ _).mono ?_
    rintro e w' ⟨rfl, rfl⟩
    by_cases he : (openL fs).2 = 0
    · have hok := open_ok fs he
      rw [he]
      have hbl := hok.2.1
      have HO := Lib.hid hok
      clear hok
      have F := seal_any A4 _ c4 (openL fs).1 w4 H4.out N4.out (HT.out.below B4.out h0)
      rw [if_pos hbl, if_pos hbl, HO.out.1] at F
      have F := Lib.hid F
      go_wp2_with fail
      refine (F.out).mono ?_
      rintro e w5 ht5
      obtain ⟨A5, c5, rfl, hb5, hr5, hn5, hc5, _⟩ := ht5.to HL2.out
      have B5 : Hid (Below w.heap.size w w5) := B4.out.trans (hb5.mono B4.out.size)
      have H5 := Lib.hid hr5
      have N5 := Lib.hid hn5
      clear hb5 hr5 hn5 ht5
      go_wp2_with fail
      refine (num_any _ _).mono ?_
      rintro e w' ⟨rfl, rfl⟩
      go_wp2_with fail
      refine (sameBytes_any A5 m c5 fs D m d fs w5 H5.out (HR2.out.below B5.out)).mono ?_
      rintro e w' ⟨rfl, rfl⟩
      rw [beq_self_eq_true]
      go_wp2
      go_ret
      exact ⟨rfl, B5.out⟩
    · have hnil := open_err fs he
      have he1 : (((openL fs).2 : Nat) : Int) ≠ 0 := by omega
      have he2 : ((((openL fs).2 : Nat) : Int) != 0) = true := bne_iff_ne.2 he1
      have hln : (openL fs).1.length = 0 := by rw [hnil]; rfl
      rw [hln]
      generalize (openL fs).2 = er at he he1 he2
      go_wp2
      go_ret
      exact ⟨rfl, B4.out⟩
end Go.Proofs.YtkdikbenheagmaaDoor
