/-
  The walk of NonceCounts.
-/
import Derived.Test.YtgbjfmokfkdglaaNGroup2
set_option linter.unusedVariables false
set_option linter.unusedSimpArgs false
namespace Go.Proofs.Ytgbjfmokfkdglaa
open Go.RowKit

set_option maxRecDepth 100000 in
set_option maxHeartbeats 3200000 in
theorem groupCounts_any (a : Nat) (w : World) (ha : a < 18446744073709551616) :
    Calls Try.prog 36 #[.int .u64 (a : Nat)] w fun e w' => e = .returned (.bool true) ∧ Below w.heap.size w w' := by
  generalize hb : w.heap.size = b
  have HB := Lib.hid hb
  go_enter Try.func36, Try.ntmps36
  go_wp2_with fail
  refine (newGroup1 a b w HB.out).mono ?_
  rintro e w1 ⟨rfl, sb, P, cp, cs, h1⟩
  have H1 := Lib.hid h1
  clear h1 hb ha
  go_wp2_with fail
  go_loopw [5] (fun i wr => ∃ (k : Nat) (D : Option Addr) (cd m q : Nat), k ≤ 65535 ∧ i = .int .i64 ((k : Int) + 1) ∧ Hid (G1 w wr b sb P cp cs D cd k a m q ∧ (k = 0 → m = 0 ∧ q = 0) ∧ (0 < k → m = a ∧ q = k))) (fun i _ => 65536 - (intOf i).toNat)
  case atStart => exact ⟨0, none, 0, 0, 0, by omega, rfl, H1.out, fun _ => ⟨rfl, rfl⟩, fun h => by omega⟩
  case round =>
    obtain ⟨k, D, cd, m, q, hk, rfl, HR⟩ := hrel
    clear H1
    by_cases hk2 : k < 65535
    · have hi : (k : Int) + 1 ≤ 65535 := by omega
      obtain ⟨x, hx⟩ : ∃ x, nx a m q = x := ⟨_, rfl⟩
      have hxk : x = k + 1 := by
        rw [← hx]
        rcases Nat.eq_zero_or_pos k with h0 | h0
        · obtain ⟨h1, h2⟩ := HR.out.2.1 h0
          subst h1 h2 h0
          unfold nx; split <;> rfl
        · obtain ⟨h1, h2⟩ := HR.out.2.2 h0
          subst h1 h2
          unfold nx; rw [if_pos rfl]
      have hnf : ¬ (m = a ∧ q = 65535) := fun h => by
        rcases Nat.eq_zero_or_pos k with h0 | h0
        · have := HR.out.2.1 h0; omega
        · have := HR.out.2.2 h0; omega
      have hq2 : q ≤ 65535 := by
        rcases Nat.eq_zero_or_pos k with h0 | h0
        · have := HR.out.2.1 h0; omega
        · have := HR.out.2.2 h0; omega
      have F := Lib.hid (groupDraw1_ok w b sb P cp cs D cd k a m q x wr HR.out.1 hx hxk hnf hq2 hk)
      have HX : Hid (x ≤ k + 1 ∧ k + 1 ≤ x) := ⟨Nat.le_of_eq hxk, Nat.le_of_eq hxk.symm⟩
      have hw : IntKind.u64.wrap ((k : Int) + 1) = (k : Int) + 1 := by rw [IntKind.wrap_u64]; omega
      have hw2 : IntKind.i64.wrap ((k : Int) + 1 + 1) = (k : Int) + 1 + 1 := by rw [IntKind.wrap_i64]; omega
      have hxe : (x : Int) = (k : Int) + 1 := by omega
      have HW := Lib.hid (And.intro hw (And.intro hw2 hxe))
      clear hx hxk hnf hq2 hw hw2 hxe
      go_wp2_with fail
      refine F.out.mono ?_
      clear F
      rintro e w2 ⟨rfl, D2, cd2, g2⟩
      have G2 := Lib.hid g2
      clear g2
      obtain ⟨hw, hw2, hxe⟩ := HW.out
      go_wp2
      go_roundw
      case rel =>
        have hxk : x = k + 1 := by have := HX.out; omega
        have := G2.out.grow (World.grownBy_alloc w2 (.cells #[.int .u64 (a : Nat), .int .u64 (x : Nat)] 25) none)
        subst hxk
        refine ⟨k + 1, D2, cd2, a, k + 1, by omega, by simp, ?_, fun h => by omega, fun _ => ⟨rfl, rfl⟩⟩
        exact this
      case measure => simp [intOf]; omega
    · have HKK : Hid (k ≤ 65535 ∧ 65535 ≤ k) := ⟨hk, by omega⟩
      have hi : ¬ ((k : Int) + 1 ≤ 65535) := by omega
      obtain ⟨rfl, rfl⟩ := HR.out.2.2 (by omega)
      have F := Lib.hid (groupDraw1_err w b sb P cp cs D cd q m q wr HR.out.1 (by omega))
      clear hk hk2
      go_wp2_with fail
      refine F.out.mono ?_
      clear F hi
      rintro e w2 ⟨rfl, _, g2⟩
      have G2 := Lib.hid (g2.grow (World.grownBy_alloc w2 (.cells #[.int .u64 0, .int .u64 0] 25) none))
      have R2 := Lib.hid (Ob.fresh w2 #[.int .u64 0, .int .u64 0] 25)
      have F := Lib.hid (groupDrawn1 w b sb P cp cs D cd q m m q _ G2.out HKK.out.1)
      clear g2
      go_wp2_with fail
      refine F.out.mono ?_
      clear F
      rintro e w3 ⟨A, c, rfl, hb3, ho⟩
      have B3 : Hid (Below b w w3) := G2.out.bel.trans (hb3.mono (by have := G2.out.bel.size; have := HB.out; omega))
      have R3 := Lib.hid (R2.out.below hb3)
      obtain ⟨gg, cap, hv, _, _⟩ := ho.form (by have := HKK.out; omega)
      cases hv
      have hcell : w3.cell? ⟨gg, 196604, none⟩ = some (.int .u64 65535) := by
        have h1 := ho.cells (g := gg) rfl _ _ (SVk_get m q 65534 (by have := HKK.out; omega))
        have e1 : (65534 * 3 + 2 : Nat) = 196604 := rfl
        have e2 : ((65534 + 1 : Nat) : Int) = 65535 := rfl
        rw [e1, e2] at h1
        exact h1
      have hlen : (q : Int) = 65535 := by have := HKK.out; omega
      have hidx : (65534 : Int) < (q : Int) := by omega
      have y0 := R3.out.cell 0 rfl
      have y1 := R3.out.cell 1 rfl
      clear hb3 ho HR G2 R2
      go_wp2_with fail
      go_ret
      exact ⟨rfl, B3.out⟩

/-- a clock at block B and a Pairs over it -/
def Cp (W wr : World) (B a m q : Nat) : Prop := Ob wr B [.int .u64 (a : Nat)] ∧ Ob wr (B + 1) [.pointer (some ⟨B, 0, none⟩), .int .u64 (m : Nat), .int .u64 (q : Nat)] ∧ Below B W wr ∧ B + 2 ≤ wr.heap.size
theorem Cp.grow {W wr w' : World} {B a m q : Nat} (h : Cp W wr B a m q) (g : wr.grownBy w' none) : Cp W w' B a m q :=
  ⟨h.1.kept g (by simp), h.2.1.kept g (by simp), h.2.2.1.trans (grown_below_drop g (by have := h.2.2.2; omega)), Nat.le_trans h.2.2.2 g.size⟩
theorem Cp.pairs {W wr w' : World} {B a m q m' q' : Nat} (h : Cp W wr B a m q) (g : wr.grownBy w' (some (B + 1))) (o : Ob w' (B + 1) [.pointer (some ⟨B, 0, none⟩), .int .u64 (m' : Nat), .int .u64 (q' : Nat)]) : Cp W w' B a m' q' :=
  ⟨h.1.kept g (by simp), o, h.2.2.1.trans (Below.of_grown g (by omega) (by have := h.2.2.2; omega)), Nat.le_trans h.2.2.2 g.size⟩
theorem Cp.clock {W wr w' : World} {B a m q a' : Nat} (h : Cp W wr B a m q) (g : wr.grownBy w' (some B)) (o : Ob w' B [.int .u64 (a' : Nat)]) : Cp W w' B a' m q :=
  ⟨o, h.2.1.kept g (by simp), h.2.2.1.trans (Below.of_grown g (Nat.le_refl _) (by have := h.2.2.2; omega)), Nat.le_trans h.2.2.2 g.size⟩
set_option maxRecDepth 100000 in
set_option maxHeartbeats 3200000 in
theorem nonceCounts_walk (a e : Int) (W : World) (wa : (Lit.int .u64 a).wf = true) (we : (Lit.int .u8 e).wf = true) :
    Calls Try.prog 9 #[.int .u64 a, .int .u8 e] W fun e w' => e = .returned (.bool true) ∧ Below W.heap.size W w' := by
  have ba := bounds_u64 wa
  have be := bounds_u8 we
  obtain ⟨a, rfl⟩ : ∃ k : Nat, a = (k : Int) := ⟨a.toNat, by omega⟩
  have HLA := Lib.hid (show a < 18446744073709551616 by omega)
  obtain ⟨e, rfl⟩ : ∃ k : Nat, e = (k : Int) := ⟨e.toNat, by omega⟩
  obtain ⟨r, hr1, hr2⟩ : ∃ r : Nat, (wrap64 (e : Int)).tmod 4 = (r : Int) ∧ r < 4 := ⟨e % 4, by
    have h1 : wrap64 (e : Int) = (e : Int) := by unfold wrap64; omega
    rw [h1, Int.tmod_eq_emod_of_nonneg (by omega)]
    omega, by omega⟩
  have HR1 := Lib.hid hr1
  clear hr1
  clear wa we ba be
  generalize hB : W.heap.size = B
  have HB := Lib.hid hB
  go_enter Try.func9, Try.ntmps9
  go_wp2_with fail
  refine (newClock_at (a : Nat) W (B + 0) HB.out).mono ?_
  rintro e w1 ⟨rfl, g, z, o⟩
  have z1 : Hid (w1.heap.size = B + 1) := z
  have o1 : Hid (Ob w1 (B + 0) [.int .u64 (a : Nat)]) := o
  have d1 : Hid (Below B W w1) := grown_below_drop g (by have := HB.out; omega)
  clear g z o
  go_wp2_with fail
  refine (newPairs_at (B + 0) w1 (B + 1) z1.out).mono ?_
  rintro e w2 ⟨rfl, g, z, o⟩
  have R2 : Hid (Cp W w2 B a 0 0) := ⟨o1.out.kept g (by simp), o, d1.out.trans (grown_below_drop g (by have := z1.out; omega)), by omega⟩
  clear g z o z1 o1 d1
  go_wp2_with fail
  go_loopw [8] (fun i wr => ∃ (k m q : Nat), k ≤ 65535 ∧ i = .int .i64 ((k : Int) + 1) ∧ Hid (Cp W wr B a m q ∧ (k = 0 → m = 0 ∧ q = 0) ∧ (0 < k → m = a ∧ q = k))) (fun i _ => 65536 - (intOf i).toNat)
  case atStart => exact ⟨0, 0, 0, by omega, rfl, R2.out, fun _ => ⟨rfl, rfl⟩, fun h => by omega⟩
  case round =>
    obtain ⟨k, m, q, hk, rfl, HR⟩ := hrel
    clear R2
    by_cases hk2 : k < 65535
    · have hi : (k : Int) + 1 ≤ 65535 := by omega
      obtain ⟨x, hx⟩ : ∃ x, nx a m q = x := ⟨_, rfl⟩
      have hxk : x = k + 1 := by
        rw [← hx]
        rcases Nat.eq_zero_or_pos k with h0 | h0
        · obtain ⟨h1, h2⟩ := HR.out.2.1 h0
          subst h1 h2 h0
          unfold nx; split <;> rfl
        · obtain ⟨h1, h2⟩ := HR.out.2.2 h0
          subst h1 h2
          unfold nx; rw [if_pos rfl]
      have hnf : ¬ (m = a ∧ q = 65535) := fun h => by
        rcases Nat.eq_zero_or_pos k with h0 | h0
        · have := HR.out.2.1 h0; omega
        · have := HR.out.2.2 h0; omega
      have hq2 : q ≤ 65535 := by
        rcases Nat.eq_zero_or_pos k with h0 | h0
        · have := HR.out.2.1 h0; omega
        · have := HR.out.2.2 h0; omega
      have F := draw_any (B + 1) (B + 0) a m q wr HR.out.1.1 HR.out.1.2.1 (by omega) hq2
      rw [pDraw_ok' hnf, hx] at F
      have F := Lib.hid F
      have HX : Hid (x ≤ k + 1 ∧ k + 1 ≤ x) := ⟨Nat.le_of_eq hxk, Nat.le_of_eq hxk.symm⟩
      have hw : IntKind.u64.wrap ((k : Int) + 1) = (k : Int) + 1 := by rw [IntKind.wrap_u64]; omega
      have hw2 : IntKind.i64.wrap ((k : Int) + 1 + 1) = (k : Int) + 1 + 1 := by rw [IntKind.wrap_i64]; omega
      have hxe : (x : Int) = (k : Int) + 1 := by omega
      have HW := Lib.hid (And.intro hw (And.intro hw2 hxe))
      clear hx hxk hnf hq2 hw hw2 hxe
      go_wp2_with fail
      refine F.out.mono ?_
      clear F
      rintro e w2 ⟨rfl, g, o⟩
      have G2 := Lib.hid (HR.out.1.pairs g o)
      clear g o
      obtain ⟨hw, hw2, hxe⟩ := HW.out
      go_wp2
      go_roundw
      case rel =>
        have hxk : x = k + 1 := by have := HX.out; omega
        have := G2.out.grow (World.grownBy_alloc w2 (.cells #[.int .u64 (a : Nat), .int .u64 (x : Nat)] 25) none)
        subst hxk
        exact ⟨k + 1, a, k + 1, by omega, by simp, this, fun h => by omega, fun _ => ⟨rfl, rfl⟩⟩
      case measure => simp [intOf]; omega
    · have HKK : Hid (k ≤ 65535 ∧ 65535 ≤ k) := ⟨hk, by omega⟩
      have hi : ¬ ((k : Int) + 1 ≤ 65535) := by omega
      obtain ⟨rfl, rfl⟩ := HR.out.2.2 (by omega)
      have C1 := Lib.hid HR.out.1
      clear hk hk2 HR
      go_wp2_with fail
      clear hi
      go_loopw [11] (fun i wy => ∃ (j : Nat), j ≤ 5 ∧ i = .int .i64 j ∧ Hid (Cp W wy B m m q)) (fun i _ => 5 - (intOf i).toNat)
      case atStart => exact ⟨0, by omega, rfl, C1⟩
      case round =>
        obtain ⟨j, hj, rfl, HY⟩ := hrel
        clear C1
        by_cases hje : (j : Int) ≤ (r : Int)
        · have hj4 : j < 5 := by omega
          have hr1 := HR1.out
          go_wp2_with fail
          refine (draw_full (B + 1) (B + 0) m m q _ HY.out.1 HY.out.2.1 (by omega) rfl (by have := HKK.out; omega)).mono ?_
          rintro e2 v1 ⟨rfl, g, o⟩
          rw [show (65535 : Nat) = q by have := HKK.out; omega] at o
          have Y1 := Lib.hid (HY.out.pairs g o)
          clear g o
          have e1 : IntKind.i64.wrap ((j : Int) + 1) = (j : Int) + 1 := by rw [IntKind.wrap_i64]; omega
          go_wp2
          go_roundw
          case rel => exact ⟨j + 1, by omega, by go_num, Y1.out.grow (World.grownBy_alloc v1 _ none)⟩
          case measure => simp [intOf]; omega
        · have hr1 := HR1.out
          have F := Lib.hid (groupCounts_any m wr HLA.out)
          go_wp2_with fail
          refine F.out.mono ?_
          clear F hr1 hje
          rintro e2 v1 ⟨rfl, hb⟩
          have Y1 := Lib.hid (HY.out.grow (grown_of_below hb none))
          clear hb HY
          go_wp2_with fail
          by_cases hmax : m = 18446744073709551615
          · have hp : cPass m 1 = (20, m) := by unfold cPass; rw [if_pos (by omega)]
            have hmx : (m : Int) = 18446744073709551615 := by omega
            have F := pass_any (B + 0) m 1 v1 Y1.out.1 HLA.out (by decide)
            rw [hp] at F
            have F := Lib.hid F
            clear hp hmax
            refine F.out.mono ?_
            clear F
            rintro e2 v2 ⟨rfl, g, _, o⟩
            have Y2 := Lib.hid (Y1.out.clock g o)
            clear g o
            go_wp2_with fail
            refine (draw_full (B + 1) (B + 0) m m q _ Y2.out.1 Y2.out.2.1 (by omega) rfl (by have := HKK.out; omega)).mono ?_
            rintro e2 v3 ⟨rfl, g, o⟩
            rw [show (65535 : Nat) = q by have := HKK.out; omega] at o
            have Y3 := Lib.hid (Y2.out.pairs g o)
            clear g o
            go_wp2
            go_ret
            exact ⟨rfl, (Y3.out.grow (World.grownBy_alloc v3 (.cells #[.int .u64 0, .int .u64 0] 25) none)).2.2.1⟩
          · have hlt := HLA.out
            have hp : cPass m 1 = (0, m + 1) := by unfold cPass; rw [if_neg (by omega)]
            have hmx : ((m : Int) == 18446744073709551615) = false := beq_eq_false_iff_ne.2 (by omega)
            have F := pass_any (B + 0) m 1 v1 Y1.out.1 HLA.out (by decide)
            rw [hp] at F
            have F := Lib.hid F
            have hw : IntKind.u64.wrap ((m : Int) + 1) = (m : Int) + 1 := by rw [IntKind.wrap_u64]; omega
            have HMX := Lib.hid (And.intro hmx hw)
            clear hp hmax hlt hmx hw
            refine F.out.mono ?_
            clear F
            rintro e2 v2 ⟨rfl, g, _, o⟩
            have Y2 := Lib.hid (Y1.out.clock g o)
            clear g o
            go_wp2_with fail
            refine (draw_new (B + 1) (B + 0) (m + 1) m q _ Y2.out.1 Y2.out.2.1 (by omega) (by omega)).mono ?_
            rintro e2 v3 ⟨rfl, g, o⟩
            have Y3 := Lib.hid (Y2.out.pairs g o)
            clear g o
            obtain ⟨hmx, hw⟩ := HMX.out
            go_wp2
            go_ret
            exact ⟨rfl, (Y3.out.grow (World.grownBy_alloc v3 _ none)).2.2.1⟩
end Go.Proofs.Ytgbjfmokfkdglaa
