/-
  The walk of NonceGroupFresh.
-/
import Derived.Test.YtgbjfmokfkdglaaNGf
set_option linter.unusedVariables false
set_option linter.unusedSimpArgs false
namespace Go.Proofs.Ytgbjfmokfkdglaa
open Go.RowKit

theorem newGroup_at (x y : Int) (a b n : Nat) (w : World) (hx : x = n) (hy : y = a) (hb : w.heap.size = b) (h1 : 1 ≤ n) (h7 : n ≤ 7) :
    Calls Try.prog 38 #[.int .i64 1, .int .i64 x, .int .u64 y] w fun e w' => e = .returned (.tuple #[Pb b, .int .i64 0]) ∧ ∃ B sb pb pp cp cs, GrB w B b sb pb (b + 1) n pp ∧ Gr w B b sb pb (b + 1) n pp cp cs w' none 0 [] a (fun _ => (0, 0)) := by
  subst hx hy
  exact newGroup_any a b n w hb h1 h7
theorem within_at (k x : Int) (m : Nat) (w : World) (hx : x = m) (hm : m ≤ 1000) (wk : (Lit.int .i64 k).wf = true) :
    Calls Try.prog 37 #[.int .i64 k, .int .i64 x] w fun e w' => (∃ r : Nat, r ≤ m ∧ e = .returned (.int .i64 (r : Nat))) ∧ w = w' := by
  subst hx
  exact within_any k m w hm wk
theorem mk_bools (w : World) (n : Nat) (hn : n ≤ 7) : (Instr.makeSlice 49 (.int .i64 (n : Int)) (.int .i64 (n : Int))).run Try.prog w = .ok (.slice (some ⟨w.heap.size, 0, none⟩) n n) (w.alloc (.cells (madeCells #[.bool false] n) 4)) := by
  obtain ⟨i0, hi, hz0, hz1, hz2⟩ := info_parts (show (Try.prog.info? 4).map (fun i => (i.zero, i.size, i.bytes)) = some (some (.bool false), 1, 1) by kernel_rfl)
  have := run_make (P := Try.prog) w 49 4 i0 (.bool false) Try.underlying49 hi hz0 .i64 .i64 (n : Int) (n : Int) (by omega) (Int.le_refl _) (by rw [hz2]; omega) (by omega)
  rw [hz1] at this
  simpa [Value.cells] using this
theorem mk_ints (w : World) (n : Nat) (hn : n ≤ 7) : (Instr.makeSlice 93 (.int .i64 (n : Int)) (.int .i64 (n : Int))).run Try.prog w = .ok (.slice (some ⟨w.heap.size, 0, none⟩) n n) (w.alloc (.cells (madeCells #[.int .i64 0] n) 3)) := by
  obtain ⟨i0, hi, hz0, hz1, hz2⟩ := info_parts (show (Try.prog.info? 3).map (fun i => (i.zero, i.size, i.bytes)) = some (some (.int .i64 0), 1, 8) by kernel_rfl)
  have := run_make (P := Try.prog) w 93 3 i0 (.int .i64 0) Try.underlying93 hi hz0 .i64 .i64 (n : Int) (n : Int) (by omega) (Int.le_refl _) (by rw [hz2]; omega) (by omega)
  rw [hz1] at this
  simpa [Value.cells] using this
theorem grpPass_ok (W : World) (B b sb pb c n : Nat) (pp : Nat → Nat) (cp cs : Nat) (w : World) (D : Option Addr) (cd : Nat) (l : List St) (a : Nat) (mq : Nat → Nat × Nat) (y : Int) (z : Nat) (h : Gr W B b sb pb c n pp cp cs w D cd l a mq) (hg : GrB W B b sb pb c n pp) (hy : y = z) (ha : a + z < 18446744073709551616) :
    Calls Try.prog 39 #[Pb b, .int .u64 y] w fun e w' => e = .returned (.int .i64 0) ∧ Gr W B b sb pb c n pp cp cs w' D cd l (a + z) mq ∧ GrS B (.slice D l.length cd) w w' (.slice D l.length cd) := by
  have F := grpPass_any W B b sb pb c n pp cp cs w D cd l a mq z h hg (by omega) (by omega)
  rw [cPass_ok (by omega)] at F
  subst hy
  exact F
/-- Draw, with the rows beside it -/
theorem fsDraw (W : World) (B b sb pb c n : Nat) (pp : Nat → Nat) (cp cs bw bc : Nat) (w : World) (D : Option Addr) (cd : Nat) (l : List St) (aa : Nat) (mq : Nat → Nat × Nat) (wi : Nat → Bool) (cn : Nat → Nat) (k xx : Nat) (h : Fs W B b sb pb c n pp cp cs bw bc w D cd l aa mq wi cn) (hk : k < n) (hn : n ≤ 7) (hx : nx aa (mq k).1 (mq k).2 = xx) (hq : (mq k).2 ≤ 60000) (hl : l.length ≤ 2000) :
    Calls Try.prog 41 #[Pb b, .int .i64 (k : Nat)] w fun e w' => e = .returned (.tuple #[.agg #[.int .u64 (aa : Nat), .int .u64 (xx : Nat)], .int .i64 0]) ∧ ∃ D' cd', Fs W B b sb pb c n pp cp cs bw bc w' D' cd' (l ++ [((k : Int), aa, xx)]) aa (fun i => if i = k then (aa, xx) else mq i) wi cn ∧ GrS B (.slice D l.length cd) w w' (.slice D' (l ++ [((k : Int), aa, xx)]).length cd') :=
  (grpDraw_ok W B b sb pb c n pp cp cs w D cd l aa mq k xx h.g h.hg hk hn hx (fun e => by omega) (by omega) (by omega)).mono fun e w' ⟨he, D', cd', g, s⟩ => ⟨he, D', cd', h.step g s, s⟩
theorem wf_of {n : Int} (h1 : -9223372036854775808 ≤ n) (h2 : n ≤ 9223372036854775807) : (Lit.int .i64 n).wf = true := WalkArith.wf_i64 ⟨h1, h2⟩
theorem cntOf_take {k : Nat} {l : List St} {i : Nat} {x : St} (h : l[i]? = some x) : cntOf k (l.take (i + 1)) = cntOf k (l.take i) + if x.1 = (k : Int) then 1 else 0 := by
  obtain ⟨hi, e⟩ := List.getElem?_eq_some_iff.1 h
  rw [List.take_succ_eq_append_getElem hi, e, cntOf_push]
theorem cntOf_le (k : Nat) (l : List St) : cntOf k l ≤ l.length := List.length_filter_le _ _
theorem pa_le (b : Bool) (a : Nat) : a ≤ pa b a ∧ pa b a ≤ a + 1 := by cases b <;> simp [pa]
set_option maxRecDepth 100000 in
set_option maxHeartbeats 3200000 in
theorem nonceGroupFresh_walk (nd s : Int) (A : Option Addr) (N c : Nat) (L : List (Int × Int × Nat)) (lz : Bool) (W : World) (wn : (Lit.int .i64 nd).wf = true) (ws : (Lit.int .u64 s).wf = true) (hl : RdC 3 av W A N L) (hA : A = none → N = 0 ∧ c = 0) (hok : ∀ x ∈ L, AOk x) (hsm : N * 24 ≤ 140737488351232) :
    Calls Try.prog 10 #[.int .i64 nd, .int .u64 s, .slice A N c, .bool lz] W fun e w' => e = .returned (.bool true) ∧ Below W.heap.size W w' := by
  have HL := Lib.hid hl
  have HOK := Lib.hid hok
  have HSM := Lib.hid hsm
  have HWS := Lib.hid ws
  have s0 : 0 ≤ s := (bounds_u64 ws).1
  clear hl hA hok hsm ws
  go_enter Try.func10, Try.ntmps10
  go_wp2_with fail
  refine (within_at nd _ 6 W rfl (by omega) wn).mono ?_
  rintro e w' ⟨⟨r, hr, rfl⟩, rfl⟩
  have r0 : (0 : Int) ≤ (r : Int) := by omega
  have r6 : (r : Int) ≤ 6 := by omega
  go_wp2_with fail
  obtain ⟨n, hn⟩ : ∃ n : Nat, 1 + (r : Int) = n := ⟨1 + r, by omega⟩
  obtain ⟨a, hae⟩ : ∃ a : Nat, 1 + s % 4611686018427387904 = a := ⟨(1 + s % 4611686018427387904).toNat, by omega⟩
  rw [hn, hae]
  have HA0 : Hid (1 ≤ a ∧ a ≤ 4611686018427387904) := ⟨by omega, by omega⟩
  have n1 : (1 : Int) ≤ (n : Int) := by omega
  have n7 : (n : Int) ≤ 7 := by omega
  have HN7 : Hid (1 ≤ n ∧ n ≤ 7) := ⟨by omega, by omega⟩
  clear hn hae r0 r6 hr s0
  obtain ⟨b, hb⟩ : ∃ b, W.heap.size = b := ⟨_, rfl⟩
  have HB0 := Lib.hid hb
  clear hb
  refine (newGroup_at _ _ a b n W rfl rfl HB0.out HN7.out.1 HN7.out.2).mono ?_
  rintro e w1 ⟨rfl, B, sb, pb, pp, cp, cs, hg, g⟩
  have HG := Lib.hid hg
  have G1 := Lib.hid g
  have hm1 := fun w => mk_bools w n HN7.out.2
  have hm2 := fun w => mk_ints w n HN7.out.2
  clear hg g
  go_wp2_with fail
  have F2 : Hid (Fs W B b sb pb (b + 1) n pp cp cs w1.heap.size (w1.heap.size + 1) ((w1.alloc (.cells (madeCells #[.bool false] n) 4)).alloc (.cells (madeCells #[.int .i64 0] n) 3)) none 0 [] a (fun _ => (0, 0)) (fun _ => false) (fun _ => 0)) := by
    refine ⟨(G1.out.grow HG.out (World.grownBy_alloc _ _ none)).grow HG.out (World.grownBy_alloc _ _ none), HG.out, ?_, ?_, ⟨G1.out.sz, Nat.le_succ_of_le G1.out.sz, by omega⟩, fun j e => (nomatch e), HN7.out.1⟩
    · rw [← bRow_zero]; exact (Ob.fresh w1 _ _).alloc _
    · rw [← iRow_zero, ← World.size_alloc w1 (.cells (madeCells #[.bool false] n) 4)]; exact Ob.fresh _ _ _
  obtain ⟨bw, hbw⟩ : ∃ x, w1.heap.size = x := ⟨_, rfl⟩
  obtain ⟨bc, hbc⟩ : ∃ x, bw + 1 = x := ⟨_, rfl⟩
  rw [hbw, hbc] at F2 ⊢
  generalize (w1.alloc (.cells (madeCells #[.bool false] n) 4)).alloc (.cells (madeCells #[.int .i64 0] n) 3) = w2 at F2 ⊢
  clear hbw hbc hm1 hm2 G1 HB0
  have HNL : Hid (L.length = N) := HL.out.len
  go_loopw [15] (fun iv wr => ∃ (k a' : Nat) (D : Option Addr) (cd : Nat) (l : List St) (mq : Nat → Nat × Nat) (wi : Nat → Bool) (cn : Nat → Nat), k ≤ N ∧ k ≤ 1000 ∧ iv = .int .i64 k ∧ Hid (Fs W B b sb pb (b + 1) n pp cp cs bw bc wr D cd l a' mq wi cn ∧ Fi n a a' k l mq wi cn)) (fun iv _ => N - (intOf iv).toNat)
  case atStart => exact ⟨0, a, none, 0, [], _, _, _, by omega, by omega, rfl, F2.out, Fi.start HA0.out.1 HA0.out.2⟩
  case round =>
    obtain ⟨k, a', D, cd, l, mq, wi, cn, hk, hk1, rfl, HF⟩ := hrel
    clear F2 HA0
    by_cases hkn : k < N ∧ k < 1000
    · obtain ⟨hkN, hk1000⟩ := hkn
      obtain ⟨x, hx⟩ : ∃ x, L[k]? = some x := ⟨_, List.getElem?_eq_getElem (by have := HNL.out; omega)⟩
      have HXO := Lib.hid (HOK.out x (List.mem_of_getElem? hx))
      obtain ⟨ad, rfl, g0, g1, g2⟩ := (HL.out.below HF.out.1.g.bel).act hx
      have HK : Hid (k < 1000) := hk1000
      have e1 : IntKind.i64.wrap ((k : Int) + 1) = (k : Int) + 1 := by rw [IntKind.wrap_i64]; omega
      have E1 := Lib.hid e1
      have h1 : (k : Int) < 1000 := by omega
      have h2 : (k : Int) < (N : Int) := by omega
      have h3 : (k : Int) + 1 ≤ 1000 := by omega
      clear hx e1
      go_wp2_with fail
      obtain ⟨kd, x1, x2⟩ := x
      refine (within_at x1 _ (n - 1) _ (by have := HN7.out; omega) (by have := HN7.out; omega) HXO.out.1).mono ?_
      rintro e w' ⟨⟨q, hq, rfl⟩, rfl⟩
      have HQ : Hid (q < n) := by have := HN7.out; simp only [Hid]; omega
      have q0 : (0 : Int) ≤ (q : Int) := by omega
      have q1 : (q : Int) < (n : Int) := by have := HN7.out; omega
      have HZ : Hid (x2 % 1073741824 < 1073741824) := Nat.mod_lt _ (by decide)
      clear hq
      have e1 := E1.out
      by_cases hk01 : kd = 0 ∨ kd = 1
      · rcases hk01 with rfl | rfl
        all_goals
          go_wp2_with fail
          refine (grpPass_ok W B b sb pb (b + 1) n pp cp cs _ D cd l a' mq _ (x2 % 1073741824) HF.out.1.g HF.out.1.hg (by omega) (by have := HF.out.2.room; have := HZ.out; omega)).mono ?_
          rintro e w' ⟨rfl, g, s⟩
          have F3 := Lib.hid (HF.out.1.step g s)
          clear g s g0 g1 g2
          go_wp2
          go_roundw
          case rel => exact ⟨k + 1, _, _, _, _, _, _, _, by omega, by omega, by go_num, F3.out, HF.out.2.pass HK.out HZ.out⟩
          case measure => simp [intOf]; omega
      · have hb0 : (kd == 0) = false := beq_eq_false_iff_ne.2 (fun e => hk01 (.inl e))
        have hb1 : (kd == 1) = false := beq_eq_false_iff_ne.2 (fun e => hk01 (.inr e))
        clear hk01
        by_cases hk2 : kd = 2
        · subst hk2
          go_wp2_with fail
          refine (grpWipe_any W B b sb pb (b + 1) n pp cp cs _ D cd l a' mq q HF.out.1.g HF.out.1.hg HQ.out HN7.out.2).mono ?_
          rintro e w' ⟨rfl, g, s⟩
          have F3 := Lib.hid (HF.out.1.step g s)
          have c0 := F3.out.ow.cell q (bRow_get _ HQ.out)
          have f0 := F3.out.ow.fr q (by rw [bRow_len]; exact HQ.out)
          clear g s g0 g1 g2
          go_wp2
          go_roundw
          case rel => exact ⟨k + 1, _, _, _, _, _, _, _, by omega, by omega, by go_num, F3.out.setW HQ.out true, HF.out.2.wipe HK.out q⟩
          case measure => simp [intOf]; omega
        · have hb2 : (kd == 2) = false := beq_eq_false_iff_ne.2 hk2
          clear hk2
          have c0 := HF.out.1.ow.cell q (bRow_get _ HQ.out)
          have HP0 := Lib.hid (HF.out.2.room)
          have HL1 : Hid (l.length ≤ 1000) := Nat.le_trans HF.out.2.len hk1
          have HCN : Hid (cn q ≤ 1000) := by have h1 := HF.out.2.cnt q HQ.out; have h2 := cntOf_le q l; have := HL1.out; simp only [Hid]; omega
          have HAA : Hid (a ≤ pa (wi q) a') := Nat.le_trans HF.out.2.lo (pa_le _ _).1
          have HM : Hid ((mq q).2 ≤ 60000) := by have := (HF.out.2.mem q HQ.out).2; simp only [Hid]; omega
          have HD := Lib.hid (HF.out.2.draw HK.out HQ.out)
          cases hw : wi q
          case' true =>
            have HPA : Hid (a' + 1 = pa (wi q) a') := by rw [hw]; rfl
            rw [hw] at c0
            clear hw
            go_wp2_with fail
            refine (grpPass_ok W B b sb pb (b + 1) n pp cp cs _ D cd l a' mq 1 1 HF.out.1.g HF.out.1.hg rfl (by have := HP0.out; omega)).mono ?_
            rintro e w' ⟨rfl, g, s⟩
            have F3 := HF.out.1.step g s
            rw [HPA.out] at F3
            have F3 := Lib.hid F3
            have f3 := F3.out.ow.fr q (by rw [bRow_len]; exact HQ.out)
            have c3 := F3.out.ow.cell q (bRow_get _ HQ.out)
            clear g s g0 g1 g2 c0
            go_wp2_with fail
            have F5 := Lib.hid (F3.out.setW HQ.out false)
            clear f3 c3 F3
          case' false =>
            have HPA : Hid (a' = pa (wi q) a') := by rw [hw]; rfl
            rw [hw] at c0
            clear hw
            have f0 := HF.out.1.ow.fr q (by rw [bRow_len]; exact HQ.out)
            go_wp2_with fail
            have F5 := HF.out.1.setW HQ.out false
            rw [HPA.out] at F5
            have F5 := Lib.hid F5
            clear c0 f0 g0 g1 g2
          all_goals
            generalize pa (wi q) a' = aa at F5 HAA HD
            generalize hxx : nx aa (mq q).1 (mq q).2 = xx at HD
            refine (fsDraw _ _ _ _ _ _ _ _ _ _ _ _ _ _ _ _ _ _ _ _ q xx F5.out HQ.out HN7.out.2 hxx HM.out (Nat.le_trans HL1.out (by omega))).mono ?_
            rintro e w5 ⟨rfl, D', cd', F6, _⟩
            have F6 := Lib.hid F6
            clear F5 HPA hxx
            have haa : ¬ (aa : Int) < (a : Int) := by have := HAA.out; omega
            have c4 := F6.out.oc.cell q (iRow_get _ HQ.out)
            have f4 := F6.out.oc.fr q (by rw [iRow_len]; exact HQ.out)
            have hc4 : (cn q : Int) + 1 ≤ 1001 := by have := HCN.out; omega
            have l4 := World.block_lt_of_cell? _ _ c4
            go_wp2_with fail
            go_roundw
            case rel => exact ⟨k + 1, _, _, _, _, _, _, _, by omega, by omega, by go_num, (F6.out.setC' HQ.out (cn q + 1) (by omega)).grow (World.grownBy_alloc _ _ none), HD.out⟩
            case measure => simp [intOf]; omega
    · have hkk : ¬ ((k : Int) < (N : Int) ∧ (k : Int) < 1000) := by omega
      have hd : (decide ((k : Int) < (N : Int)) && decide ((k : Int) < 1000)) = false := by simpa using hkk
      have FF := Lib.hid HF.out.1
      have FI := Lib.hid HF.out.2
      have HL2 : Hid (l.length * 24 ≤ 140737488351232) := by have := HF.out.2.len; simp only [Hid]; omega
      have hl2 : (l.length : Int) ≤ 1000 := by have := HF.out.2.len; omega
      by_cases hkn2 : (k : Int) < (N : Int)
      case' pos =>
        have h1000 : ¬ (k : Int) < 1000 := fun e => hkk ⟨hkn2, e⟩
      all_goals
        clear hd hkk hkn HF
        go_wp2_with fail
        refine (grpDrawn_any W B b sb pb (b + 1) n pp cp cs _ D cd l a' mq FF.out.g (by have := HL2.out; omega)).mono ?_
        rintro e w3 ⟨Al, cl, rfl, hg3, ho3⟩
        have F3 := Lib.hid (FF.out.grow hg3)
        have R3 := Lib.hid (rds_own (by rw [SVL_SVx] at ho3; exact ho3) rfl)
        clear hg3 ho3 FF
        go_wp2_with fail
        refine (fresh_any Al l.length cl l w3 R3.out (fun x hx => by obtain ⟨h1, h2, _⟩ := FI.out.nod x hx; have := HN7.out; exact wf_of (by omega) (by omega)) HL2.out).mono ?_
        rintro e w4 ⟨⟨b1, k1, hfb, rfl⟩, hb4⟩
        obtain ⟨rfl, rfl⟩ := FI.out.good.first hfb
        have F4 := Lib.hid (F3.out.grow (grown_of_below hb4 none))
        have R4 := Lib.hid (R3.out.below hb4)
        clear hfb hb4 F3 R3
        go_wp2_with fail
        go_loopw [22] (fun jv wr => ∃ (j m : Nat), j ≤ n ∧ jv = .int .i64 j ∧ Hid (wr = w4.drewN m)) (fun jv _ => n - (intOf jv).toNat)
        case atStart => exact ⟨0, 0, by omega, rfl, rfl⟩
        case round =>
          obtain ⟨j, m, hj, rfl, HR⟩ := hrel
          by_cases hjn : j < n
          · have hji : (j : Int) < (n : Int) := by omega
            have HJ := Lib.hid hjn
            clear hjn hj
            go_wp2_with fail
            go_loopw [23, 24] (fun mv iv wr => ∃ (i m : Nat), i ≤ l.length ∧ iv = .int .i64 i ∧ mv = .int .i64 (cntOf j (l.take i) : Nat) ∧ Hid (wr = w4.drewN m)) (fun _ iv _ => l.length - (intOf iv).toNat)
            case atStart => exact ⟨0, m, by omega, rfl, rfl, HR.out⟩
            case round =>
              obtain ⟨i, m, hi, rfl, rfl, HR2⟩ := hrel
              clear HR
              by_cases hil : i < l.length
              · obtain ⟨x, hx⟩ : ∃ x, l[i]? = some x := ⟨_, List.getElem?_eq_getElem hil⟩
                obtain ⟨ad, rfl, g0, _, _⟩ := R4.out.three hx
                have q0 : wr.cell? (ad.add (i * 3)) = some (.int .i64 x.1) := HR2.out ▸ g0
                have HCT := Lib.hid (cntOf_take (k := j) hx)
                have hii : (i : Int) < (l.length : Int) := by omega
                have hi3 : (i : Int) + 1 ≤ 1001 := by omega
                have HIL := Lib.hid hil
                have hcl : (cntOf j (l.take i) : Int) ≤ 1000 := by have := cntOf_le j (l.take i); rw [List.length_take] at this; omega
                obtain ⟨x0, x1, x2⟩ := x
                by_cases hxj : x0 = (j : Int)
                · have HC2 : Hid (cntOf j (l.take (i + 1)) = cntOf j (l.take i) + 1) := by have := HCT.out; rwa [if_pos hxj] at this
                  have hb : (x0 == (j : Int)) = true := beq_iff_eq.2 hxj
                  clear g0 hx hil hxj HCT hi
                  go_wp2_with fail
                  go_roundw
                  case rel => exact ⟨i + 1, m, HIL.out, by go_num, by rw [HC2.out]; go_num, HR2.out⟩
                  case measure => simp [intOf]; omega
                · have HC2 : Hid (cntOf j (l.take (i + 1)) = cntOf j (l.take i)) := by have := HCT.out; rwa [if_neg hxj] at this
                  have hb : (x0 == (j : Int)) = false := beq_eq_false_iff_ne.2 hxj
                  clear g0 hx hil hxj HCT hi
                  go_wp2_with fail
                  go_roundw
                  case rel => exact ⟨i + 1, m, HIL.out, by go_num, by rw [HC2.out], HR2.out⟩
                  case measure => simp [intOf]; omega
              · have hil' : i = l.length := by omega
                have hii : ¬ (i : Int) < (l.length : Int) := by omega
                have c0 := ((F4.out.oc.drewN m).cell j (iRow_get _ HJ.out))
                rw [← HR2.out, FI.out.cnt j HJ.out] at c0
                have ht : cntOf j (l.take i) = cntOf j l := by rw [hil', List.take_length]
                rw [ht]
                clear ht hil hil' hi
                go_wp2_with fail
                go_roundw
                case rel => exact ⟨j + 1, m, HJ.out, by go_num, HR2.out⟩
                case measure => have := HJ.out; simp [intOf]; omega
          · obtain rfl : j = n := by omega
            have F5 : Hid (Fs W B b sb pb (b + 1) j pp cp cs bw bc wr D cd l a' mq wi cn) := by rw [HR.out]; exact F4.out.grow (grown_drewN (World.grownBy.refl _ none) m)
            clear HR F4 R4 hj hjn
            cases lz with
            | false =>
              go_wp2_with fail
              go_ret
              exact ⟨rfl, F5.out.g.bel⟩
            | true =>
              have HP0 := Lib.hid (FI.out.room)
              have HL1 : Hid (l.length ≤ 1000) := by simp only [Hid]; omega
              have HM : Hid ((mq 0).2 ≤ 60000) := by have := (FI.out.mem 0 HN7.out.1).2; have := FI.out.i1; simp only [Hid]; omega
              have HD := Lib.hid (FI.out.fine HN7.out.1)
              have c0 := F5.out.ow.cell 0 (bRow_get _ HN7.out.1)
              cases hw : wi 0
              case' true =>
                have HPA : Hid (a' + 1 = pa (wi 0) a') := by rw [hw]; rfl
                rw [hw] at c0
                clear hw
                go_wp2_with fail
                refine (grpPass_ok W B b sb pb (b + 1) j pp cp cs _ D cd l a' mq 1 1 F5.out.g F5.out.hg rfl (by have := HP0.out; omega)).mono ?_
                rintro e w' ⟨rfl, g, s⟩
                have F6 := F5.out.step g s
                rw [HPA.out] at F6
                have F6 := Lib.hid F6
                clear g s c0
                go_wp2_with fail
              case' false =>
                have HPA : Hid (a' = pa (wi 0) a') := by rw [hw]; rfl
                rw [hw] at c0
                clear hw
                go_wp2_with fail
                have F6 := F5.out
                rw [HPA.out] at F6
                have F6 := Lib.hid F6
                clear c0
              all_goals
                generalize pa (wi 0) a' = aa at F6 HD
                generalize hxx : nx aa (mq 0).1 (mq 0).2 = xx at HD
                refine (fsDraw _ _ _ _ _ _ _ _ _ _ _ _ _ _ _ _ _ _ _ _ 0 xx F6.out HN7.out.1 HN7.out.2 hxx HM.out (Nat.le_trans HL1.out (by omega))).mono ?_
                rintro e w7 ⟨rfl, D7, cd7, F7, _⟩
                have F7 := Lib.hid F7
                have HXP : Hid (1 ≤ xx) := hxx ▸ nx_pos _ _ _
                clear F6 HPA hxx F5
                go_wp2_with fail
                have R8 := Lib.hid (Ob.fresh w7 #[.int .u64 (aa : Nat), .int .u64 (xx : Nat)] 25)
                have F8 := Lib.hid (F7.out.grow (World.grownBy_alloc w7 (.cells #[.int .u64 (aa : Nat), .int .u64 (xx : Nat)] 25) none))
                have HR8 : Hid (¬ (w7.heap.size < B ∨ (Value.slice D7 (l ++ [(((0 : Nat) : Int), aa, xx)]).length cd7).ownBlock = some w7.heap.size)) := by
                  rintro (e | e)
                  · have := F7.out.g.sz; omega
                  · have := (F7.out.g.od.lt _ e).2; omega
                have HLT : Hid (w7.heap.size < (w7.alloc (.cells #[.int .u64 (aa : Nat), .int .u64 (xx : Nat)] 25)).heap.size) := by simp only [Hid, World.size_alloc]; omega
                obtain ⟨r1, hr1⟩ : ∃ x, w7.heap.size = x := ⟨_, rfl⟩
                rw [hr1] at R8 HR8 HLT ⊢
                generalize w7.alloc (.cells #[.int .u64 (aa : Nat), .int .u64 (xx : Nat)] 25) = w8 at F8 R8 HLT ⊢
                clear F7 hr1
                refine (grpWipe_any _ _ _ _ _ _ _ _ _ _ _ _ _ _ _ _ 0 F8.out.g F8.out.hg HN7.out.1 HN7.out.2).mono ?_
                rintro e w9 ⟨rfl, g, s⟩
                have F9 := Lib.hid (F8.out.step g s)
                have R9 := Lib.hid (R8.out.chg s.chg HR8.out)
                have HLT9 : Hid (r1 < w9.heap.size) := Nat.lt_of_lt_of_le HLT.out s.chg.size
                clear g s F8 R8 HLT
                go_wp2_with fail
                refine (fsDraw _ _ _ _ _ _ _ _ _ _ _ _ _ _ _ _ _ _ _ _ 0 1 F9.out HN7.out.1 HN7.out.2 (by simp [nx]) (by simp) (by have := HL1.out; simp; omega)).mono ?_
                rintro e w10 ⟨rfl, D10, cd10, F10, s⟩
                have F10 := Lib.hid F10
                have R10 := Lib.hid (R9.out.chg s.chg HR8.out)
                clear F9 R9 s
                go_wp2_with fail
                have R11 := Lib.hid (Ob.fresh w10 #[.int .u64 (aa : Nat), .int .u64 ((1 : Nat) : Int)] 25)
                have F11 := Lib.hid (F10.out.grow (World.grownBy_alloc w10 (.cells #[.int .u64 (aa : Nat), .int .u64 ((1 : Nat) : Int)] 25) none))
                have R1 := Lib.hid (R10.out.alloc (.cells #[.int .u64 (aa : Nat), .int .u64 ((1 : Nat) : Int)] 25))
                obtain ⟨r2, hr2⟩ : ∃ x, w10.heap.size = x := ⟨_, rfl⟩
                rw [hr2] at R11 ⊢
                generalize hw11 : w10.alloc (.cells #[.int .u64 (aa : Nat), .int .u64 ((1 : Nat) : Int)] 25) = w11 at F11 R11 R1 ⊢
                clear F10 R10 hr2 hw11
                refine (grpDrawn_any _ _ _ _ _ _ _ _ _ _ _ _ _ _ _ _ F11.out.g (by have := HL1.out; simp; omega)).mono ?_
                rintro e w12 ⟨A2, c2, rfl, hg, ho⟩
                have F12 := Lib.hid (F11.out.grow hg)
                have R12 := Lib.hid (R11.out.kept hg (by simp))
                have Q12 := Lib.hid (R1.out.kept hg (by simp))
                have T12 := Lib.hid (rds_own (by rw [SVL_SVx] at ho; exact ho) rfl)
                have HL3 : Hid ((l ++ [(((0 : Nat) : Int), aa, xx)] ++ [(((0 : Nat) : Int), aa, 1)]).length ≤ 1002) := by have := HL1.out; simp [Hid]; omega
                obtain ⟨n3, hn3⟩ : ∃ x, (l ++ [(((0 : Nat) : Int), aa, xx)] ++ [(((0 : Nat) : Int), aa, 1)]).length = x := ⟨_, rfl⟩
                rw [hn3] at T12 HL3 ⊢
                clear hg ho F11 R11 R1 hn3
                go_wp2_with fail
                refine (fresh_any A2 n3 c2 (l ++ [(((0 : Nat) : Int), aa, xx)] ++ [(((0 : Nat) : Int), aa, 1)]) w12 T12.out (fun x hx => by
                  simp only [List.mem_append, List.mem_singleton] at hx
                  rcases hx with (hx | rfl) | rfl
                  · obtain ⟨h1, h2, _⟩ := FI.out.nod x hx; have := HN7.out; exact wf_of (by omega) (by omega)
                  · exact wf_of (by simp) (by simp)
                  · exact wf_of (by simp) (by simp)) (by have := HL3.out; omega)).mono ?_
                rintro e w13 ⟨⟨b1, k1, hfb, rfl⟩, hb⟩
                obtain ⟨rfl, hk1⟩ := HD.out.firstBad (x := (((0 : Nat) : Int), aa, 1)) ⟨(((0 : Nat) : Int), aa, xx), by simp, rfl, .inr ⟨rfl, HXP.out⟩⟩ hfb
                have hk2 : k1 = l.length + 1 := by rw [hk1]; simp
                subst hk2
                have F13 := Lib.hid (F12.out.grow (grown_of_below hb none))
                have R13 := Lib.hid (R12.out.below hb)
                have Q13 := Lib.hid (Q12.out.below hb)
                clear hk1 hfb hb F12 R12 Q12
                have p0 := Q13.out.cell 0 rfl
                have p1 := R13.out.cell 0 rfl
                have p2 := R13.out.cell 1 rfl
                go_wp2_with fail
                go_ret
                exact ⟨rfl, F13.out.g.bel⟩
end Go.Proofs.Ytgbjfmokfkdglaa
