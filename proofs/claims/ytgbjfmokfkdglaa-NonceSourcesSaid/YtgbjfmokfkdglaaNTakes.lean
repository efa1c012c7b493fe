/-
  The walk of NonceTakes.
-/
import Derived.Test.YtgbjfmokfkdglaaNStream
import Derived.Test.YtgbjfmokfkdglaaNWorks
import Derived.Lib.SmallJoins
set_option linter.unusedVariables false
set_option linter.unusedSimpArgs false
namespace Go.Proofs.Ytgbjfmokfkdglaa
open Go.RowKit

/-- Take of any number -/
def TakeAll (s g : Nat) (R : List (Nat × Nat)) (z : Int) (w : World) (e : Ending) (w' : World) : Prop :=
  ∃ (G : Option Addr) (k cg : Nat) (A' : Option Addr) (c' : Nat) (er : Int), k ≤ R.length ∧ e = .returned (.tuple #[.slice G k cg, .int .i64 er]) ∧ w.grownBy w' (some s) ∧ Ss w' s g A' c' (R.drop k) ∧ w'.ownsRow w.heap.size 25 2 (.slice G k cg) k (DV (R.take k)) ∧ (∀ ad, A' = some ad → g < w.heap.size) ∧
    (((z < 0 ∨ 65535 < z) ∧ er = 3 ∧ k = 0) ∨ (0 ≤ z ∧ z ≤ 65535 ∧ (R.length : Int) < z ∧ er = 20 ∧ k = R.length) ∨ (0 ≤ z ∧ z ≤ 65535 ∧ z ≤ (R.length : Int) ∧ er = 0 ∧ (k : Int) = z))
theorem take_all (s g : Nat) (A : Option Addr) (c : Nat) (z : Int) (R : List (Nat × Nat)) (w : World) (h : Ss w s g A c R) :
    Calls Try.prog 33 #[.iface 64 (.pointer (some ⟨s, 0, none⟩)), .int .i64 z] w (TakeAll s g R z w) := by
  by_cases hb : z < 0 ∨ 65535 < z
  · refine (take_bad z _ _ w hb).mono ?_
    rintro e w' ⟨rfl, rfl⟩
    exact ⟨none, 0, 0, A, c, 3, by omega, rfl, World.grownBy.refl _ _, by simpa using h, by simpa [DV] using World.ownsRow_nil w w.heap.size 25 2, fun ad e => (h.ne ad e).2, .inl ⟨hb, rfl, rfl⟩⟩
  · obtain ⟨k, rfl⟩ : ∃ k : Nat, z = (k : Int) := ⟨z.toNat, by omega⟩
    refine (take_any s g A c k R w h (by omega)).mono ?_
    rintro e w' ⟨G, m, cg, A', c', er, hm, her, rfl, hg, hs, ho, hgl⟩
    by_cases hl : R.length < k
    · rw [if_pos hl] at her
      have h1 : R.take k = R := List.take_of_length_le (by omega)
      have h2 : R.drop k = [] := List.drop_eq_nil_of_le (by omega)
      rw [h1] at hm ho
      rw [h2] at hs
      subst hm her
      refine ⟨G, R.length, cg, A', c', 20, Nat.le_refl _, rfl, hg, by simpa using hs, by simpa using ho, hgl, .inr (.inl ⟨by omega, by omega, by omega, rfl, rfl⟩)⟩
    · rw [if_neg hl] at her
      have h1 : (R.take k).length = k := by rw [List.length_take]; omega
      rw [h1] at hm
      subst hm her
      exact ⟨G, m, cg, A', c', 0, by omega, rfl, hg, hs, ho, hgl, .inr (.inr ⟨by omega, by omega, by omega, rfl, rfl⟩)⟩

theorem news_arr (w : World) (C : Array Value) (t : TypeId) : ∀ ad, some (⟨w.heap.size, 0, none⟩ : Addr) = some ad → ∀ (j : Nat) (u : Value), C.toList[j]? = some u → (w.alloc (.cells C t)).cell? (ad.add j) = some u := by
  intro ad e
  cases e
  exact World.news_of_block (cs := C) (t := t) (fr := (0, 0)) (heap_alloc_new w _)
set_option maxRecDepth 100000 in
set_option maxHeartbeats 3200000 in
theorem nonceTakes_walk (A : Option Addr) (n c : Nat) (L : List (Nat × Nat)) (z1 z2 : Int) (W : World) (hl : RdC 2 dv W A n L) (hA : A = none → n = 0 ∧ c = 0) (hcap : n ≤ c) (hsm : n * 16 ≤ 140737488351232) (w1 : (Lit.int .i64 z1).wf = true) (w2 : (Lit.int .i64 z2).wf = true) :
    Calls Try.prog 8 #[.slice A n c, .int .i64 z1, .int .i64 z2] W fun e w' => e = .returned (.bool true) ∧ Below W.heap.size W w' := by
  have HL := Lib.hid hl
  have HCAP := Lib.hid hcap
  have HSM := Lib.hid hsm
  have F := newStream_any A n c L W hl hA hsm
  have F := Lib.hid F
  clear hl hA hcap hsm w1 w2
  go_enter Try.func8, Try.ntmps8
  go_wp2_with fail
  refine F.out.mono ?_
  clear F
  rintro e w1 ⟨s, g, A0, c0, rfl, hb, hs1, hg1, S1⟩
  have HB1 := Lib.hid hb
  have HS1 := Lib.hid S1
  have HSG : Hid (W.heap.size ≤ s ∧ W.heap.size ≤ g) := ⟨hs1, hg1⟩
  clear hb S1 hs1 hg1
  go_wp2_with fail
  go_loopw [8, 9, 10] (fun lv wv iv wr => ∃ (t : Nat) (R : List (Nat × Nat)) (Wn : Option Addr) (wp : Nat) (m : Nat), t ≤ 2 ∧ lv = .int .i64 m ∧ wv = .slice Wn m wp ∧ iv = .int .i64 t ∧
    Hid (m = R.length ∧ Below W.heap.size W wr ∧ (∃ A' c', Ss wr s g A' c' R) ∧ RdC 2 dv W Wn m R ∧ m ≤ wp ∧ m * 16 ≤ 140737488351232)) (fun _ _ i _ => 2 - (intOf i).toNat)
  case atStart => exact ⟨0, L, A, c, n, by omega, rfl, rfl, rfl, HL.out.len.symm, HB1.out, ⟨A0, c0, HS1.out⟩, HL.out, HCAP.out, HSM.out⟩
  case round =>
    obtain ⟨t, R, Wn, wp, m, ht, rfl, rfl, rfl, HR⟩ := hrel
    by_cases ht2 : t < 2
    · go_upto_if 30 with fail
      go_cut [11] (fun kv wx => ∃ z : Int, kv = .int .i64 z ∧ wx = wr)
      case first =>
        by_cases h1 : t = 1
        · subst h1
          go_wp2_with fail
          go_meet
          exact ⟨z2, rfl, rfl⟩
        · obtain rfl : t = 0 := by omega
          go_wp2_with fail
          go_meet
          exact ⟨z1, rfl, rfl⟩
      case rest =>
        obtain ⟨z, rfl, rfl⟩ := hcut
        obtain ⟨hm, hB, ⟨A1, c1, hS⟩, hW, hwp, hsm⟩ := HR.out
        have HM : Hid (m ≤ R.length ∧ R.length ≤ m) := ⟨Nat.le_of_eq hm, Nat.le_of_eq hm.symm⟩
        have HB := Lib.hid hB
        have HS := Lib.hid hS
        have HWR := Lib.hid hW
        have HWP := Lib.hid (And.intro hwp hsm)
        have T := Lib.hid (take_all s g A1 c1 z R wc hS)
        clear hm hB hS hW hwp hsm HR
        go_wp2_with fail
        refine T.out.mono ?_
        clear T
        rintro e v1 ⟨G, k, cg, A2, c2, er, hk, rfl, hg, hS2, ho, hgl, hz⟩
        have B1 : Hid (Below W.heap.size W v1) := HB.out.trans (Below.of_grown hg HSG.out.1 HB.out.size)
        have HNE : Hid (∀ j, (Value.slice G k cg).ownBlock = some j → W.heap.size ≤ j ∧ j ≠ s ∧ ∀ ad, A2 = some ad → j ≠ g) := fun j ej => by
          have h1 := (ho.lt j ej).1
          have h2 := HS.out.ob.lt (by simp)
          have h3 := HB.out.size
          exact ⟨by omega, by omega, fun ad ea => by have := hgl ad ea; omega⟩
        have HK : Hid (k ≤ m) := by have := HM.out; simp only [Hid]; omega
        have HG := Lib.hid hg
        have HS2 := Lib.hid hS2
        have HO := Lib.hid (Joins.ownsRow_le ho HB.out.size)
        have HZ := Lib.hid hz
        clear hk hg hS2 ho hz hgl HB HS
        go_upto_block 2 with fail
        go_cut [11] (fun kv wx => kv = .int .i64 k ∧ wx = v1)
        case first =>
          rcases HZ.out with ⟨h1, rfl, rfl⟩ | ⟨h1, h2, h3, rfl, hk⟩ | ⟨h1, h2, h3, rfl, hk⟩
          · rcases h1 with h1 | h1
            · go_wp2_with fail
              go_meet
              exact ⟨rfl, rfl⟩
            · have h2 : ¬ z < 0 := by omega
              go_wp2_with fail
              go_meet
              exact ⟨rfl, rfl⟩
          · have h4 : ¬ z < 0 := by omega
            have h5 : ¬ (65535 : Int) < z := by omega
            have h6 : (m : Int) < z := by have := HM.out; omega
            have hkm : k = m := by have := HM.out; omega
            subst hkm
            clear hk h1 h2 h3
            go_wp2_with fail
            go_meet
            exact ⟨rfl, rfl⟩
          · have h4 : ¬ z < 0 := by omega
            have h5 : ¬ (65535 : Int) < z := by omega
            have h6 : ¬ (m : Int) < z := by have := HM.out; omega
            subst hk
            clear h1 h2 h3 h4
            go_wp2_with fail
            go_meet
            exact ⟨rfl, rfl⟩
        case rest =>
          obtain ⟨rfl, hwx⟩ := hcut
          subst hwx
          have hkw : (k : Int) ≤ (wp : Int) := by have := HWP.out.1; have := HK.out; omega
          have hrd := rdc_own (L := R.take k) HO.out (by rw [List.length_take]; have := HM.out; have := HK.out; omega)
          have hwt := (HWR.out.below B1.out).take k HK.out
          have F2 := Lib.hid (sameDraws_any G Wn k cg wp (R.take k) wc hrd hwt)
          clear hrd hwt
          go_wp2_with fail
          refine F2.out.mono ?_
          clear F2
          rintro e w' ⟨rfl, nq, rfl⟩
          have S3 : Hid (Ss (wc.drewN nq) s g A2 c2 (R.drop k)) := HS2.out.kept (grown_drewN (World.grownBy.refl _ none) _) (by simp) (fun _ _ => by simp)
          have O3 : Hid ((wc.drewN nq).ownsRow W.heap.size 25 2 (.slice G k cg) k (DV (R.take k))) := HO.out
          have B3 : Hid (Below W.heap.size W (wc.drewN nq)) := Below.drewN B1.out nq
          generalize wc.drewN nq = v2 at S3 O3 B3 ⊢
          clear HS2 HO B1 HG
          go_wp2_with fail
          refine (streamLeft_any s g A2 c2 (R.drop k) v2 S3.out).mono ?_
          rintro e w' ⟨rfl, rfl⟩
          have hlk : (R.drop k).length = m - k := by rw [List.length_drop]; have := HM.out; omega
          rw [hlk]
          have hw1 : IntKind.i64.wrap ((m : Int) - (k : Int)) = ((m - k : Nat) : Int) := by have := HK.out; have := HWP.out.2; rw [IntKind.wrap_i64]; omega
          have HLK := Lib.hid hlk
          have HW1 := Lib.hid hw1
          clear hlk
          go_wp2_with fail
          have HX : Hid (∃ xs, v2.ownsRow W.heap.size 25 2 (.slice G k cg) k xs ∧ Ss v2 s g A2 c2 (R.drop k) ∧ Below W.heap.size W v2) := ⟨_, O3.out, S3.out, B3.out⟩
          clear O3 S3 B3
          go_loopw [14] (fun iv wy => ∃ (j : Nat), j ≤ k ∧ iv = .int .i64 j ∧ Hid (∃ xs, wy.ownsRow W.heap.size 25 2 (.slice G k cg) k xs ∧ Ss wy s g A2 c2 (R.drop k) ∧ Below W.heap.size W wy)) (fun iv _ => k - (intOf iv).toNat)
          case atStart => exact ⟨0, by omega, rfl, HX⟩
          case round =>
            obtain ⟨j, hj, rfl, HY⟩ := hrel
            clear HX
            by_cases hjk : j < k
            · obtain ⟨xs, ho, hs, hb⟩ := HY.out
              obtain ⟨gb, cap, hv, hgb, hgl⟩ := ho.form (by omega)
              cases hv
              have hlen := ho.1
              have y0 : wr.cell? ⟨gb, j * 2, none⟩ = some (xs[j * 2]'(by omega)) := by rw [ho.cellAt _ (by omega)]; exact List.getElem?_eq_getElem (by omega)
              have y1 : wr.cell? ⟨gb, j * 2 + 1, none⟩ = some (xs[j * 2 + 1]'(by omega)) := by rw [ho.cellAt _ (by omega)]; exact List.getElem?_eq_getElem (by omega)
              have f0 := ho.frozenAt (j * 2)
              have f1 := ho.frozenAt (j * 2 + 1)
              have hz := HNE.out gb rfl
              have o1 := (ho.stored (j * 2) (.int .u64 5)).1.stored (j * 2 + 1) (.int .u64 0)
              have HO1 := Lib.hid o1.1
              have HS1' : Hid (Ss ((wr.setCell ⟨gb, j * 2, none⟩ (.int .u64 5)).setCell ⟨gb, j * 2 + 1, none⟩ (.int .u64 0)) s g A2 c2 (R.drop k)) :=
                (hs.kept (grown_setCell wr ⟨gb, j * 2, none⟩ _) (by simp; exact Ne.symm hz.2.1) (fun ad ea => by simp; exact Ne.symm (hz.2.2 ad ea))).kept (grown_setCell _ ⟨gb, j * 2 + 1, none⟩ _) (by simp; exact Ne.symm hz.2.1) (fun ad ea => by simp; exact Ne.symm (hz.2.2 ad ea))
              have HB1' : Hid (Below W.heap.size W ((wr.setCell ⟨gb, j * 2, none⟩ (.int .u64 5)).setCell ⟨gb, j * 2 + 1, none⟩ (.int .u64 0))) := (hb.setCell (by show W.heap.size ≤ gb; omega) _).setCell (by show W.heap.size ≤ gb; omega) _
              have e1 : IntKind.i64.wrap ((j : Int) + 1) = (j : Int) + 1 := by have := HWP.out.2; have := HK.out; rw [IntKind.wrap_i64]; omega
              have hjk' : (j : Int) < (k : Int) := by omega
              generalize xs[j * 2]'(by omega) = u0 at y0
              generalize xs[j * 2 + 1]'(by omega) = u1 at y1
              clear HY ho hs hb hlen hz o1 hgb hgl
              go_wp2
              go_roundw
              case rel => exact ⟨j + 1, by omega, by go_num, _, HO1.out, HS1'.out, HB1'.out⟩
              case measure => simp [intOf]; omega
            · have hjk2 : ¬ (j : Int) < (k : Int) := by omega
              obtain ⟨xs, ho, hs, hb⟩ := HY.out
              have HO5 := Lib.hid ho
              have HS5 := Lib.hid hs
              have HB5 := Lib.hid hb
              clear HY ho hs hb
              obtain ⟨Wn', hWn'⟩ : ∃ X, cutA Wn wp k = X := ⟨_, rfl⟩
              have hcut5 : ∀ W : World, (Instr.slice 39 (.slice Wn m wp) (some (.int .i64 (k : Int))) none none).run Try.prog W = .ok (.slice Wn' (m - k) (wp - k)) W := fun W => by
                have := run_cut2 Wn m wp k HK.out W
                rw [hWn'] at this
                exact this
              have HWN := Lib.hid hWn'
              clear hWn'
              go_wp2_with (at_builtin; refine wpList_app rfl (.tmp 87) (.tmp 91) rfl eltDraw W.heap.size (.slice G k cg) k xs rfl (HO5.out.alloc _) (some ⟨wr.heap.size, 0, none⟩) 3 3 [.int .u64 6, .int .u64 0, .int .u64 6, .int .u64 0, .int .u64 6, .int .u64 0] rfl rfl (fun h => by cases h) (news_arr wr #[.int .u64 6, .int .u64 0, .int .u64 6, .int .u64 0, .int .u64 6, .int .u64 0] 25) (by simp [Value.oneCell']) ?d3 ?d4 ?d5 ?_)
              case d3 => have := HK.out; have := HWP.out.2; simp only [maxLen]; omega
              case d4 => have := HK.out; have := HWP.out.2; omega
              case d5 => have := HB5.out.size; simp; omega
              intro G' cg' v9 ho9 hg9 _
              have g9 : wr.grownBy v9 (Value.slice G k cg).ownBlock := (World.grownBy_alloc wr _ _).trans hg9
              have HS9 : Hid (Ss v9 s g A2 c2 (R.drop k)) := HS5.out.kept g9 (fun e => (HNE.out s e.symm).2.1 rfl) (fun ad ea e => (HNE.out g e.symm).2.2 ad ea rfl)
              have HB9 : Hid (Below W.heap.size W v9) := HB5.out.trans ⟨g9.os, g9.tape, g9.output, g9.size, fun q hq => g9.block q (by have := HB5.out.size; omega) (fun e => by have := (HNE.out q e.symm).1; omega)⟩
              clear ho9 hg9 g9 HO5 HS5 HB5
              have e1 : IntKind.i64.wrap ((t : Int) + 1) = (t : Int) + 1 := by rw [IntKind.wrap_i64]; omega
              have hw1 := HW1.out
              go_wp2
              go_roundw
              case rel =>
                refine ⟨t + 1, R.drop k, Wn', wp - k, m - k, by omega, by go_num, rfl, by go_num, HLK.out.symm, HB9.out, ⟨A2, c2, HS9.out⟩, ?_, by have := HWP.out.1; omega, by have := HWP.out.2; omega⟩
                have := cutA_rd HWR.out HWP.out.1 HK.out
                rw [HWN.out] at this
                exact this
              case measure => simp [intOf]; omega
    · obtain rfl : t = 2 := by omega
      obtain ⟨hm, hB, ⟨A1, c1, hS⟩, hW, hwp, hsm⟩ := HR.out
      have HM : Hid (m ≤ R.length ∧ R.length ≤ m) := ⟨Nat.le_of_eq hm, Nat.le_of_eq hm.symm⟩
      have HB := Lib.hid hB
      have HS := Lib.hid hS
      have HWR := Lib.hid hW
      have HWP := Lib.hid (And.intro hwp hsm)
      clear hm hB hS hW hwp hsm HR
      have T := Lib.hid (take_all s g A1 c1 ((m : Int) % 1000) R wr HS.out)
      go_wp2_with fail
      refine T.out.mono ?_
      clear T
      rintro e v1 ⟨G, k, cg, A2, c2, er, hk, rfl, hg, hS2, ho, hgl, hz⟩
      have hz3 : er = 0 ∧ (k : Int) = (m : Int) % 1000 := by
        rcases hz with ⟨h1, _⟩ | ⟨_, _, h1, _⟩ | ⟨_, _, _, h1, h2⟩
        · omega
        · have := HM.out; omega
        · exact ⟨h1, h2⟩
      obtain ⟨rfl, hkm⟩ := hz3
      have hmk : (m : Int) % 1000 = (k : Int) := hkm.symm
      have B1 : Hid (Below W.heap.size W v1) := HB.out.trans (Below.of_grown hg HSG.out.1 HB.out.size)
      have hkm2 : k ≤ m := by have := HM.out; omega
      have hrd := rdc_own (L := R.take k) ho (by rw [List.length_take]; omega)
      have hwt := (HWR.out.below B1.out).take k hkm2
      have F2 := Lib.hid (sameDraws_any G Wn k cg wp (R.take k) v1 hrd hwt)
      have hkw : (k : Int) ≤ (wp : Int) := by have := HWP.out.1; omega
      clear hk hg hS2 ho hgl hz hkm hrd hwt hkm2
      rw [hmk]
      go_wp2_with fail
      refine F2.out.mono ?_
      clear F2
      rintro e w' ⟨rfl, nq, rfl⟩
      have B2 : Hid (Below W.heap.size W (v1.drewN nq)) := Below.drewN B1.out nq
      generalize v1.drewN nq = v2 at B2 ⊢
      go_wp2_with fail
      refine (works_any v2).mono ?_
      rintro e v3 ⟨rfl, hb⟩
      have B3 : Hid (Below W.heap.size W v3) := B2.out.trans (hb.mono B2.out.size)
      clear hb B1 B2
      go_wp2
      go_ret
      exact ⟨rfl, B3.out⟩
end Go.Proofs.Ytgbjfmokfkdglaa
