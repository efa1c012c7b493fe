/-
  The walks of tally.CheckMarks, the document's CheckMarks, SameMarks, lentMarks, keptMarks.
-/
import Derived.Test.YtjjobgolpedgeaaTCheckMark
import Derived.Test.YtjjobgolpedgeaaTSmall
set_option linter.unusedVariables false
set_option linter.unusedSimpArgs false
namespace Go.Proofs.Ytjjobgolpedgeaa
open Go.RowKit

set_option maxHeartbeats 8000000 in
set_option maxRecDepth 100000 in
theorem checkMarks_any (c : Cg) (self : Int) (A : Option Addr) (n cp : Nat) (L : List Mk) (w : World) (h : RdC 3 Mk.cells w A n L) (hsm : (n + 2) * 24 ≤ 140737488355328) :
    Calls Try.prog 38 #[c.agg, .int .i64 self, .slice A n cp] w fun e w' => e = .returned (.int .i64 (chkR Mk.n (fun _ => true) c self L)) ∧ Below w.heap.size w w' := by
  obtain ⟨cf, cr, cpp, cu⟩ := c
  have H := Lib.hid h
  have HL := Lib.hid h.len
  have HSM := Lib.hid hsm
  clear h hsm
  go_enter Try.func38, Try.ntmps38
  go_upto_region 1 with fail
  have OC := Lib.hid (Ob.fresh w #[.int .i64 cf, .int .i64 cr, .int .i64 cpp, .bool cu] 70)
  have BW : Hid (Below w.heap.size w (w.alloc (.cells #[.int .i64 cf, .int .i64 cr, .int .i64 cpp, .bool cu] 70))) := below_al _ _
  generalize w.alloc (.cells #[.int .i64 cf, .int .i64 cr, .int .i64 cpp, .bool cu] 70) = w1 at OC BW ⊢
  generalize w.heap.size = r at OC ⊢
  have H1 := Lib.hid (H.out.below BW.out)
  have SX : Hid (∀ y, Below w1.heap.size w1 y → (y.cell? ⟨r, 0, none⟩ = some (.int .i64 cf) ∧ y.cell? ⟨r, 1, none⟩ = some (.int .i64 cr) ∧ y.cell? ⟨r, 2, none⟩ = some (.int .i64 cpp) ∧ y.cell? ⟨r, 3, none⟩ = some (.bool cu)) ∧ Below w1.heap.size w1 y) := fun y hb => ⟨(OC.out.below hb).all4, hb⟩
  have F1 : Hid (∀ y, ((y.cell? ⟨r, 0, none⟩ = some (.int .i64 cf) ∧ y.cell? ⟨r, 1, none⟩ = some (.int .i64 cr) ∧ y.cell? ⟨r, 2, none⟩ = some (.int .i64 cpp) ∧ y.cell? ⟨r, 3, none⟩ = some (.bool cu)) ∧ Below w1.heap.size w1 y) → Calls Try.prog 85 #[.slice A n cp, .func (.func 86) #[] #[]] y fun e y' => RetL 135 3 Mk.cells y L e y' ∧ ((y'.cell? ⟨r, 0, none⟩ = some (.int .i64 cf) ∧ y'.cell? ⟨r, 1, none⟩ = some (.int .i64 cr) ∧ y'.cell? ⟨r, 2, none⟩ = some (.int .i64 cpp) ∧ y'.cell? ⟨r, 3, none⟩ = some (.bool cu)) ∧ Below w1.heap.size w1 y')) := fun y hy =>
    (turn_toMark A n cp L y (H1.out.below hy.2) (by have := HSM.out; omega)).mono fun e y' h9 => ⟨h9, SX.out _ (hy.2.trans (h9.choose_spec.choose_spec.2.1.mono hy.2.size))⟩
  have F2 : Hid (∀ y A1 c1, ((y.cell? ⟨r, 0, none⟩ = some (.int .i64 cf) ∧ y.cell? ⟨r, 1, none⟩ = some (.int .i64 cr) ∧ y.cell? ⟨r, 2, none⟩ = some (.int .i64 cpp) ∧ y.cell? ⟨r, 3, none⟩ = some (.bool cu)) ∧ Below w1.heap.size w1 y) → RdC 3 Mk.cells y A1 L.length L → Calls Try.prog 97 #[.agg #[.int .i64 cf, .int .i64 cr, .int .i64 cpp, .bool cu], .int .i64 self, .slice A1 L.length c1, .func (.func 98) #[] #[]] y fun e y' => e = .returned (.int .i64 (chkR Mk.n (fun _ => true) ⟨cf, cr, cpp, cu⟩ self L)) ∧ ((y'.cell? ⟨r, 0, none⟩ = some (.int .i64 cf) ∧ y'.cell? ⟨r, 1, none⟩ = some (.int .i64 cr) ∧ y'.cell? ⟨r, 2, none⟩ = some (.int .i64 cpp) ∧ y'.cell? ⟨r, 3, none⟩ = some (.bool cu)) ∧ Below w1.heap.size w1 y')) := fun y A1 c1 hy hr =>
    (checkMark_any ⟨cf, cr, cpp, cu⟩ self A1 L.length c1 L y hr (by have := HSM.out; have := HL.out; omega)).mono fun e y' h9 => ⟨h9.1, SX.out _ (hy.2.trans (h9.2.mono hy.2.size))⟩
  obtain ⟨⟨p0, p1, p2, p3⟩, _⟩ := SX.out _ (Below.refl _ _)
  obtain ⟨R, hR⟩ : ∃ R, chkR Mk.n (fun _ => true) ⟨cf, cr, cpp, cu⟩ self L = R := ⟨_, rfl⟩
  rw [hR] at F2
  have HR := Lib.hid hR
  clear hR
  go_region_held3 (fun y => (y.cell? ⟨r, 0, none⟩ = some (.int .i64 cf) ∧ y.cell? ⟨r, 1, none⟩ = some (.int .i64 cr) ∧ y.cell? ⟨r, 2, none⟩ = some (.int .i64 cpp) ∧ y.cell? ⟨r, 3, none⟩ = some (.bool cu)) ∧ Below w1.heap.size w1 y) (first | exact ⟨⟨p0, p1, p2, p3⟩, Below.drew (Below.refl _ _)⟩ | assumption | go_keep)
    (first
     | (go_at_call 97; refine (F2.out _ A1 c1 hx1 r1).mono ?_; rintro e x2 ⟨rfl, hx2⟩)
     | (go_at_call 85; refine (F1.out _ (by first | assumption | (simp [*]))).mono ?_; rintro e x1 ⟨⟨A1, c1, rfl, hb1, ho1⟩, hx1⟩; have r1 := rdMk ho1 rfl))
  have HB := Lib.hid hx2.2
  clear hx1 hx2 hb1 ho1 r1 p0 p1 p2 p3 F1 F2 SX
  go_wp2_with fail
  go_ret
  exact ⟨by rw [HR.out]; exact rfl, BW.out.trans (HB.out.mono BW.out.size)⟩
set_option maxHeartbeats 8000000 in
set_option maxRecDepth 100000 in
theorem refCheckMarks_any (c : Cg) (self : Int) (A : Option Addr) (n cp : Nat) (L : List Mk) (w : World) (h : RdC 3 Mk.cells w A n L) (hsm : n * 24 ≤ 140737488355328) :
    Calls Try.prog 39 #[c.agg, .int .i64 self, .slice A n cp] w fun e w' => e = .returned (.int .i64 (chkR Mk.n (fun _ => true) c self L)) ∧ Below w.heap.size w w' := by
  have H := Lib.hid h
  have HL := Lib.hid h.len
  have hn : (n : Int) ≤ 6000000000000 := by omega
  clear h hsm
  have FCF := Lib.hid (config_any c)
  have FV := Lib.hid (fun ahead node w hf => voter_any c self ahead node w hf)
  obtain ⟨R, hR⟩ : ∃ R, chkR Mk.n (fun _ => true) c self L = R := ⟨_, rfl⟩
  have HR := Lib.hid hR
  rw [hR]
  clear hR
  obtain ⟨cf, cr, cpp, cu⟩ := c
  go_enter Try.func39, Try.ntmps39
  go_wp2_with fail
  have OC := Lib.hid (Ob.fresh w #[.int .i64 cf, .int .i64 cr, .int .i64 cpp, .bool cu] 70)
  have BW : Hid (Below w.heap.size w (w.alloc (.cells #[.int .i64 cf, .int .i64 cr, .int .i64 cpp, .bool cu] 70))) := below_al _ _
  generalize w.alloc (.cells #[.int .i64 cf, .int .i64 cr, .int .i64 cpp, .bool cu] 70) = w1 at OC BW ⊢
  generalize w.heap.size = r at OC ⊢
  refine (FCF.out _).mono ?_
  rintro e w2 ⟨rfl, hb2⟩
  have OC2 := Lib.hid (OC.out.below hb2)
  have BW2 := Lib.hid (BW.out.trans (hb2.mono BW.out.size))
  clear hb2 OC BW FCF
  by_cases hbad : Cg.bad ⟨cf, cr, cpp, cu⟩
  · have HE : Hid (R = 1) := by rw [← HR.out]; exact chkR_bad hbad
    rw [if_pos hbad]
    clear hbad
    go_wp2_with fail
    go_ret
    exact ⟨by rw [HE.out]; exact rfl, BW2.out⟩
  rw [if_neg hbad]
  have HG := Lib.hid hbad
  have HF : Hid (1 ≤ cf ∧ cf ≤ 3) := by unfold Cg.bad at hbad; simp only at hbad; simp only [Hid]; omega
  clear hbad
  have H2 := Lib.hid (H.out.below BW2.out)
  go_wp2_with fail
  go_loopw [7, 8] (fun av iv wr => ∃ (k : Nat), k ≤ n ∧ av = .int .i64 (prevN Mk.n L k) ∧ iv = .int .i64 k ∧ Hid (Below w2.heap.size w2 wr) ∧ Hid (∀ i, i < k → okI Mk.n (fun _ => true) cf self L i = true)) (fun _ iv _ => n - (intOf iv).toNat)
  case atStart => exact ⟨0, by omega, rfl, rfl, Below.refl _ _, fun i hi => by omega⟩
  case round =>
    obtain ⟨k, hk, rfl, rfl, HB, HO⟩ := hrel
    by_cases hkn : k < n
    · obtain ⟨x, hx⟩ : ∃ x, L[k]? = some x := ⟨_, List.getElem?_eq_getElem (by have := HL.out; omega)⟩
      obtain ⟨al, rfl, g0, g1, g2⟩ := (H2.out.below HB.out).atMk hx
      obtain ⟨o0, o1, o2, o3⟩ := (OC2.out.below HB.out).all4
      have HOK : Hid (okI Mk.n (fun _ => true) cf self L k = voterF cf self (prevN Mk.n L k) x.n) := by unfold okI; rw [hx]; exact Bool.and_true _
      have HPV : Hid (prevN Mk.n L (k + 1) = x.n) := by unfold prevN; rw [if_neg (by omega), Nat.add_sub_cancel, hx]; exact rfl
      obtain ⟨ahead, hah⟩ : ∃ a, prevN Mk.n L k = a := ⟨_, rfl⟩
      rw [hah] at HOK ⊢
      have hki : (k : Int) < (n : Int) := by omega
      have HKN := Lib.hid hkn
      have HXX := Lib.hid hx
      clear hx hkn hk hah
      go_upto_region 7 with fail
      have FO := Lib.hid (fun y (hx : (y.cell? ⟨r, 0, none⟩ = some (.int .i64 cf) ∧ y.cell? ⟨r, 1, none⟩ = some (.int .i64 cr) ∧ y.cell? ⟨r, 2, none⟩ = some (.int .i64 cpp) ∧ y.cell? ⟨r, 3, none⟩ = some (.bool cu)) ∧ y.cell? (al.add (k * 3)) = some (.int .i64 x.n) ∧ Below wr.heap.size wr y) => (FV.out ahead x.n y HF.out).mono (fun e y' (h9 : _ ∧ _) => show e = .returned (.bool (voterF cf self ahead x.n)) ∧ ((y'.cell? ⟨r, 0, none⟩ = some (.int .i64 cf) ∧ y'.cell? ⟨r, 1, none⟩ = some (.int .i64 cr) ∧ y'.cell? ⟨r, 2, none⟩ = some (.int .i64 cpp) ∧ y'.cell? ⟨r, 3, none⟩ = some (.bool cu)) ∧ y'.cell? (al.add (k * 3)) = some (.int .i64 x.n) ∧ Below wr.heap.size wr y') from ⟨h9.1, keep4 h9.2 hx.1, (h9.2.cell (World.block_lt_of_cell? y _ hx.2.1)).trans hx.2.1, hx.2.2.trans (h9.2.mono hx.2.2.size)⟩))
      obtain ⟨bb, hbb⟩ : ∃ bb, voterF cf self ahead x.n = bb := ⟨_, rfl⟩
      rw [hbb] at FO HOK
      clear hbb
      go_region_held3 (fun y => (y.cell? ⟨r, 0, none⟩ = some (.int .i64 cf) ∧ y.cell? ⟨r, 1, none⟩ = some (.int .i64 cr) ∧ y.cell? ⟨r, 2, none⟩ = some (.int .i64 cpp) ∧ y.cell? ⟨r, 3, none⟩ = some (.bool cu)) ∧ y.cell? (al.add (k * 3)) = some (.int .i64 x.n) ∧ Below wr.heap.size wr y) (first | exact ⟨⟨o0, o1, o2, o3⟩, g0, Below.drew (Below.refl _ _)⟩ | assumption | go_keep)
        (first | (go_at_call 100; refine (FO.out _ (by first | assumption | (simp [*]))).mono ?_; rintro e x' ⟨rfl, hx'⟩))
      have B3 : Hid (Below w2.heap.size w2 x') := HB.out.trans (hx'.2.2.mono HB.out.size)
      clear hx' FO HB g0 g1 g2 o0 o1 o2 o3
      obtain ⟨nb, hnb⟩ : ∃ nb, (!bb) = nb := ⟨_, rfl⟩
      rw [hnb]
      have hk2 : (k : Int) + 1 ≤ 6000000000001 := by have := HKN.out; omega
      cases nb with
      | true =>
        have HE : Hid (R = 80) := by rw [← HR.out]; exact chkR_one (i := k) HG.out (by have := HKN.out; have := HL.out; omega) (by rw [HOK.out]; simpa using hnb)
        clear hnb
        go_wp2_with fail
        go_ret
        exact ⟨by rw [HE.out]; exact rfl, BW2.out.trans (B3.out.mono BW2.out.size)⟩
      | false =>
        have HE := Lib.hid (show okI Mk.n (fun _ => true) cf self L k = true by rw [HOK.out]; simpa using hnb)
        clear hnb
        obtain ⟨al', e, g0, g1, g2⟩ := (H2.out.below B3.out).atMk HXX.out
        cases e
        go_wp2_with fail
        go_roundw
        case rel => exact ⟨k + 1, HKN.out, by rw [HPV.out], by go_num, B3.out, fun i hi => by
          by_cases e : i = k
          · rw [e]; exact HE.out
          · exact HO.out i (by omega)⟩
        case measure => have := HKN.out; simp [intOf]; omega
    · obtain rfl : n = k := by omega
      have hki : ¬ (n : Int) < (n : Int) := by omega
      have HE : Hid (R = 0) := by rw [← HR.out]; exact chkR_all HG.out fun i hi => HO.out i (by have := HL.out; omega)
      clear hkn hk
      go_wp2_with fail
      go_ret
      exact ⟨by rw [HE.out]; exact rfl, BW2.out.trans (HB.out.mono BW2.out.size)⟩
set_option maxHeartbeats 800000 in
theorem sameMarks0_any (A B : Option Addr) (n c d : Nat) (L : List Mk) (w : World) (ha : RdC 3 Mk.cells w A n L) (hb : RdC 3 Mk.cells w B n L) :
    Calls Try.prog 101 #[.slice A n c, .slice B n d] w fun e w' => e = .returned (.bool true) ∧ ∃ m, w' = w.drewN m := by
  have HA := Lib.hid ha
  have HB := Lib.hid hb
  have hn : (n : Int) ≤ 9223372036854775807 := by have := ha.le; omega
  clear ha hb
  go_enter Try.func101, Try.ntmps101
  go_wp2
  go_loopw [5] (fun i wr => ∃ (k m : Nat), k ≤ n ∧ i = .int .i64 k ∧ Hid (wr = w.drewN m)) (fun i _ => n - (intOf i).toNat)
  case atStart => exact ⟨0, 0, by omega, rfl, rfl⟩
  case round =>
    obtain ⟨k, m, hk, rfl, HR⟩ := hrel
    by_cases hkn : k < n
    · obtain ⟨x, hx⟩ : ∃ x, L[k]? = some x := ⟨_, List.getElem?_eq_getElem (by have := HA.out.len; omega)⟩
      have HA' : RdC 3 Mk.cells wr A n L := by rw [HR.out]; exact HA.out.drewN m
      have HB' : RdC 3 Mk.cells wr B n L := by rw [HR.out]; exact HB.out.drewN m
      obtain ⟨ad, rfl, g0, g1, g2⟩ := HA'.atMk hx
      obtain ⟨bd, rfl, p0, p1, p2⟩ := HB'.atMk hx
      have e1 : IntKind.i64.wrap ((k : Int) + 1) = (k : Int) + 1 := by rw [IntKind.wrap_i64]; omega
      clear hx HA' HB'
      go_wp2
      go_quiet (fail)
      go_wp2
      go_roundw
      case rel => exact ⟨k + 1, m + nq, by omega, by go_num, by rw [HR.out, World.drewN_drewN]; exact rfl⟩
      case measure => simp [intOf]; omega
    · obtain rfl : k = n := by omega
      go_wp2
      go_ret
      exact ⟨rfl, m, HR.out⟩
theorem sameMarks_any (A B : Option Addr) (n c d : Nat) (L : List Mk) (w : World) (ha : RdC 3 Mk.cells w A n L) (hb : RdC 3 Mk.cells w B n L) :
    Calls Try.prog 40 #[.slice A n c, .slice B n d] w fun e w' => e = .returned (.bool true) ∧ ∃ m, w' = w.drewN m := by
  have F := Lib.hid (sameMarks0_any A B n c d L w ha hb)
  clear ha hb
  go_enter Try.func40, Try.ntmps40
  go_wp2_with fail
  refine F.out.mono ?_
  rintro e w' ⟨rfl, m, hm⟩
  have HM := Lib.hid hm
  clear hm F
  go_wp2
  go_ret
  exact ⟨rfl, m, HM.out⟩
/-- a list with a mark in the room behind it -/
def LentM (L : List Mk) (n : Nat) (W : World) (e : Ending) (w' : World) : Prop := ∃ g c, e = .returned (.slice (some ⟨g, 0, none⟩) n c) ∧ n + 1 ≤ c ∧ W.heap.size ≤ g ∧ Below W.heap.size W w' ∧ RdC 3 Mk.cells w' (some ⟨g, 0, none⟩) (n + 1) (L ++ [⟨-77, 0, 0⟩])
set_option maxHeartbeats 8000000 in
set_option maxRecDepth 100000 in
theorem lentMarks_any (A : Option Addr) (n c : Nat) (L : List Mk) (w : World) (h : RdC 3 Mk.cells w A n L) (hA : A = none → n = 0 ∧ c = 0) (hsm : (n + 1) * 24 ≤ 140737488355328) :
    Calls Try.prog 36 #[.slice A n c] w (LentM L n w) := by
  have H := Lib.hid h
  have HL := Lib.hid h.len
  have HA := Lib.hid hA
  have HSM := Lib.hid hsm
  have hn : (n : Int) ≤ 6000000000000 := by omega
  clear h hA hsm
  go_enter Try.func36, Try.ntmps36
  go_wp2_with (at_builtin; refine wpList_app rfl (.tmp 4) (.tmp 5) rfl eltApiMark w.heap.size (.slice none 0 0) 0 [] rfl (World.ownsRow_nil _ _ _ _) A n c (CL Mk.cells L) rfl (by rw [CL_len (size := 3) (fun _ => rfl), HL.out]) HA.out (rdc_news (size := 3) (cells := Mk.cells) (by decide) (fun _ => rfl) H.out) (CL_one (cells := Mk.cells) Mk.one L) ?a3 ?a4 ?a5 ?_)
  case a3 => have := HSM.out; simp only [maxLen]; omega
  case a4 => have := HSM.out; omega
  case a5 => exact Nat.le_refl _
  intro A5 c5 w5 ho5 hg5 _
  have B5 : Hid (Below w.heap.size w w5) := ⟨hg5.os, hg5.tape, hg5.output, hg5.size, fun z hz => hg5.block z hz (fun e => by cases e)⟩
  have O5 : Hid (w5.ownsRow w.heap.size 49 3 (.slice A5 n c5) n (CL Mk.cells L)) := ho5
  clear ho5 hg5
  go_wp2_with (at_builtin; refine wpList_app rfl (.tmp 7) (.tmp 9) rfl eltApiMark w.heap.size (.slice A5 n c5) n (CL Mk.cells L) rfl (O5.out.alloc _) (some ⟨w5.heap.size, 0, none⟩) 1 1 (⟨-77, 0, 0⟩ : Mk).cells rfl rfl (fun h => by cases h) (fresh_news w5 (⟨-77, 0, 0⟩ : Mk).cells.toArray 49) (Mk.one ⟨-77, 0, 0⟩) ?b3 ?b4 ?b5 ?_)
  case b3 => have := HSM.out; simp only [maxLen]; omega
  case b4 => have := HSM.out; omega
  case b5 => have := B5.out.size; simp; omega
  intro A6 c6 w6 ho6 hg6 _
  have B6 : Hid (Below w.heap.size w w6) := below_own B5.out B5.out.size O5.out ((World.grownBy_alloc w5 _ _).trans hg6)
  have O6 : Hid (w6.ownsRow w.heap.size 49 3 (.slice A6 (n + 1) c6) (n + 1) (CL Mk.cells (L ++ [⟨-77, 0, 0⟩]))) := by rw [CL_push]; exact ho6
  have R6 : Hid (RdC 3 Mk.cells w6 A6 (n + 1) (L ++ [⟨-77, 0, 0⟩])) := rdMk O6.out (by simp [HL.out])
  have hcap : n + 1 ≤ c6 := by
    rcases O6.out.2 with ⟨hv, h0⟩ | ⟨g, cap, cur, hv, _, _, h1, _⟩
    · omega
    · cases hv; exact h1
  obtain ⟨g, cap, hv, hgb, _⟩ := O6.out.form (by omega)
  cases hv
  have hc2 : (n : Int) ≤ (c6 : Int) := by omega
  have hc3 : (n : Int) + 1 ≤ (c6 : Int) := by omega
  have hc4 : ¬ c6 = 0 := by omega
  have hc5 : ¬ c6 = n := by omega
  have HCAP := Lib.hid hcap
  have HGB := Lib.hid hgb
  clear ho6 hg6 O6 O5 B5 hcap hgb
  go_wp2_with fail
  go_ret
  exact ⟨g, _, rfl, HCAP.out, HGB.out, B6.out, R6.out⟩
set_option maxHeartbeats 8000000 in
set_option maxRecDepth 100000 in
theorem keptMarks_any (g : Nat) (A : Option Addr) (n c d : Nat) (L : List Mk) (w : World) (h : RdC 3 Mk.cells w A n L) (ho : RdC 3 Mk.cells w (some ⟨g, 0, none⟩) (n + 1) (L ++ [⟨-77, 0, 0⟩])) (hd : n + 1 ≤ d) (hsm : (n + 1) * 24 ≤ 140737488355328) :
    Calls Try.prog 44 #[.slice (some ⟨g, 0, none⟩) n d, .slice A n c] w fun e w' => e = .returned (.bool true) ∧ ∃ q, w' = w.drewN q := by
  have HL := Lib.hid h.len
  have RO : RdC 3 Mk.cells w (some ⟨g, 0, none⟩) n L := by
    have := ho.take n (by omega)
    rwa [List.take_left' h.len] at this
  have F := Lib.hid (sameMarks_any (some ⟨g, 0, none⟩) A n d c L w RO h)
  have HO := Lib.hid ho
  have hn : (n : Int) ≤ 6000000000000 := by omega
  have hc1 : (n : Int) + 1 ≤ (d : Int) := by omega
  have hc2 : (n : Int) ≤ (d : Int) := by omega
  have hc4 : ¬ d = 0 := by omega
  clear h ho hd hsm RO
  go_enter Try.func44, Try.ntmps44
  go_wp2_with fail
  refine F.out.mono ?_
  rintro e w2 ⟨rfl, q, rfl⟩
  have R2 := Lib.hid (HO.out.drewN q)
  obtain ⟨p0, p1, p2⟩ := R2.out.atMk0 (k := n) (x := ⟨-77, 0, 0⟩) (by rw [List.getElem?_append_right (by rw [HL.out]; exact Nat.le_refl _), HL.out]; simp)
  generalize hw : w.drewN q = w2 at R2 p0 p1 p2 ⊢
  have HW := Lib.hid hw
  clear hw F
  go_wp2_with fail
  go_ret
  exact ⟨rfl, q, HW.out.symm⟩
end Go.Proofs.Ytjjobgolpedgeaa
