/-
  Parts of the walks of TallyBallots and TallyAnswers. Merged by merge.py: TGiven, TGivE, TGivE2, TGiven2, TIntE, TLent, TDocV.
-/
import Derived.Test.YtjjobgolpedgeaaTPruneP
import Derived.Test.YtjjobgolpedgeaaTRefCmp
import Derived.Test.YtjjobgolpedgeaaTPutF
import Derived.Test.YtjjobgolpedgeaaTLog
import Derived.Test.YtjjobgolpedgeaaTSame
import Derived.Test.YtjjobgolpedgeaaTGA
import Derived.Test.YtjjobgolpedgeaaTGB
import Derived.Test.YtjjobgolpedgeaaTGC
set_option linter.unusedVariables false
set_option linter.unusedSimpArgs false
namespace Go.Proofs.Ytjjobgolpedgeaa
open Go.RowKit

theorem eltVecs : Elt Try.prog 72 63 (.slice none 0 0) 1 24 := ⟨Try.underlying72, by kernel_rfl, rfl, by decide⟩
theorem rdDw {w : World} {B n : Nat} {e : TypeId} {A : Option Addr} {c : Nat} {L : List Dw} (h : w.ownsRow B e 2 (.slice A n c) n (CL Dw.cells L)) (hl : L.length = n) : RdC 2 Dw.cells w A n L := rdc_own (size := 2) (cells := Dw.cells) (fun _ => rfl) h hl
theorem RdC.chg {α : Type} {S : Nat → Prop} {size : Nat} {cells : α → List Value} {w w1 : World} {A : Option Addr} {n : Nat} {l : List α} (h : RdC size cells w A n l) (hc : Chg S w w1) (hb : ∀ ad, A = some ad → ¬ S ad.block) : RdC size cells w1 A n l :=
  ⟨h.len, h.le, fun j x hj => by
    obtain ⟨ad, e, hcl⟩ := h.cell j x hj
    refine ⟨ad, e, fun i u hu => ?_⟩
    have h1 := hcl i u hu
    exact (World.cell?_of_block (a := ad.add (j * size + i)) (hc.block (ad.add (j * size + i)).block (World.block_lt_of_cell? w _ h1) (by rw [add_block]; exact hb ad e))).trans h1⟩
set_option maxHeartbeats 1600000 in
theorem copyVector_any (A : Option Addr) (n c : Nat) (L : List Dw) (w : World) (h : RdC 2 Dw.cells w A n L) (hA : A = none → n = 0 ∧ c = 0) (hsm : n * 16 ≤ 140737488355328) :
    Calls Try.prog 96 #[.slice A n c] w (RetL 27 2 Dw.cells w L) := by
  have H := Lib.hid h
  have HL := Lib.hid h.len
  have HA := Lib.hid hA
  have HSM := Lib.hid hsm
  clear h hA hsm
  go_enter Try.func96, Try.ntmps96
  go_wp2_with (at_builtin; refine wpList_app rfl (.const (.slice none 0 0)) (.tmp 3) rfl eltVector w.heap.size (.slice none 0 0) 0 [] rfl (World.ownsRow_nil _ _ _ _) A n c (CL Dw.cells L) rfl (by rw [CL_len (size := 2) (fun _ => rfl), HL.out]) HA.out (rdc_news (size := 2) (cells := Dw.cells) (by decide) (fun _ => rfl) H.out) (CL_one (cells := Dw.cells) Dw.one L) ?a3 ?a4 ?a5 ?_)
  case a3 => have := HSM.out; simp only [maxLen]; omega
  case a4 => have := HSM.out; omega
  case a5 => exact Nat.le_refl _
  intro A5 c5 w5 ho5 hg5 _
  have B5 : Hid (Below w.heap.size w w5) := ⟨hg5.os, hg5.tape, hg5.output, hg5.size, fun z hz => hg5.block z hz (fun e => by cases e)⟩
  have O5 : Hid (w5.ownsRow w.heap.size 27 2 (.slice A5 n c5) n (CL Dw.cells L)) := ho5
  clear ho5 hg5
  go_wp2_with fail
  go_ret
  exact ⟨A5, c5, by rw [HL.out]; exact rfl, B5.out, by rw [HL.out]; exact O5.out⟩
set_option maxHeartbeats 1600000 in
theorem sameVector_any (A B : Option Addr) (n c d : Nat) (L : List Dw) (w : World) (ha : RdC 2 Dw.cells w A n L) (hb : RdC 2 Dw.cells w B n L) :
    Calls Try.prog 108 #[.slice A n c, .slice B n d] w fun e w' => e = .returned (.bool true) ∧ ∃ m, w' = w.drewN m := by
  have HA := Lib.hid ha
  have HB := Lib.hid hb
  have hn : (n : Int) ≤ 9223372036854775807 := by have := ha.le; omega
  clear ha hb
  go_enter Try.func108, Try.ntmps108
  go_wp2
  go_loopw [5] (fun i wr => ∃ (k m : Nat), k ≤ n ∧ i = .int .i64 k ∧ Hid (wr = w.drewN m)) (fun i _ => n - (intOf i).toNat)
  case atStart => exact ⟨0, 0, by omega, rfl, rfl⟩
  case round =>
    obtain ⟨k, m, hk, rfl, HR⟩ := hrel
    by_cases hkn : k < n
    · obtain ⟨x, hx⟩ : ∃ x, L[k]? = some x := ⟨_, List.getElem?_eq_getElem (by have := HA.out.len; omega)⟩
      have HA' : RdC 2 Dw.cells wr A n L := by rw [HR.out]; exact HA.out.drewN m
      have HB' : RdC 2 Dw.cells wr B n L := by rw [HR.out]; exact HB.out.drewN m
      obtain ⟨ad, rfl, g0, g1⟩ := HA'.atDw hx
      obtain ⟨bd, rfl, p0, p1⟩ := HB'.atDw hx
      have e1 : IntKind.i64.wrap ((k : Int) + 1) = (k : Int) + 1 := by rw [IntKind.wrap_i64]; omega
      clear hx HA' HB'
      go_wp2
      go_quiet (fail)
      go_wp2
      go_roundw
      case rel => exact ⟨k + 1, m + nq, by omega, by go_num, by rw [HR.out, World.drewN_drewN]; exact rfl⟩
      case measure => simp [intOf]; omega
    · obtain rfl : k = n := by omega
      go_wp2
      go_ret
      exact ⟨rfl, m, HR.out⟩
abbrev nil10 : List Value := [.slice none 0 0, .slice none 0 0, .slice none 0 0, .slice none 0 0, .slice none 0 0, .slice none 0 0, .slice none 0 0, .slice none 0 0, .slice none 0 0, .slice none 0 0]
abbrev two10 (x y : Value) : List Value := [.slice none 0 0, .slice none 0 0, x, y, .slice none 0 0, .slice none 0 0, .slice none 0 0, .slice none 0 0, .slice none 0 0, .slice none 0 0]
/-- Given, behind one Vector -/
structure GvV (w : World) (g : Nat) (n : Nat) (V : List Dw) (d1 d2 : Addr) (e1 e2 : Nat) (A2 A5 : Option Addr) (c2 c5 : Nat) : Prop where
  ob : Ob w g (two10 (.slice (some d1) 1 e1) (.slice (some d2) 1 e2))
  c1 : w.cell? d1 = some (.slice A2 n c2)
  c2 : w.cell? d2 = some (.slice A5 n c5)
  r1 : RdC 2 Dw.cells w A2 n V
  r2 : RdC 2 Dw.cells w A5 n V
set_option maxHeartbeats 8000000 in
set_option maxRecDepth 100000 in
theorem intact_any (g n : Nat) (V : List Dw) (d1 d2 : Addr) (e1 e2 : Nat) (A2 A5 : Option Addr) (c2 c5 : Nat) (w : World) (h : GvV w g n V d1 d2 e1 e2 A2 A5 c2 c5) :
    Calls Try.prog 45 #[.pointer (some ⟨g, 0, none⟩)] w fun e w' => e = .returned (.bool true) ∧ ∃ q, w' = w.drewN q := by
  have H := Lib.hid h
  clear h
  have o0 := H.out.ob.cell 0 rfl
  have o2 := H.out.ob.cell 2 rfl
  have o3 := H.out.ob.cell 3 rfl
  have o4 := H.out.ob.cell 4 rfl
  have o6 := H.out.ob.cell 6 rfl
  have o8 := H.out.ob.cell 8 rfl
  have t1 := H.out.c1
  have t2 := H.out.c2
  go_enter Try.func45, Try.ntmps45
  go_wp2
  refine wp_loop_rounds 1 ?_
  rw [rounds_succ]
  go_wp2
  refine wp_loop_rounds 1 ?_
  rw [rounds_succ]
  go_wp2
  refine wp_loop_rounds 1 ?_
  rw [rounds_succ]
  go_wp2
  refine wp_loop_rounds 2 ?_
  rw [rounds_succ]
  have Q := Lib.hid (fun q => Calls.quiet_of (sameVector_any A2 A5 n c2 c5 V (w.drewN q) (H.out.r1.drewN q) (H.out.r2.drewN q)))
  go_upto_region 19 with fail
  go_quiet ((go_at_call 108; (with_reducible exact Q.out _)))
  go_wp2
  rw [rounds_succ]
  go_wp2
  refine wp_loop_rounds 1 ?_
  rw [rounds_succ]
  go_wp2
  go_ret
  exact ⟨rfl, nq, rfl⟩
/-- what Given.Vector answers -/
def VecOut (g n : Nat) (V : List Dw) (W : World) (e : Ending) (w' : World) : Prop :=
  ∃ b c d1 d2 e1 e2 A5 c5, e = .returned (.slice (some b) n c) ∧ Chg (fun j => j = g) W w' ∧ W.heap.size ≤ b.block ∧ GvV w' g (n + 1) (V ++ [⟨77, 88⟩]) d1 d2 e1 e2 (some b) A5 c c5
set_option maxHeartbeats 8000000 in
set_option maxRecDepth 100000 in
theorem givenVector_any (g : Nat) (A : Option Addr) (n c : Nat) (V : List Dw) (w : World) (hg : Ob w g nil10) (h : RdC 2 Dw.cells w A n V) (hA : A = none → n = 0 ∧ c = 0) (hsm : (n + 2) * 16 ≤ 140737488355328) :
    Calls Try.prog 37 #[.pointer (some ⟨g, 0, none⟩), .slice A n c] w (VecOut g n V w) := by
  have HG := Lib.hid hg
  have H := Lib.hid h
  have HL := Lib.hid h.len
  have HA := Lib.hid hA
  have HSM := Lib.hid hsm
  have hn : (n : Int) ≤ 100000000000000 := by omega
  have HZG := Lib.hid (hg.lt (by simp))
  clear hg h hA hsm
  go_enter Try.func37, Try.ntmps37
  go_wp2_with fail
  refine (copyVector_any A n c V _ H.out HA.out (by have := HSM.out; omega)).mono ?_
  rw [show (RetL 27 2 Dw.cells w V) = fun e w' => ∃ A c, e = .returned (.slice A n c) ∧ Below w.heap.size w w' ∧ w'.ownsRow w.heap.size 27 2 (.slice A n c) n (CL Dw.cells V) by funext e w'; unfold RetL; rw [HL.out]]
  rintro e w1 ⟨A1, c1, rfl, hb1, ho1⟩
  have B1 := Lib.hid hb1
  have O1 := Lib.hid ho1
  clear hb1 ho1
  go_wp2_with (at_builtin; refine wpList_app rfl (.tmp 7) (.tmp 9) rfl eltVector w.heap.size (.slice A1 n c1) n (CL Dw.cells V) rfl (O1.out.alloc _) (some ⟨w1.heap.size, 0, none⟩) 1 1 (⟨77, 88⟩ : Dw).cells rfl rfl (fun h => by cases h) (fresh_news w1 (⟨77, 88⟩ : Dw).cells.toArray 27) (Dw.one ⟨77, 88⟩) ?b3 ?b4 ?b5 ?_)
  case b3 => have := HSM.out; simp only [maxLen]; omega
  case b4 => have := HSM.out; omega
  case b5 => have := B1.out.size; simp; omega
  intro A2 c2 w2 ho2 hg2 _
  have B2 : Hid (Below w.heap.size w w2) := below_own B1.out B1.out.size O1.out ((World.grownBy_alloc w1 _ _).trans hg2)
  have O2 : Hid (w2.ownsRow w.heap.size 27 2 (.slice A2 (n + 1) c2) (n + 1) (CL Dw.cells (V ++ [⟨77, 88⟩]))) := by rw [CL_push]; exact ho2
  have R2 : Hid (RdC 2 Dw.cells w2 A2 (n + 1) (V ++ [⟨77, 88⟩])) := rdDw O2.out (by simp [HL.out])
  have hcap : n + 1 ≤ c2 := by
    rcases O2.out.2 with ⟨hv, h0⟩ | ⟨q, cap, cur, hv, _, _, h1, _⟩
    · omega
    · cases hv; exact h1
  obtain ⟨b, cap, hv, hgb, _⟩ := O2.out.form (by omega)
  cases hv
  have HBB : Hid (b < w2.heap.size) := (O2.out.lt b rfl).2
  have HGB := Lib.hid hgb
  have HG2 : Hid (g < w2.heap.size) := Nat.lt_of_lt_of_le HZG.out B2.out.size
  have hc2 : (n : Int) ≤ (c2 : Int) := by omega
  have hc3 : ¬ c2 = 0 := by omega
  have hc4 : ¬ c2 = n := by omega
  have OG2 := Lib.hid (HG.out.below B2.out)
  have g2 := OG2.out.cell 2 rfl
  clear ho2 hg2 hcap hgb O1 B1 HG
  go_wp2_with (at_builtin; refine wpList_app rfl (.tmp 15) (.tmp 17) rfl eltVecs w2.heap.size (.slice none 0 0) 0 [] rfl (World.ownsRow_nil _ _ _ _) (some ⟨w2.heap.size, 0, none⟩) 1 1 [.slice (some ⟨b, 0, none⟩) (n + 1) c2] rfl rfl (fun h => by cases h) (fresh_news w2 #[.slice (some ⟨b, 0, none⟩) (n + 1) c2] 63) (by intro u hu; simp at hu; subst hu; rfl) ?e3 ?e4 ?e5 ?_)
  case e3 => simp only [maxLen]; omega
  case e4 => omega
  case e5 => simp
  intro A3 c3 w3 ho3 hg3 _
  have B3 : Hid (Below w2.heap.size w2 w3) := (below_al w2 _).trans ⟨hg3.os, hg3.tape, hg3.output, hg3.size, fun z hz => hg3.block z (by simp; omega) (fun e => by cases e)⟩
  have OG3 := Lib.hid (OG2.out.below B3.out)
  have R3 := Lib.hid (R2.out.below B3.out)
  obtain ⟨d1, cap1, hv1, hd1, _⟩ := ho3.form (by decide)
  cases hv1
  have T3 : Hid (w3.cell? ⟨d1, 0, none⟩ = some (.slice (some ⟨b, 0, none⟩) (n + 1) c2)) := ho3.cells (g := d1) rfl 0 _ rfl
  have HD1 := Lib.hid hd1
  clear ho3 hg3 hd1 g2
  have g2 := OG3.out.cell 2 rfl
  have f2 := OG3.out.fr 2 (by simp)
  have z3 : g < w3.heap.size := OG3.out.lt (by simp)
  go_upto_region 3 with fail
  clear g2 f2 z3
  have OG4 : Hid (Ob (w3.setCell ⟨g, 2, none⟩ (.slice (some ⟨d1, 0, none⟩) 1 c3)) g (two10 (.slice (some ⟨d1, 0, none⟩) 1 c3) (.slice none 0 0))) := OG3.out.set 2 (by simp) _
  have C4 : Hid (Chg (fun j => j = g) w (w3.setCell ⟨g, 2, none⟩ (.slice (some ⟨d1, 0, none⟩) 1 c3))) := ((((Chg.refl _ w).grown (grown_of_below (B2.out.mono (Nat.le_refl _)) none) (fun j e => by cases e)).grown (grown_of_below B3.out none) (fun j e => by cases e))).grown (grown_setCell _ _ _) (fun j e => by cases e; exact .inl rfl)
  have T4 : Hid ((w3.setCell ⟨g, 2, none⟩ (.slice (some ⟨d1, 0, none⟩) 1 c3)).cell? ⟨d1, 0, none⟩ = some (.slice (some ⟨b, 0, none⟩) (n + 1) c2)) := (grown_setCell w3 ⟨g, 2, none⟩ _).cell T3.out (by have h1 := HZG.out; have h2 := HD1.out; have h3 := B2.out.size; intro e; simp at e; omega)
  have R4 : Hid (RdC 2 Dw.cells (w3.setCell ⟨g, 2, none⟩ (.slice (some ⟨d1, 0, none⟩) 1 c3)) (some ⟨b, 0, none⟩) (n + 1) (V ++ [⟨77, 88⟩])) := R3.out.grown (grown_setCell w3 ⟨g, 2, none⟩ _) (fun ad e => by cases e; have h1 := HZG.out; have h2 := HGB.out; intro e; simp at e; omega)
  have S4 : Hid (w.heap.size ≤ (w3.setCell ⟨g, 2, none⟩ (.slice (some ⟨d1, 0, none⟩) 1 c3)).heap.size) := by have h1 := B2.out.size; have h2 := B3.out.size; simp only [Hid, World.size_setCell]; omega
  generalize w3.setCell ⟨g, 2, none⟩ (.slice (some ⟨d1, 0, none⟩) 1 c3) = w4 at OG4 C4 T4 R4 S4 ⊢
  clear B3 OG3 R3 T3 OG2 R2 O2 B2
  have FC : Hid (∀ W', (∃ m, W' = w4.drewN m) → Calls Try.prog 96 #[.slice (some ⟨b, 0, none⟩) (n + 1) c2] W' fun e w5 => ∃ (A5 : Option Addr) (c5 : Nat), e = .returned (.slice A5 (n + 1) c5) ∧ w5.cell? ⟨g, 3, none⟩ = some (.slice none 0 0) ∧ g < w5.heap.size ∧ Hid (Below w4.heap.size w4 w5 ∧ RdC 2 Dw.cells w5 A5 (n + 1) (V ++ [⟨77, 88⟩]) ∧ ∀ ad, A5 = some ad → w4.heap.size ≤ ad.block)) := by
    rintro W' ⟨m, rfl⟩
    refine (copyVector_any (some ⟨b, 0, none⟩) (n + 1) c2 (V ++ [⟨77, 88⟩]) _ (R4.out.drewN m) (fun e => by cases e) (by have := HSM.out; omega)).mono ?_
    rintro e w5 ⟨A5, c5, rfl, hb5, ho5⟩
    have hl : (V ++ [(⟨77, 88⟩ : Dw)]).length = n + 1 := by simp [HL.out]
    rw [hl] at ho5
    have hb : Below w4.heap.size w4 w5 := (Below.drewN (Below.refl _ _) m).trans hb5
    have OG5 := OG4.out.below hb
    exact ⟨A5, c5, by rw [hl], OG5.cell 3 rfl, OG5.lt (by simp), hb, rdDw ho5 hl, fun ad e => by subst e; exact (ho5.lt ad.block rfl).1⟩
  have HG4 : Hid (g < w4.heap.size) := OG4.out.lt (by simp)
  have q3 := OG4.out.cell 3 rfl
  have hba : Hid (∀ (w5 : World) o, w4.heap.size ≤ w5.heap.size → w4.heap.size ≤ (w5.alloc o).heap.size) := fun w5 o h => by simp; omega
  go_region_law (first | (refine step_app rfl (.tmp 25) (.tmp 28) rfl eltVecs w4.heap.size (.slice none 0 0) 0 [] rfl (World.ownsRow_nil _ _ _ _) (some _) 1 1 [.slice A5 (n + 1) c5] rfl rfl (fun h => by cases h) (fresh_news _ #[.slice A5 (n + 1) c5] 63) (by intro u hu; simp at hu; subst hu; rfl) (by simp only [maxLen]; omega) (by omega) (hba.out _ _ S5.out.1.size) ?_; intro A6 c6 w6 ho6 hg6 _; have HO6 := Lib.hid ho6; have B6 : Hid (Below w4.heap.size w4 w6) := (S5.out.1.alloc S5.out.1.size _).trans ⟨hg6.os, hg6.tape, hg6.output, hg6.size, fun z hz => hg6.block z (Nat.lt_of_lt_of_le hz (hba.out _ _ S5.out.1.size)) (fun e => by cases e)⟩; have R6 : Hid (RdC 2 Dw.cells w6 A5 (n + 1) (V ++ [⟨77, 88⟩])) := (S5.out.2.1.grown ((World.grownBy_alloc _ _ _).trans hg6) (fun ad e => by intro h; cases h)); have OG6 := Lib.hid (OG4.out.below B6.out); have HA5 := Lib.hid S5.out.2.2; have q1 := OG6.out.cell 3 rfl; have q2 := OG6.out.fr 3 (by simp); have q4 := OG6.out.lt (by simp); clear ho6 hg6) | (go_simp; go_at_call 96; go_must (refine (FC.out _ ?_).mono ?_); go_must (focus (first | exact ⟨0, rfl⟩ | exact ⟨1, rfl⟩)); go_must (rintro e w5 ⟨A5, c5, rfl, hc5, hp5, S5⟩)))
  all_goals
    clear q1 q2 q4 hc5 hp5
    obtain ⟨d2, cap2, hv2, hd2, _⟩ := HO6.out.form (by decide)
    cases hv2
    have T6 : Hid (w6.cell? ⟨d2, 0, none⟩ = some (.slice A5 (n + 1) c5)) := HO6.out.cells (g := d2) rfl 0 _ rfl
    have HD2 := Lib.hid hd2
    clear hd2
    go_wp2_with fail
    go_ret
    refine ⟨⟨b, 0, none⟩, c2, ⟨d1, 0, none⟩, ⟨d2, 0, none⟩, c3, c6, A5, c5, rfl, (C4.out.grown (grown_of_below B6.out none) (fun j e => by cases e)).grown (grown_setCell _ _ _) (fun j e => by cases e; exact .inl rfl), HGB.out, ?_⟩
    refine ⟨OG6.out.set 3 (by simp) _, ?_, ?_, ?_, ?_⟩
    · exact (grown_setCell w6 ⟨g, 3, none⟩ _).cell ((B6.out.cell (World.block_lt_of_cell? w4 _ T4.out)).trans T4.out) (by have h1 := HG2.out; have h2 := HD1.out; intro e; simp at e; omega)
    · exact (grown_setCell w6 ⟨g, 3, none⟩ _).cell T6.out (by have h1 := HG4.out; have h2 := HD2.out; intro e; simp at e; omega)
    · exact (R4.out.below B6.out).grown (grown_setCell w6 ⟨g, 3, none⟩ _) (fun ad e => by cases e; have h1 := HZG.out; have h2 := HGB.out; intro e; simp at e; omega)
    · exact R6.out.grown (grown_setCell w6 ⟨g, 3, none⟩ _) (fun ad e => by have h1 := HA5.out ad e; have h2 := HG4.out; intro e; simp at e; omega)
end Go.Proofs.Ytjjobgolpedgeaa
set_option linter.unusedVariables false
set_option linter.unusedSimpArgs false
namespace Go.Proofs.Ytjjobgolpedgeaa
open Go.RowKit

structure GE where
  A : Option Addr
  n : Nat
  c : Nat
  bs : List Et
def GE.v (x : GE) : Value := .slice x.A x.n x.c
abbrev markE : Et := ⟨-77, -88, 0, 0, ByteArray.empty⟩
/-- one of the lists: it reads; its memory is none of the rows' -/
def GE.Ok (w : World) (p : Nat) (b0 b1 : Option Nat) (x : GE) : Prop :=
  RdC 5 Et.cells w x.A x.n x.bs ∧ (x.A = none → x.n = 0 ∧ x.c = 0) ∧ x.n ≤ x.c ∧ ∀ ad, x.A = some ad → p < ad.block ∧ ad.block < w.heap.size ∧ some ad.block ≠ b0 ∧ some ad.block ≠ b1
abbrev g10 (d0 d1 e0 e1 : Value) : List Value := [.slice none 0 0, .slice none 0 0, d0, d1, e0, e1, .slice none 0 0, .slice none 0 0, .slice none 0 0, .slice none 0 0]
structure GvE (w : World) (p : Nat) (d0 d1 : Value) (G : Option Addr) (c : Nat) (G' : Option Addr) (c' : Nat) (xs ys : List GE) : Prop where
  ob : Ob w p (g10 d0 d1 (.slice G xs.length c) (.slice G' ys.length c'))
  o0 : w.ownsRow (p + 1) 36 1 (.slice G xs.length c) xs.length (xs.map GE.v)
  o1 : w.ownsRow (p + 1) 36 1 (.slice G' ys.length c') ys.length (ys.map GE.v)
  ne : ∀ b, (Value.slice G xs.length c).ownBlock = some b → (Value.slice G' ys.length c').ownBlock = some b → False
  e0 : ∀ x ∈ xs, x.Ok w p (Value.slice G xs.length c).ownBlock (Value.slice G' ys.length c').ownBlock
  e1 : ∀ x ∈ ys, x.Ok w p (Value.slice G xs.length c).ownBlock (Value.slice G' ys.length c').ownBlock
theorem GvE.lt {w : World} {p : Nat} {d0 d1 : Value} {G : Option Addr} {c : Nat} {G' : Option Addr} {c' : Nat} {xs ys : List GE} (h : GvE w p d0 d1 G c G' c' xs ys) : p < w.heap.size := h.ob.lt (by simp)
theorem GE.Ok.below {w w1 : World} {p : Nat} {b0 b1 : Option Nat} {x : GE} (h : x.Ok w p b0 b1) (hb : Below w.heap.size w w1) : x.Ok w1 p b0 b1 :=
  ⟨h.1.below hb, h.2.1, h.2.2.1, fun ad e => by have h4 := h.2.2.2 ad e; have := hb.size; exact ⟨by omega, by omega, h4.2.2⟩⟩
/-- nothing of it lies in a block that was grown -/
theorem GE.Ok.grown {w w1 : World} {p : Nat} {b0 b1 : Option Nat} {x : GE} (h : x.Ok w p b0 b1) {row : Option Nat} (hg : w.grownBy w1 row) (hr : ∀ ad, x.A = some ad → some ad.block ≠ row) : x.Ok w1 p b0 b1 :=
  ⟨h.1.grown hg hr, h.2.1, h.2.2.1, fun ad e => by have h4 := h.2.2.2 ad e; have := hg.size; exact ⟨by omega, by omega, h4.2.2⟩⟩
theorem GvE.grown {w w1 : World} {p : Nat} {d0 d1 : Value} {G : Option Addr} {c : Nat} {G' : Option Addr} {c' : Nat} {xs ys : List GE} (h : GvE w p d0 d1 G c G' c' xs ys) {row : Option Nat} (hg : w.grownBy w1 row)
    (hp : some p ≠ row) (h0 : ∀ b, (Value.slice G xs.length c).ownBlock = some b → some b ≠ row) (h1 : ∀ b, (Value.slice G' ys.length c').ownBlock = some b → some b ≠ row)
    (hx : ∀ x ∈ xs, ∀ ad, x.A = some ad → some ad.block ≠ row) (hy : ∀ x ∈ ys, ∀ ad, x.A = some ad → some ad.block ≠ row) : GvE w1 p d0 d1 G c G' c' xs ys := by
  refine ⟨h.ob.kept hg hp, h.o0.kept hg ?_, h.o1.kept hg ?_, h.ne, fun x hm => (h.e0 x hm).grown hg (hx x hm), fun x hm => (h.e1 x hm).grown hg (hy x hm)⟩
  · cases h6 : (Value.slice G xs.length c).ownBlock with
    | none => exact .inl rfl
    | some b => exact .inr (fun e => h0 b h6 e)
  · cases h6 : (Value.slice G' ys.length c').ownBlock with
    | none => exact .inl rfl
    | some b => exact .inr (fun e => h1 b h6 e)
theorem GvE.below {w w1 : World} {p : Nat} {d0 d1 : Value} {G : Option Addr} {c : Nat} {G' : Option Addr} {c' : Nat} {xs ys : List GE} (h : GvE w p d0 d1 G c G' c' xs ys) (hb : Below w.heap.size w w1) : GvE w1 p d0 d1 G c G' c' xs ys :=
  h.grown (grown_of_below hb none) (by simp) (by simp) (by simp) (by simp) (by simp)
theorem GvE.drewN {w : World} {p : Nat} {d0 d1 : Value} {G : Option Addr} {c : Nat} {G' : Option Addr} {c' : Nat} {xs ys : List GE} (h : GvE w p d0 d1 G c G' c' xs ys) (m : Nat) : GvE (w.drewN m) p d0 d1 G c G' c' xs ys := h.below (Below.drewN (Below.refl _ _) m)
/-- an element behind an append to the row b0, and the store of the row's slice -/
theorem GE.Ok.step {w w1 : World} {p : Nat} {b0 b1 b2 : Option Nat} {x : GE} (h : x.Ok w p b0 b1) (hg : w.grownBy w1 b0) {H : Nat} (hb : b2 = b0 ∨ b2 = some H) (hH : w.heap.size ≤ H) (i : Nat) (u : Value) : x.Ok (w1.setCell ⟨p, i, none⟩ u) p b2 b1 := by
  refine ⟨(h.1.grown hg fun ad e => (h.2.2.2 ad e).2.2.1).grown (grown_setCell w1 ⟨p, i, none⟩ u) (fun ad e => by have := (h.2.2.2 ad e).1; simp; omega), h.2.1, h.2.2.1, fun ad e => ?_⟩
  have h4 := h.2.2.2 ad e
  refine ⟨h4.1, ?_, ?_, h4.2.2.2⟩
  · have := hg.size
    simp; omega
  · rcases hb with rfl | rfl
    · exact h4.2.2.1
    · intro e2
      cases e2
      omega
theorem GE.Ok.flip {w : World} {p : Nat} {b0 b1 : Option Nat} {x : GE} (h : x.Ok w p b0 b1) : x.Ok w p b1 b0 := ⟨h.1, h.2.1, h.2.2.1, fun ad e => by have h4 := h.2.2.2 ad e; exact ⟨h4.1, h4.2.1, h4.2.2.2, h4.2.2.1⟩⟩
theorem own_setE {w : World} {p : Nat} {e : TypeId} {size n : Nat} {v : Value} {l : List Value} (h : w.ownsRow (p + 1) e size v n l) (i : Nat) (u : Value) : (w.setCell ⟨p, i, none⟩ u).ownsRow (p + 1) e size v n l := ownsRow_setCell_below h (by show p < p + 1; omega) u
/-- one more in the first row -/
theorem GvE.push0 {w w1 : World} {p : Nat} {d0 d1 : Value} {G : Option Addr} {c : Nat} {G' : Option Addr} {c' : Nat} {xs ys : List GE} (h : GvE w p d0 d1 G c G' c' xs ys) {x : GE} (hx : x.Ok w p (Value.slice G xs.length c).ownBlock (Value.slice G' ys.length c').ownBlock)
    {G2 : Option Addr} {c2 : Nat} (ho : w1.ownsRow (p + 1) 36 1 (.slice G2 (xs.length + 1) c2) (xs.length + 1) (xs.map GE.v ++ [x.v])) (hg : w.grownBy w1 (Value.slice G xs.length c).ownBlock)
    {H : Nat} (hb : (Value.slice G2 (xs.length + 1) c2).ownBlock = (Value.slice G xs.length c).ownBlock ∨ (Value.slice G2 (xs.length + 1) c2).ownBlock = some H) (hH : w.heap.size ≤ H) :
    GvE (w1.setCell ⟨p, 4, none⟩ (.slice G2 (xs.length + 1) c2)) p d0 d1 G2 c2 G' c' (xs ++ [x]) ys := by
  have hp := h.lt
  have hpG : some p ≠ (Value.slice G xs.length c).ownBlock := fun e => by have := (h.o0.lt _ e.symm).1; omega
  have hlen : (xs ++ [x]).length = xs.length + 1 := by simp
  refine ⟨?_, ?_, ?_, ?_, ?_, ?_⟩
  · rw [hlen]; exact (h.ob.kept hg hpG).set 4 (by simp) _
  · rw [hlen, List.map_append]; exact own_setE ho 4 _
  · refine own_setE (h.o1.kept hg ?_) 4 _
    cases h6 : (Value.slice G' ys.length c').ownBlock with
    | none => exact .inl rfl
    | some b => exact .inr fun e => h.ne b e.symm h6
  · rw [hlen]
    intro b e1 e2
    rcases hb with hb | hb
    · exact h.ne b (hb ▸ e1) e2
    · rw [hb] at e1
      cases e1
      have := (h.o1.lt _ e2).2
      omega
  · rw [hlen]
    intro y hy
    rcases List.mem_append.1 hy with hy | hy
    · exact (h.e0 y hy).step hg hb hH 4 _
    · rw [List.mem_singleton.1 hy]; exact hx.step hg hb hH 4 _
  · rw [hlen]
    intro y hy
    exact (h.e1 y hy).step hg hb hH 4 _
/-- one more in the second row -/
theorem GvE.push1 {w w1 : World} {p : Nat} {d0 d1 : Value} {G : Option Addr} {c : Nat} {G' : Option Addr} {c' : Nat} {xs ys : List GE} (h : GvE w p d0 d1 G c G' c' xs ys) {x : GE} (hx : x.Ok w p (Value.slice G xs.length c).ownBlock (Value.slice G' ys.length c').ownBlock)
    {G2 : Option Addr} {c2 : Nat} (ho : w1.ownsRow (p + 1) 36 1 (.slice G2 (ys.length + 1) c2) (ys.length + 1) (ys.map GE.v ++ [x.v])) (hg : w.grownBy w1 (Value.slice G' ys.length c').ownBlock)
    {H : Nat} (hb : (Value.slice G2 (ys.length + 1) c2).ownBlock = (Value.slice G' ys.length c').ownBlock ∨ (Value.slice G2 (ys.length + 1) c2).ownBlock = some H) (hH : w.heap.size ≤ H) :
    GvE (w1.setCell ⟨p, 5, none⟩ (.slice G2 (ys.length + 1) c2)) p d0 d1 G c G2 c2 xs (ys ++ [x]) := by
  have hp := h.lt
  have hpG : some p ≠ (Value.slice G' ys.length c').ownBlock := fun e => by have := (h.o1.lt _ e.symm).1; omega
  have hlen : (ys ++ [x]).length = ys.length + 1 := by simp
  refine ⟨?_, ?_, ?_, ?_, ?_, ?_⟩
  · rw [hlen]; exact (h.ob.kept hg hpG).set 5 (by simp) _
  · refine own_setE (h.o0.kept hg ?_) 5 _
    cases h6 : (Value.slice G xs.length c).ownBlock with
    | none => exact .inl rfl
    | some b => exact .inr fun e => h.ne b h6 e.symm
  · rw [hlen, List.map_append]; exact own_setE ho 5 _
  · rw [hlen]
    intro b e1 e2
    rcases hb with hb | hb
    · exact h.ne b e1 (hb ▸ e2)
    · rw [hb] at e2
      cases e2
      have := (h.o0.lt _ e1).2
      omega
  · rw [hlen]
    intro y hy
    exact ((h.e0 y hy).flip.step hg hb hH 5 _).flip
  · rw [hlen]
    intro y hy
    rcases List.mem_append.1 hy with hy | hy
    · exact ((h.e1 y hy).flip.step hg hb hH 5 _).flip
    · rw [List.mem_singleton.1 hy]; exact (hx.flip.step hg hb hH 5 _).flip
theorem eltEnts : Elt Try.prog 73 36 (.slice none 0 0) 1 24 := ⟨Try.underlying73, by kernel_rfl, rfl, by decide⟩
set_option maxHeartbeats 1600000 in
theorem copyEntries_any (A : Option Addr) (n c : Nat) (L : List Et) (w : World) (h : RdC 5 Et.cells w A n L) (hA : A = none → n = 0 ∧ c = 0) (hsm : n * 48 ≤ 140737488355328) :
    Calls Try.prog 123 #[.slice A n c] w fun e w' => ∃ A' c', e = .returned (.slice A' n c') ∧ Below w.heap.size w w' ∧ w'.ownsRow w.heap.size 156 5 (.slice A' n c') n (CL Et.cells L) := by
  have H := Lib.hid h
  have HL := Lib.hid h.len
  have HA := Lib.hid hA
  have HSM := Lib.hid hsm
  clear h hA hsm
  go_enter Try.func123, Try.ntmps123
  go_wp2_with (at_builtin; refine wpList_app rfl (.const (.slice none 0 0)) (.tmp 3) rfl eltEntry w.heap.size (.slice none 0 0) 0 [] rfl (World.ownsRow_nil _ _ _ _) A n c (CL Et.cells L) rfl (by rw [CL_len (size := 5) (fun _ => rfl), HL.out]) HA.out (rdc_news (size := 5) (cells := Et.cells) (by decide) (fun _ => rfl) H.out) (CL_one (cells := Et.cells) Et.one L) ?a3 ?a4 ?a5 ?_)
  case a3 => have := HSM.out; simp only [maxLen]; omega
  case a4 => have := HSM.out; omega
  case a5 => exact Nat.le_refl _
  intro A5 c5 w5 ho5 hg5 _
  have B5 : Hid (Below w.heap.size w w5) := ⟨hg5.os, hg5.tape, hg5.output, hg5.size, fun z hz => hg5.block z hz (fun e => by cases e)⟩
  have O5 : Hid (w5.ownsRow w.heap.size 156 5 (.slice A5 n c5) n (CL Et.cells L)) := ho5
  clear ho5 hg5
  go_wp2_with fail
  go_ret
  exact ⟨A5, c5, rfl, B5.out, O5.out⟩
/-- a new list is none of the rows' -/
theorem GvE.fresh {w w1 : World} {p : Nat} {d0 d1 : Value} {G : Option Addr} {c : Nat} {G' : Option Addr} {c' : Nat} {xs ys : List GE} (h : GvE w p d0 d1 G c G' c' xs ys) {A : Option Addr} {n d : Nat} {L : List Et} (hl : L.length = n)
    (ho : w1.ownsRow w.heap.size 156 5 (.slice A n d) n (CL Et.cells L)) : (GE.mk A n d L).Ok w1 p (Value.slice G xs.length c).ownBlock (Value.slice G' ys.length c').ownBlock := by
  have hp := h.lt
  refine ⟨rdc_own (size := 5) (cells := Et.cells) (fun _ => rfl) ho hl, fun hA => ?_, ?_, fun ad e => ?_⟩
  · simp only at hA
    subst hA
    rcases ho.2 with ⟨hv, h0⟩ | ⟨g, cap, cur, hv, _⟩
    · cases hv; exact ⟨rfl, rfl⟩
    · cases hv
  · rcases ho.2 with ⟨hv, h0⟩ | ⟨q, cap, cur, hv, _, _, h1, _⟩
    · cases hv; exact Nat.le_refl _
    · cases hv; exact h1
  · simp only at e
    subst e
    have h3 := ho.lt ad.block rfl
    refine ⟨by omega, h3.2, fun e2 => ?_, fun e2 => ?_⟩
    · have := (h.o0.lt _ e2.symm).2; omega
    · have := (h.o1.lt _ e2.symm).2; omega
theorem sliceE_one (A : Option Addr) (n c : Nat) : ∀ u ∈ [Value.slice A n c], u.oneCell' = true := by
  intro u hu
  rw [List.mem_singleton.1 hu]; rfl
/-- what Given.Entries answers -/
def EntOut (p : Nat) (d0 d1 : Value) (b0 b1 : Option Nat) (xs ys : List GE) (n : Nat) (L : List Et) (w : World) (e : Ending) (w' : World) : Prop :=
  ∃ (G1 : Option Addr) (q1 : Nat) (G1' : Option Addr) (q1' : Nat) (x y : GE), e = .returned (.slice x.A n x.c) ∧ GvE w' p d0 d1 G1 q1 G1' q1' (xs ++ [x]) (ys ++ [y]) ∧ x.bs = L ++ [markE] ∧ y.bs = L ++ [markE] ∧ x.n = n + 1 ∧ y.n = n + 1 ∧
    Chg (fun j => j = p ∨ some j = b0 ∨ some j = b1) w w' ∧ (∀ j, (Value.slice G1 (xs ++ [x]).length q1).ownBlock = some j → b0 = some j ∨ w.heap.size ≤ j) ∧ (∀ j, (Value.slice G1' (ys ++ [y]).length q1').ownBlock = some j → b1 = some j ∨ w.heap.size ≤ j) ∧
    (∀ ad, x.A = some ad → w.heap.size ≤ ad.block) ∧ (∀ ad, y.A = some ad → w.heap.size ≤ ad.block)
end Go.Proofs.Ytjjobgolpedgeaa
set_option linter.unusedVariables false
set_option linter.unusedSimpArgs false
namespace Go.Proofs.Ytjjobgolpedgeaa
open Go.RowKit

theorem grown_twoE {w w1 : World} {o : Obj} {row : Option Nat} (h : (w.alloc o).grownBy w1 row) : w.grownBy w1 row := (World.grownBy_alloc w o row).trans h
theorem blk_of {b b2 : Option Nat} {H B : Nat} (h : b2 = b ∨ b2 = some H) (hB : B ≤ H) : ∀ j, b2 = some j → b = some j ∨ B ≤ j := fun j e => by
  rcases h with h | h
  · exact .inl (h ▸ e)
  · rw [h] at e; cases e; exact .inr hB
theorem GvE.at0 {w w1 : World} {p : Nat} {d0 d1 : Value} {G : Option Addr} {c : Nat} {G' : Option Addr} {c' : Nat} {xs ys : List GE} (h : GvE w p d0 d1 G c G' c' xs ys) (hg : w.grownBy w1 (Value.slice G xs.length c).ownBlock) :
    Ob w1 p (g10 d0 d1 (.slice G xs.length c) (.slice G' ys.length c')) := h.ob.kept hg (fun e => by have := (h.o0.lt _ e.symm).1; omega)
theorem GvE.at1 {w w1 : World} {p : Nat} {d0 d1 : Value} {G : Option Addr} {c : Nat} {G' : Option Addr} {c' : Nat} {xs ys : List GE} (h : GvE w p d0 d1 G c G' c' xs ys) (hg : w.grownBy w1 (Value.slice G' ys.length c').ownBlock) :
    w1.cell? ⟨p, 5, none⟩ = some (.slice G' ys.length c') ∧ w1.frozen? ⟨p, 5, none⟩ = false ∧ p < w1.heap.size := by
  have h1 : Ob w1 p (g10 d0 d1 (.slice G xs.length c) (.slice G' ys.length c')) := h.ob.kept hg (fun e => by have := (h.o1.lt _ e.symm).1; omega)
  exact ⟨h1.cell 5 rfl, h1.fr 5 (by simp), h1.lt (by simp)⟩
set_option maxRecDepth 100000 in
set_option maxHeartbeats 8000000 in
theorem gentries_any (p : Nat) (d0 d1 : Value) (G : Option Addr) (c : Nat) (G' : Option Addr) (c' : Nat) (xs ys : List GE) (w : World) (h : GvE w p d0 d1 G c G' c' xs ys) (hk : (xs.length + 2) * 24 ≤ 140737488355328) (hk' : (ys.length + 2) * 24 ≤ 140737488355328)
    (A : Option Addr) (n d : Nat) (L : List Et) (hr : RdC 5 Et.cells w A n L) (hA : A = none → n = 0 ∧ d = 0) (hn : (n + 2) * 48 ≤ 140737488355328) :
    Calls Try.prog 58 #[.pointer (some ⟨p, 0, none⟩), .slice A n d] w (EntOut p d0 d1 (Value.slice G xs.length c).ownBlock (Value.slice G' ys.length c').ownBlock xs ys n L w) := by
  have H := Lib.hid h
  have HR := Lib.hid hr
  have HA := Lib.hid hA
  have HL := Lib.hid hr.len
  have HP := Lib.hid h.lt
  have HSM := Lib.hid hn
  have HK := Lib.hid hk
  have HK' := Lib.hid hk'
  have hnb : (n : Int) ≤ 6000000000000 := by omega
  clear h hr hA hn hk hk'
  go_enter Try.func58, Try.ntmps58
  go_wp2_with fail
  refine (copyEntries_any A n d L _ HR.out HA.out (by have := HSM.out; omega)).mono ?_
  rintro e w1 ⟨A1, c1, rfl, hb1, ho1⟩
  have B1 := Lib.hid hb1
  have O1 := Lib.hid ho1
  clear hb1 ho1
  go_wp2_with (at_builtin; refine wpList_app rfl (.tmp 7) (.tmp 9) rfl eltEntry w.heap.size (.slice A1 n c1) n (CL Et.cells L) rfl (O1.out.alloc _) (some ⟨w1.heap.size, 0, none⟩) 1 1 markE.cells rfl rfl (fun h => by cases h) (fresh_news w1 markE.cells.toArray 156) (Et.one markE) ?b3 ?b4 ?b5 ?_)
  case b3 => have := HSM.out; simp only [maxLen]; omega
  case b4 => have := HSM.out; omega
  case b5 => have := B1.out.size; simp; omega
  intro A2 c2 w2 ho2 hg2 _
  have B2 : Hid (Below w.heap.size w w2) := below_own B1.out B1.out.size O1.out ((World.grownBy_alloc w1 _ _).trans hg2)
  have O2 : Hid (w2.ownsRow w.heap.size 156 5 (.slice A2 (n + 1) c2) (n + 1) (CL Et.cells (L ++ [markE]))) := by rw [CL_push]; exact ho2
  have X2 := Lib.hid (H.out.fresh (by simp [HL.out]) O2.out)
  have H2 := Lib.hid (H.out.below B2.out)
  have hcap : (n : Int) ≤ (c2 : Int) := by have := X2.out.2.2.1; simp only at this; omega
  have FX : Hid (∀ ad, A2 = some ad → w.heap.size ≤ ad.block) := fun ad e => by subst e; exact (O2.out.lt ad.block rfl).1
  clear ho2 hg2 O1 B1
  have q4 := H2.out.ob.cell 4 rfl
  have OW := Lib.hid (H2.out.o0.alloc (.cells #[.slice A2 (n + 1) c2] 36))
  have HP2 := Lib.hid H2.out.lt
  have hp2 := HP2.out
  go_wp2_with (at_builtin; refine wpList_app rfl (.tmp 15) (.tmp 17) rfl eltEnts (p + 1) (.slice G xs.length c) xs.length _ rfl OW.out (some ⟨w2.heap.size, 0, none⟩) 1 1 [.slice A2 (n + 1) c2] rfl rfl (fun h => by cases h) (fresh_news w2 #[.slice A2 (n + 1) c2] 36) (sliceE_one _ _ _) ?d3 ?d4 ?d5 ?_)
  case d3 => have := HK.out; simp only [maxLen]; omega
  case d4 => have := HK.out; omega
  case d5 => simp; omega
  intro G3 c3 w3 hown3 hgrow3 hblk3
  have OB3 := H2.out.at0 (grown_twoE hgrow3)
  have r4 := OB3.cell 4 rfl
  have s4 := OB3.fr 4 (by simp)
  have z4 := OB3.lt (by simp)
  have H3 := Lib.hid (H2.out.push0 X2.out hown3 (grown_twoE hgrow3) hblk3 (by simp))
  have C3 : Hid (Chg (fun j => j = p ∨ some j = (Value.slice G xs.length c).ownBlock ∨ some j = (Value.slice G' ys.length c').ownBlock) w (w3.setCell ⟨p, 4, none⟩ (.slice G3 (xs.length + 1) c3))) :=
    ((((Chg.refl _ w).grown (grown_of_below (B2.out.mono (Nat.le_refl _)) none) (fun j e => by cases e)).grown (grown_twoE hgrow3) (fun j e => .inl (.inr (.inl e.symm)))).grown (grown_setCell _ _ _) (fun j e => by cases e; exact .inl (.inl rfl)))
  have K3 : Hid (∀ j, (Value.slice G3 (xs.length + 1) c3).ownBlock = some j → (Value.slice G xs.length c).ownBlock = some j ∨ w.heap.size ≤ j) := blk_of hblk3 (by have := B2.out.size; simp; omega)
  clear hown3 hgrow3 hblk3 OB3 OW q4
  go_upto_region 3 with fail
  clear r4 s4 z4
  have HLX : Hid ((xs ++ [(⟨A2, n + 1, c2, L ++ [markE]⟩ : GE)]).length = xs.length + 1) := by simp [Hid]
  generalize w3.setCell ⟨p, 4, none⟩ (.slice G3 (xs.length + 1) c3) = w4 at H3 C3 ⊢
  have X4 := Lib.hid (H3.out.e0 ⟨A2, n + 1, c2, L ++ [markE]⟩ (List.mem_append.2 (.inr (List.mem_singleton.2 rfl))))
  have q5 := H3.out.ob.cell 5 rfl
  have FC : Hid (∀ W', (∃ m, W' = w4.drewN m) → Calls Try.prog 123 #[.slice A2 (n + 1) c2] W' fun e w5 => ∃ (A5 : Option Addr) (c5 : Nat), e = .returned (.slice A5 (n + 1) c5) ∧ w5.cell? ⟨p, 5, none⟩ = some (.slice G' ys.length c') ∧ p < w5.heap.size ∧
      Hid (Below w4.heap.size w4 w5 ∧ GvE w5 p d0 d1 G3 c3 G' c' (xs ++ [⟨A2, n + 1, c2, L ++ [markE]⟩]) ys ∧ (GE.mk A5 (n + 1) c5 (L ++ [markE])).Ok w5 p (Value.slice G3 (xs ++ [(⟨A2, n + 1, c2, L ++ [markE]⟩ : GE)]).length c3).ownBlock (Value.slice G' ys.length c').ownBlock ∧ ∀ ad, A5 = some ad → w4.heap.size ≤ ad.block)) := by
    rintro W' ⟨m, rfl⟩
    refine (copyEntries_any A2 (n + 1) c2 (L ++ [markE]) _ (X4.out.1.drewN m) X4.out.2.1 (by have := HSM.out; omega)).mono ?_
    rintro e w5 ⟨A5, c5, rfl, hb5, ho5⟩
    have H5 := (H3.out.drewN m).below hb5
    exact ⟨A5, c5, rfl, H5.ob.cell 5 rfl, H5.lt, (Below.drewN (Below.refl _ _) m).trans hb5, H5, (H3.out.drewN m).fresh (by simp [HL.out]) ho5, fun ad e => by subst e; exact (ho5.lt ad.block rfl).1⟩
  have b1 : ys.length + 1 ≤ maxLen := by have := HK'.out; simp only [maxLen]; omega
  have b2 : (ys.length + 1) * 24 ≤ 140737488355328 := by have := HK'.out; omega
  have hb5 : Hid (∀ (w5 : World) o, p < w5.heap.size → p + 1 ≤ (w5.alloc o).heap.size) := fun w5 o h => by simp; omega
  have hH : Hid (∀ (w5 : World) o, w5.heap.size ≤ (w5.alloc o).heap.size) := fun w5 o => by simp
  have hS : Hid (w.heap.size ≤ w4.heap.size) := C3.out.size
  go_region_law (first | (refine step_app rfl (.tmp 25) (.tmp 28) rfl eltEnts (p + 1) (.slice G' ys.length c') ys.length _ rfl (S5.out.2.1.o1.alloc _) (some _) 1 1 [.slice A5 (n + 1) c5] rfl rfl (fun h => by cases h) (fresh_news _ #[.slice A5 (n + 1) c5] 36) (sliceE_one _ _ _) b1 b2 (hb5.out _ _ S5.out.2.1.lt) ?_; intro G6 c6 w6 hown6 hgrow6 hblk6; have Q6 := S5.out.2.1.at1 (grown_twoE hgrow6); have q1 := Q6.1; have q2 := Q6.2.1; have q3 := Q6.2.2; have H6 := Lib.hid (S5.out.2.1.push1 S5.out.2.2.1 hown6 (grown_twoE hgrow6) hblk6 (hH.out _ _)); have C6 := Lib.hid ((C3.out.grown (grown_of_below S5.out.1 none) (fun j e => by cases e)).grown (grown_twoE hgrow6) (fun j e => .inl (.inr (.inr e.symm)))); have K6 := Lib.hid (blk_of hblk6 (Nat.le_trans (Nat.le_trans hS.out S5.out.1.size) (hH.out _ _))); have HA5 := Lib.hid S5.out.2.2.2; clear hown6 hgrow6 hblk6 Q6) | (go_simp; go_at_call 123; go_must (refine (FC.out _ ?_).mono ?_); go_must (focus (first | exact ⟨0, rfl⟩ | exact ⟨1, rfl⟩)); go_must (rintro e w5 ⟨A5, c5, rfl, hc5, hp5, S5⟩)))
  all_goals
    clear q1 q2 q3 hc5 hp5
    have hnc : n ≤ c2 := by omega
    go_wp2_with fail
    go_ret
    refine ⟨G3, c3, G6, c6, ⟨A2, n + 1, c2, L ++ [markE]⟩, ⟨A5, n + 1, c5, L ++ [markE]⟩, rfl, H6.out, rfl, rfl, rfl, rfl, C6.out.grown (grown_setCell _ _ _) (fun j e => by cases e; exact .inl (.inl rfl)), ?_, ?_, FX.out, fun ad e => Nat.le_trans hS.out (HA5.out ad e)⟩
    · rw [HLX.out]; exact K3.out
    · rw [List.length_append]; exact K6.out
end Go.Proofs.Ytjjobgolpedgeaa
set_option linter.unusedVariables false
set_option linter.unusedSimpArgs false
namespace Go.Proofs.Ytjjobgolpedgeaa
open Go.RowKit

/-- Given, behind one Vector; what is there of entries -/
structure GvVE (E0 E1 : Value) (w : World) (g : Nat) (n : Nat) (V : List Dw) (d1 d2 : Addr) (e1 e2 : Nat) (A2 A5 : Option Addr) (c2 c5 : Nat) : Prop where
  ob : Ob w g (g10 (.slice (some d1) 1 e1) (.slice (some d2) 1 e2) E0 E1)
  c1 : w.cell? d1 = some (.slice A2 n c2)
  c2 : w.cell? d2 = some (.slice A5 n c5)
  r1 : RdC 2 Dw.cells w A2 n V
  r2 : RdC 2 Dw.cells w A5 n V
def VecOutE (E0 E1 : Value) (g n : Nat) (V : List Dw) (W : World) (e : Ending) (w' : World) : Prop :=
  ∃ b c d1 d2 e1 e2 A5 c5, e = .returned (.slice (some b) n c) ∧ Chg (fun j => j = g) W w' ∧ W.heap.size ≤ b.block ∧ GvVE E0 E1 w' g (n + 1) (V ++ [⟨77, 88⟩]) d1 d2 e1 e2 (some b) A5 c c5 ∧ W.heap.size ≤ d1.block ∧ W.heap.size ≤ d2.block ∧ ∀ ad, A5 = some ad → W.heap.size ≤ ad.block
set_option maxHeartbeats 8000000 in
set_option maxRecDepth 100000 in
theorem givenVectorE_any (E0 E1 : Value) (g : Nat) (A : Option Addr) (n c : Nat) (V : List Dw) (w : World) (hg : Ob w g (g10 (.slice none 0 0) (.slice none 0 0) E0 E1)) (h : RdC 2 Dw.cells w A n V) (hA : A = none → n = 0 ∧ c = 0) (hsm : (n + 2) * 16 ≤ 140737488355328) :
    Calls Try.prog 37 #[.pointer (some ⟨g, 0, none⟩), .slice A n c] w (VecOutE E0 E1 g n V w) := by
  have HG := Lib.hid hg
  have H := Lib.hid h
  have HL := Lib.hid h.len
  have HA := Lib.hid hA
  have HSM := Lib.hid hsm
  have hn : (n : Int) ≤ 100000000000000 := by omega
  have HZG := Lib.hid (hg.lt (by simp))
  clear hg h hA hsm
  go_enter Try.func37, Try.ntmps37
  go_wp2_with fail
  refine (copyVector_any A n c V _ H.out HA.out (by have := HSM.out; omega)).mono ?_
  rw [show (RetL 27 2 Dw.cells w V) = fun e w' => ∃ A c, e = .returned (.slice A n c) ∧ Below w.heap.size w w' ∧ w'.ownsRow w.heap.size 27 2 (.slice A n c) n (CL Dw.cells V) by funext e w'; unfold RetL; rw [HL.out]]
  rintro e w1 ⟨A1, c1, rfl, hb1, ho1⟩
  have B1 := Lib.hid hb1
  have O1 := Lib.hid ho1
  clear hb1 ho1
  go_wp2_with (at_builtin; refine wpList_app rfl (.tmp 7) (.tmp 9) rfl eltVector w.heap.size (.slice A1 n c1) n (CL Dw.cells V) rfl (O1.out.alloc _) (some ⟨w1.heap.size, 0, none⟩) 1 1 (⟨77, 88⟩ : Dw).cells rfl rfl (fun h => by cases h) (fresh_news w1 (⟨77, 88⟩ : Dw).cells.toArray 27) (Dw.one ⟨77, 88⟩) ?b3 ?b4 ?b5 ?_)
  case b3 => have := HSM.out; simp only [maxLen]; omega
  case b4 => have := HSM.out; omega
  case b5 => have := B1.out.size; simp; omega
  intro A2 c2 w2 ho2 hg2 _
  have B2 : Hid (Below w.heap.size w w2) := below_own B1.out B1.out.size O1.out ((World.grownBy_alloc w1 _ _).trans hg2)
  have O2 : Hid (w2.ownsRow w.heap.size 27 2 (.slice A2 (n + 1) c2) (n + 1) (CL Dw.cells (V ++ [⟨77, 88⟩]))) := by rw [CL_push]; exact ho2
  have R2 : Hid (RdC 2 Dw.cells w2 A2 (n + 1) (V ++ [⟨77, 88⟩])) := rdDw O2.out (by simp [HL.out])
  have hcap : n + 1 ≤ c2 := by
    rcases O2.out.2 with ⟨hv, h0⟩ | ⟨q, cap, cur, hv, _, _, h1, _⟩
    · omega
    · cases hv; exact h1
  obtain ⟨b, cap, hv, hgb, _⟩ := O2.out.form (by omega)
  cases hv
  have HBB : Hid (b < w2.heap.size) := (O2.out.lt b rfl).2
  have HGB := Lib.hid hgb
  have HG2 : Hid (g < w2.heap.size) := Nat.lt_of_lt_of_le HZG.out B2.out.size
  have hc2 : (n : Int) ≤ (c2 : Int) := by omega
  have hc3 : ¬ c2 = 0 := by omega
  have hc4 : ¬ c2 = n := by omega
  have OG2 := Lib.hid (HG.out.below B2.out)
  have g2 := OG2.out.cell 2 rfl
  clear ho2 hg2 hcap hgb O1 B1 HG
  go_wp2_with (at_builtin; refine wpList_app rfl (.tmp 15) (.tmp 17) rfl eltVecs w2.heap.size (.slice none 0 0) 0 [] rfl (World.ownsRow_nil _ _ _ _) (some ⟨w2.heap.size, 0, none⟩) 1 1 [.slice (some ⟨b, 0, none⟩) (n + 1) c2] rfl rfl (fun h => by cases h) (fresh_news w2 #[.slice (some ⟨b, 0, none⟩) (n + 1) c2] 63) (by intro u hu; simp at hu; subst hu; rfl) ?e3 ?e4 ?e5 ?_)
  case e3 => simp only [maxLen]; omega
  case e4 => omega
  case e5 => simp
  intro A3 c3 w3 ho3 hg3 _
  have B3 : Hid (Below w2.heap.size w2 w3) := (below_al w2 _).trans ⟨hg3.os, hg3.tape, hg3.output, hg3.size, fun z hz => hg3.block z (by simp; omega) (fun e => by cases e)⟩
  have OG3 := Lib.hid (OG2.out.below B3.out)
  have R3 := Lib.hid (R2.out.below B3.out)
  obtain ⟨d1, cap1, hv1, hd1, _⟩ := ho3.form (by decide)
  cases hv1
  have T3 : Hid (w3.cell? ⟨d1, 0, none⟩ = some (.slice (some ⟨b, 0, none⟩) (n + 1) c2)) := ho3.cells (g := d1) rfl 0 _ rfl
  have HD1 := Lib.hid hd1
  have S2B : Hid (w.heap.size ≤ w2.heap.size) := B2.out.size
  clear ho3 hg3 hd1 g2
  have g2 := OG3.out.cell 2 rfl
  have f2 := OG3.out.fr 2 (by simp)
  have z3 : g < w3.heap.size := OG3.out.lt (by simp)
  go_upto_region 3 with fail
  clear g2 f2 z3
  have OG4 : Hid (Ob (w3.setCell ⟨g, 2, none⟩ (.slice (some ⟨d1, 0, none⟩) 1 c3)) g (g10 (.slice (some ⟨d1, 0, none⟩) 1 c3) (.slice none 0 0) E0 E1)) := OG3.out.set 2 (by simp) _
  have C4 : Hid (Chg (fun j => j = g) w (w3.setCell ⟨g, 2, none⟩ (.slice (some ⟨d1, 0, none⟩) 1 c3))) := ((((Chg.refl _ w).grown (grown_of_below (B2.out.mono (Nat.le_refl _)) none) (fun j e => by cases e)).grown (grown_of_below B3.out none) (fun j e => by cases e))).grown (grown_setCell _ _ _) (fun j e => by cases e; exact .inl rfl)
  have T4 : Hid ((w3.setCell ⟨g, 2, none⟩ (.slice (some ⟨d1, 0, none⟩) 1 c3)).cell? ⟨d1, 0, none⟩ = some (.slice (some ⟨b, 0, none⟩) (n + 1) c2)) := (grown_setCell w3 ⟨g, 2, none⟩ _).cell T3.out (by have h1 := HZG.out; have h2 := HD1.out; have h3 := B2.out.size; intro e; simp at e; omega)
  have R4 : Hid (RdC 2 Dw.cells (w3.setCell ⟨g, 2, none⟩ (.slice (some ⟨d1, 0, none⟩) 1 c3)) (some ⟨b, 0, none⟩) (n + 1) (V ++ [⟨77, 88⟩])) := R3.out.grown (grown_setCell w3 ⟨g, 2, none⟩ _) (fun ad e => by cases e; have h1 := HZG.out; have h2 := HGB.out; intro e; simp at e; omega)
  have S4 : Hid (w.heap.size ≤ (w3.setCell ⟨g, 2, none⟩ (.slice (some ⟨d1, 0, none⟩) 1 c3)).heap.size) := by have h1 := B2.out.size; have h2 := B3.out.size; simp only [Hid, World.size_setCell]; omega
  generalize w3.setCell ⟨g, 2, none⟩ (.slice (some ⟨d1, 0, none⟩) 1 c3) = w4 at OG4 C4 T4 R4 S4 ⊢
  clear B3 OG3 R3 T3 OG2 R2 O2 B2
  have FC : Hid (∀ W', (∃ m, W' = w4.drewN m) → Calls Try.prog 96 #[.slice (some ⟨b, 0, none⟩) (n + 1) c2] W' fun e w5 => ∃ (A5 : Option Addr) (c5 : Nat), e = .returned (.slice A5 (n + 1) c5) ∧ w5.cell? ⟨g, 3, none⟩ = some (.slice none 0 0) ∧ g < w5.heap.size ∧ Hid (Below w4.heap.size w4 w5 ∧ RdC 2 Dw.cells w5 A5 (n + 1) (V ++ [⟨77, 88⟩]) ∧ ∀ ad, A5 = some ad → w4.heap.size ≤ ad.block)) := by
    rintro W' ⟨m, rfl⟩
    refine (copyVector_any (some ⟨b, 0, none⟩) (n + 1) c2 (V ++ [⟨77, 88⟩]) _ (R4.out.drewN m) (fun e => by cases e) (by have := HSM.out; omega)).mono ?_
    rintro e w5 ⟨A5, c5, rfl, hb5, ho5⟩
    have hl : (V ++ [(⟨77, 88⟩ : Dw)]).length = n + 1 := by simp [HL.out]
    rw [hl] at ho5
    have hb : Below w4.heap.size w4 w5 := (Below.drewN (Below.refl _ _) m).trans hb5
    have OG5 := OG4.out.below hb
    exact ⟨A5, c5, by rw [hl], OG5.cell 3 rfl, OG5.lt (by simp), hb, rdDw ho5 hl, fun ad e => by subst e; exact (ho5.lt ad.block rfl).1⟩
  have HG4 : Hid (g < w4.heap.size) := OG4.out.lt (by simp)
  have q3 := OG4.out.cell 3 rfl
  have hba : Hid (∀ (w5 : World) o, w4.heap.size ≤ w5.heap.size → w4.heap.size ≤ (w5.alloc o).heap.size) := fun w5 o h => by simp; omega
  go_region_law (first | (refine step_app rfl (.tmp 25) (.tmp 28) rfl eltVecs w4.heap.size (.slice none 0 0) 0 [] rfl (World.ownsRow_nil _ _ _ _) (some _) 1 1 [.slice A5 (n + 1) c5] rfl rfl (fun h => by cases h) (fresh_news _ #[.slice A5 (n + 1) c5] 63) (by intro u hu; simp at hu; subst hu; rfl) (by simp only [maxLen]; omega) (by omega) (hba.out _ _ S5.out.1.size) ?_; intro A6 c6 w6 ho6 hg6 _; have HO6 := Lib.hid ho6; have B6 : Hid (Below w4.heap.size w4 w6) := (S5.out.1.alloc S5.out.1.size _).trans ⟨hg6.os, hg6.tape, hg6.output, hg6.size, fun z hz => hg6.block z (Nat.lt_of_lt_of_le hz (hba.out _ _ S5.out.1.size)) (fun e => by cases e)⟩; have R6 : Hid (RdC 2 Dw.cells w6 A5 (n + 1) (V ++ [⟨77, 88⟩])) := (S5.out.2.1.grown ((World.grownBy_alloc _ _ _).trans hg6) (fun ad e => by intro h; cases h)); have OG6 := Lib.hid (OG4.out.below B6.out); have HA5 := Lib.hid S5.out.2.2; have q1 := OG6.out.cell 3 rfl; have q2 := OG6.out.fr 3 (by simp); have q4 := OG6.out.lt (by simp); clear ho6 hg6) | (go_simp; go_at_call 96; go_must (refine (FC.out _ ?_).mono ?_); go_must (focus (first | exact ⟨0, rfl⟩ | exact ⟨1, rfl⟩)); go_must (rintro e w5 ⟨A5, c5, rfl, hc5, hp5, S5⟩)))
  all_goals
    clear q1 q2 q4 hc5 hp5
    obtain ⟨d2, cap2, hv2, hd2, _⟩ := HO6.out.form (by decide)
    cases hv2
    have T6 : Hid (w6.cell? ⟨d2, 0, none⟩ = some (.slice A5 (n + 1) c5)) := HO6.out.cells (g := d2) rfl 0 _ rfl
    have HD2 := Lib.hid hd2
    clear hd2
    have HBW : Hid (w.heap.size ≤ d1 ∧ w.heap.size ≤ d2 ∧ ∀ ad, A5 = some ad → w.heap.size ≤ ad.block) := ⟨Nat.le_trans S2B.out HD1.out, Nat.le_trans S4.out HD2.out, fun ad e => Nat.le_trans S4.out (HA5.out ad e)⟩
    go_wp2_with fail
    go_ret
    refine ⟨⟨b, 0, none⟩, c2, ⟨d1, 0, none⟩, ⟨d2, 0, none⟩, c3, c6, A5, c5, rfl, (C4.out.grown (grown_of_below B6.out none) (fun j e => by cases e)).grown (grown_setCell _ _ _) (fun j e => by cases e; exact .inl rfl), HGB.out, ?_, HBW.out.1, HBW.out.2.1, HBW.out.2.2⟩
    refine ⟨OG6.out.set 3 (by simp) _, ?_, ?_, ?_, ?_⟩
    · exact (grown_setCell w6 ⟨g, 3, none⟩ _).cell ((B6.out.cell (World.block_lt_of_cell? w4 _ T4.out)).trans T4.out) (by have h1 := HG2.out; have h2 := HD1.out; intro e; simp at e; omega)
    · exact (grown_setCell w6 ⟨g, 3, none⟩ _).cell T6.out (by have h1 := HG4.out; have h2 := HD2.out; intro e; simp at e; omega)
    · exact (R4.out.below B6.out).grown (grown_setCell w6 ⟨g, 3, none⟩ _) (fun ad e => by cases e; have h1 := HZG.out; have h2 := HGB.out; intro e; simp at e; omega)
    · exact R6.out.grown (grown_setCell w6 ⟨g, 3, none⟩ _) (fun ad e => by have h1 := HA5.out ad e; have h2 := HG4.out; intro e; simp at e; omega)
end Go.Proofs.Ytjjobgolpedgeaa
set_option linter.unusedVariables false
set_option linter.unusedSimpArgs false
namespace Go.Proofs.Ytjjobgolpedgeaa
open Go.RowKit

theorem GvE.cell0 {w : World} {p : Nat} {d0 d1 : Value} {G : Option Addr} {c : Nat} {G' : Option Addr} {c' : Nat} {xs ys : List GE} (h : GvE w p d0 d1 G c G' c' xs ys) {k : Nat} {x : GE} (hk : xs[k]? = some x) : ∃ g, G = some ⟨g, 0, none⟩ ∧ w.cell? ⟨g, k, none⟩ = some x.v := by
  have hlt := (List.getElem?_eq_some_iff.1 hk).1
  obtain ⟨g, cap, hv, _, _⟩ := h.o0.form (by omega)
  cases hv
  have := h.o0.cells (g := g) rfl k _ (show (xs.map GE.v)[k]? = some x.v by rw [List.getElem?_map, hk]; rfl)
  rw [add_at] at this
  exact ⟨g, rfl, this⟩
theorem GvE.cell1 {w : World} {p : Nat} {d0 d1 : Value} {G : Option Addr} {c : Nat} {G' : Option Addr} {c' : Nat} {xs ys : List GE} (h : GvE w p d0 d1 G c G' c' xs ys) {k : Nat} {x : GE} (hk : ys[k]? = some x) : ∃ g, G' = some ⟨g, 0, none⟩ ∧ w.cell? ⟨g, k, none⟩ = some x.v := by
  have hlt := (List.getElem?_eq_some_iff.1 hk).1
  obtain ⟨g, cap, hv, _, _⟩ := h.o1.form (by omega)
  cases hv
  have := h.o1.cells (g := g) rfl k _ (show (ys.map GE.v)[k]? = some x.v by rw [List.getElem?_map, hk]; rfl)
  rw [add_at] at this
  exact ⟨g, rfl, this⟩
set_option maxHeartbeats 8000000 in
set_option maxRecDepth 100000 in
theorem intactE_any (g n : Nat) (V : List Dw) (d1 d2 : Addr) (e1 e2 : Nat) (A2 A5 : Option Addr) (c2 c5 : Nat) (G : Option Addr) (c : Nat) (G' : Option Addr) (c' : Nat) (xs ys : List GE) (w : World)
    (hc1 : w.cell? d1 = some (.slice A2 n c2)) (hc2 : w.cell? d2 = some (.slice A5 n c5)) (hr1 : RdC 2 Dw.cells w A2 n V) (hr2 : RdC 2 Dw.cells w A5 n V)
    (h : GvE w g (.slice (some d1) 1 e1) (.slice (some d2) 1 e2) G c G' c' xs ys) (hlen : xs.length = ys.length) (hk : (xs.length : Int) ≤ 6000000000000) (hsame : ∀ (k : Nat) (x y : GE), xs[k]? = some x → ys[k]? = some y → x.bs = y.bs ∧ x.n = y.n) :
    Calls Try.prog 45 #[.pointer (some ⟨g, 0, none⟩)] w fun e w' => e = .returned (.bool true) ∧ ∃ q, w' = w.drewN q := by
  have H := Lib.hid h
  have HS := Lib.hid hsame
  have HLEN := Lib.hid hlen
  have R1 := Lib.hid hr1
  have R2 := Lib.hid hr2
  have T1 := Lib.hid hc1
  have T2 := Lib.hid hc2
  clear h hsame hlen hr1 hr2
  have o0 := H.out.ob.cell 0 rfl
  have o2 := H.out.ob.cell 2 rfl
  have o3 := H.out.ob.cell 3 rfl
  have o4 := H.out.ob.cell 4 rfl
  have o6 := H.out.ob.cell 6 rfl
  have o8 := H.out.ob.cell 8 rfl
  go_enter Try.func45, Try.ntmps45
  go_wp2
  refine wp_loop_rounds 1 ?_
  rw [rounds_succ]
  go_wp2
  refine wp_loop_rounds 1 ?_
  rw [rounds_succ]
  go_wp2
  refine wp_loop_rounds 1 ?_
  rw [rounds_succ]
  go_wp2
  refine wp_loop_rounds 2 ?_
  rw [rounds_succ]
  have Q := Lib.hid (fun q => Calls.quiet_of (sameVector_any A2 A5 n c2 c5 V (w.drewN q) (R1.out.drewN q) (R2.out.drewN q)))
  go_upto_region 19 with fail
  go_quiet ((go_at_call 108; (with_reducible exact Q.out _)))
  clear Q
  go_wp2
  rw [rounds_succ]
  go_wp2
  have HD0 : Hid (∃ m, w.drewN nq = w.drewN m) := ⟨nq, rfl⟩
  clear o0 o2 o3 o4 o6 o8 hc1 hc2
  go_loopw [7] (fun i wr => ∃ k : Nat, k ≤ xs.length ∧ i = .int .i64 k ∧ Hid (∃ m, wr = w.drewN m)) (fun i _ => xs.length - (intOf i).toNat)
  case atStart => exact ⟨0, Nat.zero_le _, rfl, HD0.out⟩
  case round =>
    obtain ⟨k, hkx, rfl, HM⟩ := hrel
    have HG : Hid (GvE wr g (.slice (some d1) 1 e1) (.slice (some d2) 1 e2) G c G' c' xs ys) := by
      obtain ⟨m, hm⟩ := HM.out
      rw [hm]; exact H.out.drewN m
    have c4 := HG.out.ob.cell 4 rfl
    have c5 := HG.out.ob.cell 5 rfl
    by_cases hlt : k < xs.length
    · have hlt' : k < ys.length := by rw [← HLEN.out]; exact hlt
      have hxk := List.getElem?_eq_getElem hlt
      have hyk := List.getElem?_eq_getElem hlt'
      obtain ⟨g0, rfl, hcx⟩ := HG.out.cell0 hxk
      obtain ⟨g1, rfl, hcy⟩ := HG.out.cell1 hyk
      have OX := Lib.hid (HG.out.e0 _ (List.getElem_mem hlt)).1
      have OY := Lib.hid (HG.out.e1 _ (List.getElem_mem hlt')).1
      have hbs := HS.out k _ _ hxk hyk
      generalize xs[k] = x at hcx OX hbs
      generalize ys[k] = y at hcy OY hbs
      obtain ⟨xA, xn, xc, xb⟩ := x
      obtain ⟨yA, yn, yc, yb⟩ := y
      simp only [GE.v] at hcx hcy hbs OX OY
      obtain ⟨rfl, rfl⟩ := hbs
      have Q := Lib.hid (fun q => Calls.quiet_of ((sameEntries_any xA yA xn xn xc yc xb xb (wr.drewN q) (OX.out.drewN q) (OY.out.drewN q)).mono fun e w' (h9 : SameOut xb xb (wr.drewN q) e w') => show e = .returned (.bool true) ∧ ∃ m, w' = (wr.drewN q).drewN m from by obtain ⟨⟨b, h1, h2⟩, h3⟩ := h9; exact ⟨by rw [h1, h2.2 rfl], h3⟩))
      have hkx' : (k : Int) < (xs.length : Int) := by omega
      have hky' : (k : Int) < (ys.length : Int) := by omega
      clear hxk hyk OX OY
      go_upto_region 24 with fail
      go_quiet ((go_at_call 31; (with_reducible exact Q.out _)))
      clear c4 c5 hcx hcy
      go_wp2
      go_roundw
      case rel =>
        refine ⟨k + 1, by omega, by go_num, ?_⟩
        obtain ⟨m, hm⟩ := HM.out
        rw [hm]
        exact ⟨_, World.drewN_drewN _ _ _⟩
      case measure => simp [intOf]; omega
    · have hkx' : ¬ (k : Int) < (xs.length : Int) := by omega
      go_wp2
      go_ret
      exact ⟨rfl, HM.out⟩
end Go.Proofs.Ytjjobgolpedgeaa
set_option linter.unusedVariables false
set_option linter.unusedSimpArgs false
namespace Go.Proofs.Ytjjobgolpedgeaa
open Go.RowKit

theorem below_chg {B : Nat} {S : Nat → Prop} {w w' : World} (h : Chg S w w') (hS : ∀ j, S j → B ≤ j) (hB : B ≤ w.heap.size) : Below B w w' := ⟨h.os, h.tape, h.output, h.size, fun q hq => h.block q (by omega) (fun e => by have := hS q e; omega)⟩
/-- a row lies in none of these blocks -/
def Sep (v : Value) (b0 b1 : Option Nat) (xs ys : List GE) : Prop := ∀ j, v.ownBlock = some j → some j ≠ b0 ∧ some j ≠ b1 ∧ (∀ x ∈ xs, ∀ ad, x.A = some ad → ad.block ≠ j) ∧ ∀ y ∈ ys, ∀ ad, y.A = some ad → ad.block ≠ j
theorem Sep.next {v : Value} {b0 b1 b0' b1' : Option Nat} {xs ys : List GE} {a b : GE} {N : Nat} (h : Sep v b0 b1 xs ys) (hv : ∀ j, v.ownBlock = some j → j < N) (k0 : ∀ j, b0' = some j → b0 = some j ∨ N ≤ j) (k1 : ∀ j, b1' = some j → b1 = some j ∨ N ≤ j)
    (fa : ∀ ad, a.A = some ad → N ≤ ad.block) (fb : ∀ ad, b.A = some ad → N ≤ ad.block) : Sep v b0' b1' (xs ++ [a]) (ys ++ [b]) := by
  intro j hj
  have h1 := h j hj
  have h2 := hv j hj
  refine ⟨fun e => ?_, fun e => ?_, fun x hx ad e => ?_, fun x hx ad e => ?_⟩
  · rcases k0 j e.symm with h3 | h3
    · exact h1.1 h3.symm
    · omega
  · rcases k1 j e.symm with h3 | h3
    · exact h1.2.1 h3.symm
    · omega
  · rcases List.mem_append.1 hx with hx | hx
    · exact h1.2.2.1 x hx ad e
    · rw [List.mem_singleton.1 hx] at e; have := fa ad e; omega
  · rcases List.mem_append.1 hx with hx | hx
    · exact h1.2.2.2 x hx ad e
    · rw [List.mem_singleton.1 hx] at e; have := fb ad e; omega
theorem Sep.grow {v v' : Value} {w : World} {p : Nat} {d0 d1 : Value} {G : Option Addr} {c : Nat} {G' : Option Addr} {c' : Nat} {xs ys : List GE} {q : Nat} (h : Sep v (Value.slice G xs.length c).ownBlock (Value.slice G' ys.length c').ownBlock xs ys) (hg : GvE w p d0 d1 G c G' c' xs ys)
    (hb : v'.ownBlock = v.ownBlock ∨ v'.ownBlock = some q) (hq : w.heap.size ≤ q) : Sep v' (Value.slice G xs.length c).ownBlock (Value.slice G' ys.length c').ownBlock xs ys := by
  rcases hb with hb | hb
  · intro j hj; exact h j (hb ▸ hj)
  · intro j hj
    rw [hb] at hj
    cases hj
    refine ⟨fun e => ?_, fun e => ?_, fun x hx ad e h5 => ?_, fun x hx ad e h5 => ?_⟩
    · have := (hg.o0.lt _ e.symm).2; omega
    · have := (hg.o1.lt _ e.symm).2; omega
    · have := ((hg.e0 x hx).2.2.2 ad e).2.1; omega
    · have := ((hg.e1 x hx).2.2.2 ad e).2.1; omega
/-- the lists handed in, vote by vote -/
structure Lnk (V : List Lt) (k : Nat) (R : List Bt) (xs ys : List GE) : Prop where
  r : R.length = k
  x : xs.length = k
  y : ys.length = k
  at_ : ∀ (i : Nat) (v : Lt), i < k → V[i]? = some v → ∃ a b, xs[i]? = some a ∧ ys[i]? = some b ∧ R[i]? = some (v.raw a.A a.c) ∧ a.bs = v.log ++ [markE] ∧ b.bs = v.log ++ [markE] ∧ a.n = v.log.length + 1 ∧ b.n = v.log.length + 1
theorem Lnk.nil (V : List Lt) : Lnk V 0 [] [] [] := ⟨rfl, rfl, rfl, fun i v h => by omega⟩
theorem Lnk.push {V : List Lt} {k : Nat} {R : List Bt} {xs ys : List GE} {v : Lt} {a b : GE} (h : Lnk V k R xs ys) (hv : V[k]? = some v) (h1 : a.bs = v.log ++ [markE]) (h2 : b.bs = v.log ++ [markE]) (h3 : a.n = v.log.length + 1) (h4 : b.n = v.log.length + 1) : Lnk V (k + 1) (R ++ [v.raw a.A a.c]) (xs ++ [a]) (ys ++ [b]) := by
  refine ⟨by simp [h.r], by simp [h.x], by simp [h.y], fun i u hi hu => ?_⟩
  by_cases e : i = k
  · subst e
    rw [hv] at hu
    cases hu
    exact ⟨a, b, by rw [List.getElem?_append_right (Nat.le_of_eq h.x), h.x, Nat.sub_self]; rfl, by rw [List.getElem?_append_right (Nat.le_of_eq h.y), h.y, Nat.sub_self]; rfl, by rw [List.getElem?_append_right (Nat.le_of_eq h.r), h.r, Nat.sub_self]; rfl, h1, h2, h3, h4⟩
  · obtain ⟨a', b', q1, q2, q3, q4⟩ := h.at_ i u (by omega) hu
    exact ⟨a', b', by rw [List.getElem?_append_left (by rw [h.x]; omega)]; exact q1, by rw [List.getElem?_append_left (by rw [h.y]; omega)]; exact q2, by rw [List.getElem?_append_left (by rw [h.r]; omega)]; exact q3, q4⟩
abbrev markB : Bt := ⟨-77, 0, 0, 0, 0, none, 0, 0⟩
/-- what lent.. answers -/
def LentV (p : Nat) (V : List Lt) (n : Nat) (w : World) (e : Ending) (w' : World) : Prop :=
  ∃ (g gc : Nat) (G : Option Addr) (q : Nat) (G' : Option Addr) (q' : Nat) (xs ys : List GE) (R : List Bt), e = .returned (.slice (some ⟨g, 0, none⟩) n gc) ∧ n + 1 ≤ gc ∧ GvE w' p (.slice none 0 0) (.slice none 0 0) G q G' q' xs ys ∧ Chg (fun j => j = p) w w' ∧ RdC 6 Bt.cells w' (some ⟨g, 0, none⟩) (n + 1) (R ++ [markB]) ∧ Lnk V n R xs ys ∧
    w.heap.size ≤ g ∧ some g ≠ (Value.slice G xs.length q).ownBlock ∧ some g ≠ (Value.slice G' ys.length q').ownBlock ∧ (∀ j, (Value.slice G xs.length q).ownBlock = some j → w.heap.size ≤ j) ∧ (∀ j, (Value.slice G' ys.length q').ownBlock = some j → w.heap.size ≤ j)
theorem OkL.chg {S : Nat → Prop} {w w1 : World} {A : Option Addr} {k : Nat} {log : List Et} (h : OkL w A k log) (hc : Chg S w w1) (hb : ∀ ad, A = some ad → ¬ S ad.block) : OkL w1 A k log := ⟨h.rd.chg hc hb, h.non, h.small⟩
/-- the votes that were handed in read as the votes -/
theorem Lnk.rdV {V : List Lt} {n : Nat} {R : List Bt} {xs ys : List GE} {w : World} {A : Option Addr} {p : Nat} {b0 b1 : Option Nat} (h : Lnk V n R xs ys) (hl : V.length = n) (hsm : ∀ v ∈ V, v.log.length * 48 ≤ 140737488355328) (hr : RdC 6 Bt.cells w A n R) (hx : ∀ x ∈ xs, x.Ok w p b0 b1) : RdV w A n V := by
  refine ⟨R, hr, by rw [h.r, hl], fun i v hv => ?_⟩
  have hi := (List.getElem?_eq_some_iff.1 hv).1
  obtain ⟨a, b, q1, q2, q3, q4, q5, q6, q7⟩ := h.at_ i v (by omega) hv
  have ho := hx a (List.mem_of_getElem? q1)
  refine ⟨a.A, a.c, q3, ?_, fun e => ?_, hsm v (List.mem_of_getElem? hv)⟩
  · have h1 := ho.1.take v.log.length (by omega)
    rw [q4, List.take_left' rfl] at h1
    exact h1
  · have := (ho.2.1 e).1
    omega
set_option maxHeartbeats 16000000 in
set_option maxRecDepth 100000 in
theorem lentBallots_any (W0 : World) (p : Nat) (A : Option Addr) (n c : Nat) (V : List Lt) (w : World) (hg : GvE w p (.slice none 0 0) (.slice none 0 0) none 0 none 0 [] []) (hW : Below W0.heap.size W0 w) (hp : W0.heap.size ≤ p) (h : RdV W0 A n V) (hsm : (n + 2) * 64 ≤ 140737488355328) (hlg : ∀ v ∈ V, (v.log.length + 2) * 48 ≤ 140737488355328) :
    Calls Try.prog 66 #[.pointer (some ⟨p, 0, none⟩), .slice A n c] w (LentV p V n w) := by
  have H := Lib.hid h
  have HL := Lib.hid h.len
  have HG0 := Lib.hid hg
  have HW := Lib.hid hW
  have HP := Lib.hid hp
  have HPW := Lib.hid hg.lt
  have HSM := Lib.hid hsm
  have HLG := Lib.hid hlg
  have hn : (n : Int) ≤ 6000000000000 := by omega
  have hpw := hg.lt
  clear h hg hW hp hsm hlg
  go_enter Try.func66, Try.ntmps66
  go_wp2_with fail
  go_loopw [5, 6] (fun vv iv wr => ∃ (k : Nat) (A' : Option Addr) (c' : Nat) (R : List Bt) (xs ys : List GE) (G : Option Addr) (q : Nat) (G' : Option Addr) (q' : Nat), k ≤ n ∧ iv = .int .i64 k ∧ vv = .slice A' k c' ∧ Hid (GvE wr p (.slice none 0 0) (.slice none 0 0) G q G' q' xs ys) ∧ Hid (wr.ownsRow w.heap.size 53 6 (.slice A' k c') k (CL Bt.cells R)) ∧ Hid (Chg (fun j => j = p) w wr) ∧ Hid (Lnk V k R xs ys) ∧ Hid (Sep (.slice A' k c') (Value.slice G xs.length q).ownBlock (Value.slice G' ys.length q').ownBlock xs ys) ∧ Hid (∀ j, (Value.slice G xs.length q).ownBlock = some j → w.heap.size ≤ j) ∧ Hid (∀ j, (Value.slice G' ys.length q').ownBlock = some j → w.heap.size ≤ j)) (fun _ iv _ => n - (intOf iv).toNat)
  case atStart => exact ⟨0, none, 0, [], [], [], none, 0, none, 0, by omega, rfl, rfl, HG0.out, World.ownsRow_nil _ _ _ _, Chg.refl _ _, Lnk.nil _, (fun j e => by cases e), (fun j e => by cases e), (fun j e => by cases e)⟩
  case round =>
    obtain ⟨k, A', c', R, xs, ys, G, q, G', q', hk, rfl, rfl, HG, HO, HC, HN, HS, HB0, HB1⟩ := hrel
    have HWR : Hid (Below W0.heap.size W0 wr) := HW.out.trans (below_chg HC.out (fun j e => by subst e; exact HP.out) HW.out.size)
    by_cases hkn : k < n
    · obtain ⟨x, hx⟩ : ∃ x, V[k]? = some x := ⟨_, List.getElem?_eq_getElem (by have := HL.out; omega)⟩
      obtain ⟨al, bX, jX, rfl, hoX, g0, g1, g2, g3, g4, g5⟩ := (H.out.below HWR.out).atV hx
      have HOX := Lib.hid hoX
      have hki : (k : Int) < (n : Int) := by omega
      have HKN := Lib.hid hkn
      have HXX := Lib.hid hx
      clear hx hkn hk hoX
      go_wp2_with fail
      have OX := Lib.hid (Ob.fresh wr #[.int .i64 x.n, .int .u64 (x.h : Nat), .int .u64 (x.l : Nat), .int .i64 x.v, .int .i64 x.c, .slice bX x.log.length jX] 53)
      have HZ : Hid ((wr.alloc (.cells #[.int .i64 x.n, .int .u64 (x.h : Nat), .int .u64 (x.l : Nat), .int .i64 x.v, .int .i64 x.c, .slice bX x.log.length jX] 53)).heap.size = wr.heap.size + 1) := by simp [Hid]
      have BX : Hid (Below wr.heap.size wr (wr.alloc (.cells #[.int .i64 x.n, .int .u64 (x.h : Nat), .int .u64 (x.l : Nat), .int .i64 x.v, .int .i64 x.c, .slice bX x.log.length jX] 53))) := below_al _ _
      clear g0 g1 g2 g3 g4 g5
      generalize wr.alloc (.cells #[.int .i64 x.n, .int .u64 (x.h : Nat), .int .u64 (x.l : Nat), .int .i64 x.v, .int .i64 x.c, .slice bX x.log.length jX] 53) = w3 at OX BX HZ ⊢
      obtain ⟨r, hr⟩ : ∃ r, wr.heap.size = r := ⟨_, rfl⟩
      rw [hr] at OX HZ ⊢
      have HRR := Lib.hid hr
      clear hr
      have G3 := Lib.hid (HG.out.below BX.out)
      have O3 := Lib.hid (own_kept HO.out BX.out)
      have C3 : Hid (Chg (fun j => j = p) w w3) := HC.out.grown (grown_of_below BX.out none) (fun j e => by cases e)
      refine (gentries_any p _ _ G q G' q' xs ys w3 G3.out (by rw [HN.out.x]; have := HKN.out; have := HSM.out; omega) (by rw [HN.out.y]; have := HKN.out; have := HSM.out; omega) bX x.log.length jX x.log (HOX.out.rd.below BX.out) HOX.out.non (HLG.out x (List.mem_of_getElem? HXX.out))).mono ?_
      rintro e w5 ⟨G1, q1, G1', q1', a, b, rfl, hG5, ha, hb, hna, hnb, hC5, hK0, hK1, hFa, hFb⟩
      have hr0 : ∀ j, (Value.slice G xs.length q).ownBlock = some j → j < r := fun j e => by have := (HG.out.o0.lt j e).2; have := HRR.out; omega
      have hr1 : ∀ j, (Value.slice G' ys.length q').ownBlock = some j → j < r := fun j e => by have := (HG.out.o1.lt j e).2; have := HRR.out; omega
      have hp5 : p < r := by have := HG.out.lt; have := HRR.out; omega
      have hvr : ∀ j, (Value.slice A' k c').ownBlock = some j → j < r ∧ w.heap.size ≤ j := fun j e => by have := HO.out.lt j e; have := HRR.out; omega
      have HNS : Hid (∀ j, j = p ∨ some j = (Value.slice G xs.length q).ownBlock ∨ some j = (Value.slice G' ys.length q').ownBlock → j ≠ r ∧ (Value.slice A' k c').ownBlock ≠ some j) := by
        intro j hj
        rcases hj with hj | hj | hj
        · subst hj; exact ⟨by omega, fun e => by have := (hvr _ e).2; have := HPW.out; omega⟩
        · exact ⟨by have := hr0 j hj.symm; omega, fun e => (HS.out j e).1 hj⟩
        · exact ⟨by have := hr1 j hj.symm; omega, fun e => (HS.out j e).2.1 hj⟩
      have OX5 := Lib.hid (OX.out.chg hC5 (fun e => (HNS.out r e).1 rfl))
      have O5 := Lib.hid (own_chg O3.out hC5 (fun j e hS => (HNS.out j hS).2 e))
      have C5 : Hid (Chg (fun j => j = p) w w5) := C3.out.trans (hC5.mono (fun j e => by
        rcases e with e | e | e
        · exact .inl e
        · exact .inr (HB0.out j e.symm)
        · exact .inr (HB1.out j e.symm)))
      have S5 : Hid (r + 1 ≤ w5.heap.size) := by have := hC5.size; have := HZ.out; simp only [Hid]; omega
      have SP5 : Hid (Sep (.slice A' k c') (Value.slice G1 (xs ++ [a]).length q1).ownBlock (Value.slice G1' (ys ++ [b]).length q1').ownBlock (xs ++ [a]) (ys ++ [b])) := HS.out.next (N := r) (fun j e => (hvr j e).1) (fun j e => (hK0 j e).imp id (fun h => by have := HZ.out; omega)) (fun j e => (hK1 j e).imp id (fun h => by have := HZ.out; omega)) (fun ad e => by have := hFa ad e; have := HZ.out; omega) (fun ad e => by have := hFb ad e; have := HZ.out; omega)
      have BK0 : Hid (∀ j, (Value.slice G1 (xs ++ [a]).length q1).ownBlock = some j → w.heap.size ≤ j) := fun j e => (hK0 j e).elim (HB0.out j) (fun h => Nat.le_trans C3.out.size h)
      have BK1 : Hid (∀ j, (Value.slice G1' (ys ++ [b]).length q1').ownBlock = some j → w.heap.size ≤ j) := fun j e => (hK1 j e).elim (HB1.out j) (fun h => Nat.le_trans C3.out.size h)
      have NR0 : Hid (∀ j, (Value.slice G1 (xs ++ [a]).length q1).ownBlock = some j → j ≠ r) := fun j e => (hK0 j e).elim (fun h => by have := hr0 j h; omega) (fun h => by have := HZ.out; omega)
      have NR1 : Hid (∀ j, (Value.slice G1' (ys ++ [b]).length q1').ownBlock = some j → j ≠ r) := fun j e => (hK1 j e).elim (fun h => by have := hr1 j h; omega) (fun h => by have := HZ.out; omega)
      have NX : Hid (∀ z ∈ xs ++ [a], ∀ ad, z.A = some ad → ad.block ≠ r) := fun z hz ad e => by
        rcases List.mem_append.1 hz with hz | hz
        · have := ((HG.out.e0 z hz).2.2.2 ad e).2.1; have := HRR.out; omega
        · rw [List.mem_singleton.1 hz] at e; have := hFa ad e; have := HZ.out; omega
      have NY : Hid (∀ z ∈ ys ++ [b], ∀ ad, z.A = some ad → ad.block ≠ r) := fun z hz ad e => by
        rcases List.mem_append.1 hz with hz | hz
        · have := ((HG.out.e1 z hz).2.2.2 ad e).2.1; have := HRR.out; omega
        · rw [List.mem_singleton.1 hz] at e; have := hFb ad e; have := HZ.out; omega
      have LN := Lib.hid (HN.out.push HXX.out ha hb hna hnb)
      have HG5 := Lib.hid hG5
      have HP5 := Lib.hid hp5
      have HVR := Lib.hid hvr
      clear hC5 hK0 hK1 hFa hFb ha hb hna hnb hG5 hr0 hr1 hp5 hvr HNS G3 O3 C3 OX BX HS HB0 HB1 HN HG HO
      have z5 := OX5.out.cell 5 rfl
      have f5 := OX5.out.fr 5 (by simp)
      have zl := OX5.out.lt (by simp)
      have OY := Lib.hid (OX5.out.set 5 (by simp) (.slice a.A x.log.length a.c))
      have G6 : Hid (GvE (w5.setCell ⟨r, 5, none⟩ (.slice a.A x.log.length a.c)) p (.slice none 0 0) (.slice none 0 0) G1 q1 G1' q1' (xs ++ [a]) (ys ++ [b])) := HG5.out.grown (grown_setCell w5 ⟨r, 5, none⟩ _) (fun e => by have := HP5.out; injection e with e; simp only at e; omega) (fun j e h9 => NR0.out j e (by cases h9; rfl)) (fun j e h9 => NR1.out j e (by cases h9; rfl)) (fun z hz ad e h9 => NX.out z hz ad e (by cases h9; rfl)) (fun z hz ad e h9 => NY.out z hz ad e (by cases h9; rfl))
      have O6 : Hid ((w5.setCell ⟨r, 5, none⟩ (.slice a.A x.log.length a.c)).ownsRow w.heap.size 53 6 (.slice A' k c') k (CL Bt.cells R)) := O5.out.kept (grown_setCell w5 ⟨r, 5, none⟩ _) (by
        cases hv : (Value.slice A' k c').ownBlock with
        | none => exact .inl rfl
        | some j => exact .inr (fun e => by have := (HVR.out j hv).1; injection e with e; simp only at e; omega))
      have C6 : Hid (Chg (fun j => j = p) w (w5.setCell ⟨r, 5, none⟩ (.slice a.A x.log.length a.c))) := C5.out.grown (grown_setCell _ _ _) (fun j e => by cases e; exact .inr (by have := HRR.out; have := HC.out.size; show _ ≤ r; omega))
      have S6 : Hid (w.heap.size ≤ (w5.setCell ⟨r, 5, none⟩ (.slice a.A x.log.length a.c)).heap.size) := C6.out.size
      go_upto_region 7 with fail
      generalize w5.setCell ⟨r, 5, none⟩ (.slice a.A x.log.length a.c) = x2 at OY G6 O6 C6 S6 ⊢
      clear z5 f5 zl OX5 O5 C5 HG5
      obtain ⟨p0, p1, p2, p3, p4, p5⟩ := OY.out.all6
      go_wp2_with (at_builtin; refine wpList_app rfl (.tmp 23) (.tmp 25) rfl eltApiBallot w.heap.size (.slice A' k c') k (CL Bt.cells R) rfl (O6.out.alloc _) (some ⟨x2.heap.size, 0, none⟩) 1 1 (x.raw a.A a.c).cells rfl rfl (fun h => by cases h) (fresh_news x2 (x.raw a.A a.c).cells.toArray 53) (Bt.one (x.raw a.A a.c)) ?d3 ?d4 ?d5 ?_)
      case d3 => have := HKN.out; have := HSM.out; simp only [maxLen]; omega
      case d4 => have := HKN.out; have := HSM.out; omega
      case d5 => have := S6.out; simp; omega
      intro A9 c9 w9 ho9 hg9 hbk9
      have hgr := grown_twoE hg9
      have G9 := Lib.hid (G6.out.grown hgr (fun e => by have h1 := HVR.out p e.symm; have := HPW.out; omega) (fun j e h9 => (SP5.out j h9.symm).1 e.symm) (fun j e h9 => (SP5.out j h9.symm).2.1 e.symm) (fun z hz ad e h9 => (SP5.out ad.block h9.symm).2.2.1 z hz ad e rfl) (fun z hz ad e h9 => (SP5.out ad.block h9.symm).2.2.2 z hz ad e rfl))
      have C9 : Hid (Chg (fun j => j = p) w w9) := C6.out.grown hgr (fun j e => .inr (HVR.out j e).2)
      have P9 := Lib.hid (SP5.out.grow G6.out hbk9 (by simp))
      have O9 : Hid (w9.ownsRow w.heap.size 53 6 (.slice A9 (k + 1) c9) (k + 1) (CL Bt.cells (R ++ [x.raw a.A a.c]))) := by rw [CL_push]; exact ho9
      clear ho9 hg9 hbk9 hgr p0 p1 p2 p3 p4 p5 OY G6 O6 C6 SP5 NR0 NR1 NX NY HVR
      go_wp2_with fail
      go_roundw
      case rel => exact ⟨k + 1, A9, c9, _, _, _, G1, q1, G1', q1', HKN.out, by go_num, rfl, G9.out, O9.out, C9.out, LN.out, P9.out, BK0.out, BK1.out⟩
      case measure => have := HKN.out; simp [intOf]; omega
    · obtain rfl : k = n := by omega
      have hki : ¬ (k : Int) < (k : Int) := by omega
      have HVR : Hid (∀ j, (Value.slice A' k c').ownBlock = some j → w.heap.size ≤ j) := fun j e => (HO.out.lt j e).1
      have HSZ : Hid (w.heap.size ≤ wr.heap.size) := HC.out.size
      clear hkn hk
      go_wp2_with (at_builtin; refine wpList_app rfl (.tmp 27) (.tmp 29) rfl eltApiBallot w.heap.size (.slice A' k c') k (CL Bt.cells R) rfl (HO.out.alloc _) (some ⟨wr.heap.size, 0, none⟩) 1 1 markB.cells rfl rfl (fun h => by cases h) (fresh_news wr markB.cells.toArray 53) (Bt.one markB) ?i3 ?i4 ?i5 ?_)
      case i3 => have := HSM.out; simp only [maxLen]; omega
      case i4 => have := HSM.out; omega
      case i5 => have := HSZ.out; simp; omega
      intro A9 c9 w9 ho9 hg9 hbk9
      have hgr := grown_twoE hg9
      have G9 := Lib.hid (HG.out.grown hgr (fun e => by have h1 := HVR.out p e.symm; have := HPW.out; omega) (fun j e h9 => (HS.out j h9.symm).1 e.symm) (fun j e h9 => (HS.out j h9.symm).2.1 e.symm) (fun z hz ad e h9 => (HS.out ad.block h9.symm).2.2.1 z hz ad e rfl) (fun z hz ad e h9 => (HS.out ad.block h9.symm).2.2.2 z hz ad e rfl))
      have C9 : Hid (Chg (fun j => j = p) w w9) := HC.out.grown hgr (fun j e => .inr (HVR.out j e))
      have P9 := Lib.hid (HS.out.grow HG.out hbk9 (by simp))
      have O9 : Hid (w9.ownsRow w.heap.size 53 6 (.slice A9 (k + 1) c9) (k + 1) (CL Bt.cells (R ++ [markB]))) := by rw [CL_push]; exact ho9
      have hcap := own_room O9.out
      obtain ⟨g, cap, hv, hgb, _⟩ := O9.out.form (by omega)
      cases hv
      have HGB := Lib.hid hgb
      have HCAP := Lib.hid hcap
      have hc2 : (k : Int) ≤ (c9 : Int) := by omega
      clear ho9 hg9 hbk9 hgr hgb HS HG HO HC hcap
      go_wp2_with fail
      go_ret
      exact ⟨g, c9, G, q, G', q', xs, ys, R, rfl, HCAP.out, G9.out, C9.out, rdBt O9.out (by simp [HN.out.r]), HN.out, HGB.out, (P9.out g rfl).1, (P9.out g rfl).2.1, HB0.out, HB1.out⟩
set_option maxHeartbeats 16000000 in
set_option maxRecDepth 100000 in
theorem lentAnswers_any (W0 : World) (p : Nat) (A : Option Addr) (n c : Nat) (V : List Lt) (w : World) (hg : GvE w p (.slice none 0 0) (.slice none 0 0) none 0 none 0 [] []) (hW : Below W0.heap.size W0 w) (hp : W0.heap.size ≤ p) (h : RdV W0 A n V) (hsm : (n + 2) * 64 ≤ 140737488355328) (hlg : ∀ v ∈ V, (v.log.length + 2) * 48 ≤ 140737488355328) :
    Calls Try.prog 57 #[.pointer (some ⟨p, 0, none⟩), .slice A n c] w (LentV p V n w) := by
  have H := Lib.hid h
  have HL := Lib.hid h.len
  have HG0 := Lib.hid hg
  have HW := Lib.hid hW
  have HP := Lib.hid hp
  have HPW := Lib.hid hg.lt
  have HSM := Lib.hid hsm
  have HLG := Lib.hid hlg
  have hn : (n : Int) ≤ 6000000000000 := by omega
  have hpw := hg.lt
  clear h hg hW hp hsm hlg
  go_enter Try.func57, Try.ntmps57
  go_wp2_with fail
  go_loopw [5, 6] (fun vv iv wr => ∃ (k : Nat) (A' : Option Addr) (c' : Nat) (R : List Bt) (xs ys : List GE) (G : Option Addr) (q : Nat) (G' : Option Addr) (q' : Nat), k ≤ n ∧ iv = .int .i64 k ∧ vv = .slice A' k c' ∧ Hid (GvE wr p (.slice none 0 0) (.slice none 0 0) G q G' q' xs ys) ∧ Hid (wr.ownsRow w.heap.size 38 6 (.slice A' k c') k (CL Bt.cells R)) ∧ Hid (Chg (fun j => j = p) w wr) ∧ Hid (Lnk V k R xs ys) ∧ Hid (Sep (.slice A' k c') (Value.slice G xs.length q).ownBlock (Value.slice G' ys.length q').ownBlock xs ys) ∧ Hid (∀ j, (Value.slice G xs.length q).ownBlock = some j → w.heap.size ≤ j) ∧ Hid (∀ j, (Value.slice G' ys.length q').ownBlock = some j → w.heap.size ≤ j)) (fun _ iv _ => n - (intOf iv).toNat)
  case atStart => exact ⟨0, none, 0, [], [], [], none, 0, none, 0, by omega, rfl, rfl, HG0.out, World.ownsRow_nil _ _ _ _, Chg.refl _ _, Lnk.nil _, (fun j e => by cases e), (fun j e => by cases e), (fun j e => by cases e)⟩
  case round =>
    obtain ⟨k, A', c', R, xs, ys, G, q, G', q', hk, rfl, rfl, HG, HO, HC, HN, HS, HB0, HB1⟩ := hrel
    have HWR : Hid (Below W0.heap.size W0 wr) := HW.out.trans (below_chg HC.out (fun j e => by subst e; exact HP.out) HW.out.size)
    by_cases hkn : k < n
    · obtain ⟨x, hx⟩ : ∃ x, V[k]? = some x := ⟨_, List.getElem?_eq_getElem (by have := HL.out; omega)⟩
      obtain ⟨al, bX, jX, rfl, hoX, g0, g1, g2, g3, g4, g5⟩ := (H.out.below HWR.out).atV hx
      have HOX := Lib.hid hoX
      have hki : (k : Int) < (n : Int) := by omega
      have HKN := Lib.hid hkn
      have HXX := Lib.hid hx
      clear hx hkn hk hoX
      go_wp2_with fail
      have OX := Lib.hid (Ob.fresh wr #[.int .i64 x.n, .int .u64 (x.h : Nat), .int .u64 (x.l : Nat), .int .i64 x.v, .int .i64 x.c, .slice bX x.log.length jX] 38)
      have HZ : Hid ((wr.alloc (.cells #[.int .i64 x.n, .int .u64 (x.h : Nat), .int .u64 (x.l : Nat), .int .i64 x.v, .int .i64 x.c, .slice bX x.log.length jX] 38)).heap.size = wr.heap.size + 1) := by simp [Hid]
      have BX : Hid (Below wr.heap.size wr (wr.alloc (.cells #[.int .i64 x.n, .int .u64 (x.h : Nat), .int .u64 (x.l : Nat), .int .i64 x.v, .int .i64 x.c, .slice bX x.log.length jX] 38))) := below_al _ _
      clear g0 g1 g2 g3 g4 g5
      generalize wr.alloc (.cells #[.int .i64 x.n, .int .u64 (x.h : Nat), .int .u64 (x.l : Nat), .int .i64 x.v, .int .i64 x.c, .slice bX x.log.length jX] 38) = w3 at OX BX HZ ⊢
      obtain ⟨r, hr⟩ : ∃ r, wr.heap.size = r := ⟨_, rfl⟩
      rw [hr] at OX HZ ⊢
      have HRR := Lib.hid hr
      clear hr
      have G3 := Lib.hid (HG.out.below BX.out)
      have O3 := Lib.hid (own_kept HO.out BX.out)
      have C3 : Hid (Chg (fun j => j = p) w w3) := HC.out.grown (grown_of_below BX.out none) (fun j e => by cases e)
      refine (gentries_any p _ _ G q G' q' xs ys w3 G3.out (by rw [HN.out.x]; have := HKN.out; have := HSM.out; omega) (by rw [HN.out.y]; have := HKN.out; have := HSM.out; omega) bX x.log.length jX x.log (HOX.out.rd.below BX.out) HOX.out.non (HLG.out x (List.mem_of_getElem? HXX.out))).mono ?_
      rintro e w5 ⟨G1, q1, G1', q1', a, b, rfl, hG5, ha, hb, hna, hnb, hC5, hK0, hK1, hFa, hFb⟩
      have hr0 : ∀ j, (Value.slice G xs.length q).ownBlock = some j → j < r := fun j e => by have := (HG.out.o0.lt j e).2; have := HRR.out; omega
      have hr1 : ∀ j, (Value.slice G' ys.length q').ownBlock = some j → j < r := fun j e => by have := (HG.out.o1.lt j e).2; have := HRR.out; omega
      have hp5 : p < r := by have := HG.out.lt; have := HRR.out; omega
      have hvr : ∀ j, (Value.slice A' k c').ownBlock = some j → j < r ∧ w.heap.size ≤ j := fun j e => by have := HO.out.lt j e; have := HRR.out; omega
      have HNS : Hid (∀ j, j = p ∨ some j = (Value.slice G xs.length q).ownBlock ∨ some j = (Value.slice G' ys.length q').ownBlock → j ≠ r ∧ (Value.slice A' k c').ownBlock ≠ some j) := by
        intro j hj
        rcases hj with hj | hj | hj
        · subst hj; exact ⟨by omega, fun e => by have := (hvr _ e).2; have := HPW.out; omega⟩
        · exact ⟨by have := hr0 j hj.symm; omega, fun e => (HS.out j e).1 hj⟩
        · exact ⟨by have := hr1 j hj.symm; omega, fun e => (HS.out j e).2.1 hj⟩
      have OX5 := Lib.hid (OX.out.chg hC5 (fun e => (HNS.out r e).1 rfl))
      have O5 := Lib.hid (own_chg O3.out hC5 (fun j e hS => (HNS.out j hS).2 e))
      have C5 : Hid (Chg (fun j => j = p) w w5) := C3.out.trans (hC5.mono (fun j e => by
        rcases e with e | e | e
        · exact .inl e
        · exact .inr (HB0.out j e.symm)
        · exact .inr (HB1.out j e.symm)))
      have S5 : Hid (r + 1 ≤ w5.heap.size) := by have := hC5.size; have := HZ.out; simp only [Hid]; omega
      have SP5 : Hid (Sep (.slice A' k c') (Value.slice G1 (xs ++ [a]).length q1).ownBlock (Value.slice G1' (ys ++ [b]).length q1').ownBlock (xs ++ [a]) (ys ++ [b])) := HS.out.next (N := r) (fun j e => (hvr j e).1) (fun j e => (hK0 j e).imp id (fun h => by have := HZ.out; omega)) (fun j e => (hK1 j e).imp id (fun h => by have := HZ.out; omega)) (fun ad e => by have := hFa ad e; have := HZ.out; omega) (fun ad e => by have := hFb ad e; have := HZ.out; omega)
      have BK0 : Hid (∀ j, (Value.slice G1 (xs ++ [a]).length q1).ownBlock = some j → w.heap.size ≤ j) := fun j e => (hK0 j e).elim (HB0.out j) (fun h => Nat.le_trans C3.out.size h)
      have BK1 : Hid (∀ j, (Value.slice G1' (ys ++ [b]).length q1').ownBlock = some j → w.heap.size ≤ j) := fun j e => (hK1 j e).elim (HB1.out j) (fun h => Nat.le_trans C3.out.size h)
      have NR0 : Hid (∀ j, (Value.slice G1 (xs ++ [a]).length q1).ownBlock = some j → j ≠ r) := fun j e => (hK0 j e).elim (fun h => by have := hr0 j h; omega) (fun h => by have := HZ.out; omega)
      have NR1 : Hid (∀ j, (Value.slice G1' (ys ++ [b]).length q1').ownBlock = some j → j ≠ r) := fun j e => (hK1 j e).elim (fun h => by have := hr1 j h; omega) (fun h => by have := HZ.out; omega)
      have NX : Hid (∀ z ∈ xs ++ [a], ∀ ad, z.A = some ad → ad.block ≠ r) := fun z hz ad e => by
        rcases List.mem_append.1 hz with hz | hz
        · have := ((HG.out.e0 z hz).2.2.2 ad e).2.1; have := HRR.out; omega
        · rw [List.mem_singleton.1 hz] at e; have := hFa ad e; have := HZ.out; omega
      have NY : Hid (∀ z ∈ ys ++ [b], ∀ ad, z.A = some ad → ad.block ≠ r) := fun z hz ad e => by
        rcases List.mem_append.1 hz with hz | hz
        · have := ((HG.out.e1 z hz).2.2.2 ad e).2.1; have := HRR.out; omega
        · rw [List.mem_singleton.1 hz] at e; have := hFb ad e; have := HZ.out; omega
      have LN := Lib.hid (HN.out.push HXX.out ha hb hna hnb)
      have HG5 := Lib.hid hG5
      have HP5 := Lib.hid hp5
      have HVR := Lib.hid hvr
      clear hC5 hK0 hK1 hFa hFb ha hb hna hnb hG5 hr0 hr1 hp5 hvr HNS G3 O3 C3 OX BX HS HB0 HB1 HN HG HO
      have z5 := OX5.out.cell 5 rfl
      have f5 := OX5.out.fr 5 (by simp)
      have zl := OX5.out.lt (by simp)
      have OY := Lib.hid (OX5.out.set 5 (by simp) (.slice a.A x.log.length a.c))
      have G6 : Hid (GvE (w5.setCell ⟨r, 5, none⟩ (.slice a.A x.log.length a.c)) p (.slice none 0 0) (.slice none 0 0) G1 q1 G1' q1' (xs ++ [a]) (ys ++ [b])) := HG5.out.grown (grown_setCell w5 ⟨r, 5, none⟩ _) (fun e => by have := HP5.out; injection e with e; simp only at e; omega) (fun j e h9 => NR0.out j e (by cases h9; rfl)) (fun j e h9 => NR1.out j e (by cases h9; rfl)) (fun z hz ad e h9 => NX.out z hz ad e (by cases h9; rfl)) (fun z hz ad e h9 => NY.out z hz ad e (by cases h9; rfl))
      have O6 : Hid ((w5.setCell ⟨r, 5, none⟩ (.slice a.A x.log.length a.c)).ownsRow w.heap.size 38 6 (.slice A' k c') k (CL Bt.cells R)) := O5.out.kept (grown_setCell w5 ⟨r, 5, none⟩ _) (by
        cases hv : (Value.slice A' k c').ownBlock with
        | none => exact .inl rfl
        | some j => exact .inr (fun e => by have := (HVR.out j hv).1; injection e with e; simp only at e; omega))
      have C6 : Hid (Chg (fun j => j = p) w (w5.setCell ⟨r, 5, none⟩ (.slice a.A x.log.length a.c))) := C5.out.grown (grown_setCell _ _ _) (fun j e => by cases e; exact .inr (by have := HRR.out; have := HC.out.size; show _ ≤ r; omega))
      have S6 : Hid (w.heap.size ≤ (w5.setCell ⟨r, 5, none⟩ (.slice a.A x.log.length a.c)).heap.size) := C6.out.size
      go_upto_region 7 with fail
      generalize w5.setCell ⟨r, 5, none⟩ (.slice a.A x.log.length a.c) = x2 at OY G6 O6 C6 S6 ⊢
      clear z5 f5 zl OX5 O5 C5 HG5
      obtain ⟨p0, p1, p2, p3, p4, p5⟩ := OY.out.all6
      go_wp2_with (at_builtin; refine wpList_app rfl (.tmp 23) (.tmp 25) rfl eltApiAnswer w.heap.size (.slice A' k c') k (CL Bt.cells R) rfl (O6.out.alloc _) (some ⟨x2.heap.size, 0, none⟩) 1 1 (x.raw a.A a.c).cells rfl rfl (fun h => by cases h) (fresh_news x2 (x.raw a.A a.c).cells.toArray 38) (Bt.one (x.raw a.A a.c)) ?d3 ?d4 ?d5 ?_)
      case d3 => have := HKN.out; have := HSM.out; simp only [maxLen]; omega
      case d4 => have := HKN.out; have := HSM.out; omega
      case d5 => have := S6.out; simp; omega
      intro A9 c9 w9 ho9 hg9 hbk9
      have hgr := grown_twoE hg9
      have G9 := Lib.hid (G6.out.grown hgr (fun e => by have h1 := HVR.out p e.symm; have := HPW.out; omega) (fun j e h9 => (SP5.out j h9.symm).1 e.symm) (fun j e h9 => (SP5.out j h9.symm).2.1 e.symm) (fun z hz ad e h9 => (SP5.out ad.block h9.symm).2.2.1 z hz ad e rfl) (fun z hz ad e h9 => (SP5.out ad.block h9.symm).2.2.2 z hz ad e rfl))
      have C9 : Hid (Chg (fun j => j = p) w w9) := C6.out.grown hgr (fun j e => .inr (HVR.out j e).2)
      have P9 := Lib.hid (SP5.out.grow G6.out hbk9 (by simp))
      have O9 : Hid (w9.ownsRow w.heap.size 38 6 (.slice A9 (k + 1) c9) (k + 1) (CL Bt.cells (R ++ [x.raw a.A a.c]))) := by rw [CL_push]; exact ho9
      clear ho9 hg9 hbk9 hgr p0 p1 p2 p3 p4 p5 OY G6 O6 C6 SP5 NR0 NR1 NX NY HVR
      go_wp2_with fail
      go_roundw
      case rel => exact ⟨k + 1, A9, c9, _, _, _, G1, q1, G1', q1', HKN.out, by go_num, rfl, G9.out, O9.out, C9.out, LN.out, P9.out, BK0.out, BK1.out⟩
      case measure => have := HKN.out; simp [intOf]; omega
    · obtain rfl : k = n := by omega
      have hki : ¬ (k : Int) < (k : Int) := by omega
      have HVR : Hid (∀ j, (Value.slice A' k c').ownBlock = some j → w.heap.size ≤ j) := fun j e => (HO.out.lt j e).1
      have HSZ : Hid (w.heap.size ≤ wr.heap.size) := HC.out.size
      clear hkn hk
      go_wp2_with (at_builtin; refine wpList_app rfl (.tmp 27) (.tmp 29) rfl eltApiAnswer w.heap.size (.slice A' k c') k (CL Bt.cells R) rfl (HO.out.alloc _) (some ⟨wr.heap.size, 0, none⟩) 1 1 markB.cells rfl rfl (fun h => by cases h) (fresh_news wr markB.cells.toArray 38) (Bt.one markB) ?i3 ?i4 ?i5 ?_)
      case i3 => have := HSM.out; simp only [maxLen]; omega
      case i4 => have := HSM.out; omega
      case i5 => have := HSZ.out; simp; omega
      intro A9 c9 w9 ho9 hg9 hbk9
      have hgr := grown_twoE hg9
      have G9 := Lib.hid (HG.out.grown hgr (fun e => by have h1 := HVR.out p e.symm; have := HPW.out; omega) (fun j e h9 => (HS.out j h9.symm).1 e.symm) (fun j e h9 => (HS.out j h9.symm).2.1 e.symm) (fun z hz ad e h9 => (HS.out ad.block h9.symm).2.2.1 z hz ad e rfl) (fun z hz ad e h9 => (HS.out ad.block h9.symm).2.2.2 z hz ad e rfl))
      have C9 : Hid (Chg (fun j => j = p) w w9) := HC.out.grown hgr (fun j e => .inr (HVR.out j e))
      have P9 := Lib.hid (HS.out.grow HG.out hbk9 (by simp))
      have O9 : Hid (w9.ownsRow w.heap.size 38 6 (.slice A9 (k + 1) c9) (k + 1) (CL Bt.cells (R ++ [markB]))) := by rw [CL_push]; exact ho9
      have hcap := own_room O9.out
      obtain ⟨g, cap, hv, hgb, _⟩ := O9.out.form (by omega)
      cases hv
      have HGB := Lib.hid hgb
      have HCAP := Lib.hid hcap
      have hc2 : (k : Int) ≤ (c9 : Int) := by omega
      clear ho9 hg9 hbk9 hgr hgb HS HG HO HC hcap
      go_wp2_with fail
      go_ret
      exact ⟨g, c9, G, q, G', q', xs, ys, R, rfl, HCAP.out, G9.out, C9.out, rdBt O9.out (by simp [HN.out.r]), HN.out, HGB.out, (P9.out g rfl).1, (P9.out g rfl).2.1, HB0.out, HB1.out⟩
end Go.Proofs.Ytjjobgolpedgeaa
set_option linter.unusedVariables false
set_option linter.unusedSimpArgs false
namespace Go.Proofs.Ytjjobgolpedgeaa
open Go.RowKit

theorem GvE.vec {w w' : World} {p : Nat} {G : Option Addr} {c : Nat} {G' : Option Addr} {c' : Nat} {xs ys : List GE} {d0 d1 x y : Value} (h : GvE w p d0 d1 G c G' c' xs ys) (hc : Chg (fun j => j = p) w w') (ob : Ob w' p (g10 x y (.slice G xs.length c) (.slice G' ys.length c'))) : GvE w' p x y G c G' c' xs ys := by
  have key : ∀ z : GE, z.Ok w p (Value.slice G xs.length c).ownBlock (Value.slice G' ys.length c').ownBlock → z.Ok w' p (Value.slice G xs.length c).ownBlock (Value.slice G' ys.length c').ownBlock := fun z hz =>
    ⟨hz.1.chg hc (fun ad e => by have := (hz.2.2.2 ad e).1; omega), hz.2.1, hz.2.2.1, fun ad e => by have h4 := hz.2.2.2 ad e; have := hc.size; exact ⟨h4.1, by omega, h4.2.2⟩⟩
  exact ⟨ob, own_chg h.o0 hc (fun j e => by have := (h.o0.lt j e).1; omega), own_chg h.o1 hc (fun j e => by have := (h.o1.lt j e).1; omega), h.ne, fun z hz => key z (h.e0 z hz), fun z hz => key z (h.e1 z hz)⟩
theorem GvE.start {w : World} {p : Nat} (h : Ob w p nil10) : GvE w p (.slice none 0 0) (.slice none 0 0) none 0 none 0 [] [] :=
  ⟨h, World.ownsRow_nil _ _ _ _, World.ownsRow_nil _ _ _ _, fun b e _ => (by cases e), fun x hx => by simp at hx, fun x hx => by simp at hx⟩
/-- what Settle answers, in one form -/
theorem OneV.form {W : World} {r : Option Lt} {e : Ending} {w' : World} (h : OneV W r e w') : ∃ A k, e = .returned (.tuple #[(r.getD default).agg A k, .int .i64 (if r.isSome then 0 else 81)]) ∧ OkL w' A k (r.getD default).log ∧ Below W.heap.size W w' := by
  obtain ⟨hb, h⟩ := h
  rcases h with ⟨rfl, rfl⟩ | ⟨x, A, k, rfl, rfl, ho⟩
  · exact ⟨none, 0, rfl, OkL.nil _, hb⟩
  · exact ⟨A, k, rfl, ho, hb⟩
theorem refPutBallot_w (A : Option Addr) (n c : Nat) (V : List Lt) (x : Lt) (B : Option Addr) (k : Nat) (w : World) (h : RdV w A n V) (hA : A = none → n = 0 ∧ c = 0) (hx : OkL w B k x.log) (hsm : (n + 3) * 64 ≤ 140737488355328) :
    Calls Try.prog 68 #[.slice A n c, x.agg B k] w (RetW w (putF Lt.n Lt.wins V x)) := by
  obtain ⟨R, h1, h2, h3⟩ := h.raws
  obtain ⟨o1, o2⟩ := hx.ok
  have ho : ∀ r, r = x.raw B k ∨ r ∈ R → LgOk (lgAt w) w r := fun r hr => hr.elim (fun e => e ▸ o1) (h2 r)
  refine (refPutBallot_fn A n c R (x.raw B k) (lgAt w) w h1 ho hA hsm).mono fun e w' h => ?_
  have := retW_of h (fun r hr => ho r (putF_mem hr))
  rw [putF_map (nodeA := Bt.n) (nodeB := Lt.n) (winsB := Lt.wins) (fun _ => rfl) (wins_abs w), h3, o2] at this
  exact this
theorem refPruneBallot_w (A : Option Addr) (n c : Nat) (V : List Lt) (B : Option Addr) (m d : Nat) (U : List Dw) (w : World) (h : RdV w A n V) (hv : RdC 2 Dw.cells w B m U) (hsm : n * 64 ≤ 140737488351232) (hsv : m ≤ 100000000000000) :
    Calls Try.prog 69 #[.slice A n c, .slice B m d] w (RetW w (pruneF (Lt.over U) V)) := by
  obtain ⟨R, h1, h2, h3⟩ := h.raws
  refine (refPruneBallot_fn A n c R B m d U (lgAt w) w h1 h2 hv hsm hsv).mono fun e w' h => ?_
  have := retW_of h (fun r hr => h2 r (List.mem_filter.1 hr).1)
  rw [pruneF_map (oA := Bt.over U) (oB := Lt.over U) (g := Bt.abs (lgAt w)) (fun _ => rfl), h3] at this
  exact this
set_option maxHeartbeats 8000000 in
set_option maxRecDepth 100000 in
theorem keptBallots_any (g : Nat) (A : Option Addr) (n c d : Nat) (V : List Lt) (R : List Bt) (w : World) (h : RdV w A n V) (hv : RdV w (some ⟨g, 0, none⟩) n V) (ho : RdC 6 Bt.cells w (some ⟨g, 0, none⟩) (n + 1) (R ++ [markB])) (hR : R.length = n) (hd : n + 1 ≤ d) (hsm : (n + 1) * 64 ≤ 140737488355328) :
    Calls Try.prog 71 #[.slice (some ⟨g, 0, none⟩) n d, .slice A n c] w fun e w' => e = .returned (.bool true) ∧ ∃ q, w' = w.drewN q := by
  have HL := Lib.hid hR
  have F := Lib.hid (sameBallots_any (some ⟨g, 0, none⟩) A n d c V w hv h)
  have HO := Lib.hid ho
  have hn : (n : Int) ≤ 6000000000000 := by omega
  have hc1 : (n : Int) + 1 ≤ (d : Int) := by omega
  have hc2 : (n : Int) ≤ (d : Int) := by omega
  have hc4 : ¬ d = 0 := by omega
  clear h ho hd hsm hv hR
  go_enter Try.func71, Try.ntmps71
  go_wp2_with fail
  refine F.out.mono ?_
  rintro e w2 ⟨rfl, q, rfl⟩
  have R2 := Lib.hid (HO.out.drewN q)
  obtain ⟨ad, e, p0, p1, p2, p3, p4, p5⟩ := R2.out.atBt (k := n) (x := markB) (by rw [List.getElem?_append_right (by rw [HL.out]; exact Nat.le_refl _), HL.out]; simp)
  cases e
  rw [add_at] at p0
  clear p1 p2 p3 p4 p5
  generalize hw : w.drewN q = w2 at R2 p0 ⊢
  have HW := Lib.hid hw
  clear hw F
  go_wp2_with fail
  go_ret
  exact ⟨rfl, q, HW.out.symm⟩
theorem refPutAnswer_w (A : Option Addr) (n c : Nat) (V : List Lt) (x : Lt) (B : Option Addr) (k : Nat) (w : World) (h : RdV w A n V) (hA : A = none → n = 0 ∧ c = 0) (hx : OkL w B k x.log) (hsm : (n + 3) * 64 ≤ 140737488355328) :
    Calls Try.prog 61 #[.slice A n c, x.agg B k] w (RetW w (putF Lt.n Lt.wins V x)) := by
  obtain ⟨R, h1, h2, h3⟩ := h.raws
  obtain ⟨o1, o2⟩ := hx.ok
  have ho : ∀ r, r = x.raw B k ∨ r ∈ R → LgOk (lgAt w) w r := fun r hr => hr.elim (fun e => e ▸ o1) (h2 r)
  refine (refPutAnswer_fn A n c R (x.raw B k) (lgAt w) w h1 ho hA hsm).mono fun e w' h => ?_
  have := retW_of h (fun r hr => ho r (putF_mem hr))
  rw [putF_map (nodeA := Bt.n) (nodeB := Lt.n) (winsB := Lt.wins) (fun _ => rfl) (wins_abs w), h3, o2] at this
  exact this
theorem refPruneAnswer_w (A : Option Addr) (n c : Nat) (V : List Lt) (B : Option Addr) (m d : Nat) (U : List Dw) (w : World) (h : RdV w A n V) (hv : RdC 2 Dw.cells w B m U) (hsm : n * 64 ≤ 140737488351232) (hsv : m ≤ 100000000000000) :
    Calls Try.prog 62 #[.slice A n c, .slice B m d] w (RetW w (pruneF (Lt.over U) V)) := by
  obtain ⟨R, h1, h2, h3⟩ := h.raws
  refine (refPruneAnswer_fn A n c R B m d U (lgAt w) w h1 h2 hv hsm hsv).mono fun e w' h => ?_
  have := retW_of h (fun r hr => h2 r (List.mem_filter.1 hr).1)
  rw [pruneF_map (oA := Bt.over U) (oB := Lt.over U) (g := Bt.abs (lgAt w)) (fun _ => rfl), h3] at this
  exact this
set_option maxHeartbeats 8000000 in
set_option maxRecDepth 100000 in
theorem keptAnswers_any (g : Nat) (A : Option Addr) (n c d : Nat) (V : List Lt) (R : List Bt) (w : World) (h : RdV w A n V) (hv : RdV w (some ⟨g, 0, none⟩) n V) (ho : RdC 6 Bt.cells w (some ⟨g, 0, none⟩) (n + 1) (R ++ [markB])) (hR : R.length = n) (hd : n + 1 ≤ d) (hsm : (n + 1) * 64 ≤ 140737488355328) :
    Calls Try.prog 64 #[.slice (some ⟨g, 0, none⟩) n d, .slice A n c] w fun e w' => e = .returned (.bool true) ∧ ∃ q, w' = w.drewN q := by
  have HL := Lib.hid hR
  have F := Lib.hid (sameAnswers_any (some ⟨g, 0, none⟩) A n d c V w hv h)
  have HO := Lib.hid ho
  have hn : (n : Int) ≤ 6000000000000 := by omega
  have hc1 : (n : Int) + 1 ≤ (d : Int) := by omega
  have hc2 : (n : Int) ≤ (d : Int) := by omega
  have hc4 : ¬ d = 0 := by omega
  clear h ho hd hsm hv hR
  go_enter Try.func64, Try.ntmps64
  go_wp2_with fail
  refine F.out.mono ?_
  rintro e w2 ⟨rfl, q, rfl⟩
  have R2 := Lib.hid (HO.out.drewN q)
  obtain ⟨ad, e, p0, p1, p2, p3, p4, p5⟩ := R2.out.atBt (k := n) (x := markB) (by rw [List.getElem?_append_right (by rw [HL.out]; exact Nat.le_refl _), HL.out]; simp)
  cases e
  rw [add_at] at p0
  clear p1 p2 p3 p4 p5
  generalize hw : w.drewN q = w2 at R2 p0 ⊢
  have HW := Lib.hid hw
  clear hw F
  go_wp2_with fail
  go_ret
  exact ⟨rfl, q, HW.out.symm⟩
end Go.Proofs.Ytjjobgolpedgeaa
