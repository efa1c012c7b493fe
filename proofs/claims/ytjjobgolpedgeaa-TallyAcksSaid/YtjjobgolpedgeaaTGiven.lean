/-
  The walks of CopyVector, SameVector, amnesiaplain.Given.Vector (once), Intact behind it.
-/
import Derived.Test.YtjjobgolpedgeaaTPruneP
import Derived.Test.YtjjobgolpedgeaaTRefCmp
import Derived.Test.YtjjobgolpedgeaaTPutF
set_option linter.unusedVariables false
set_option linter.unusedSimpArgs false
namespace Go.Proofs.Ytjjobgolpedgeaa
open Go.RowKit

theorem eltVecs : Elt Try.prog 72 63 (.slice none 0 0) 1 24 := ⟨Try.underlying72, by kernel_rfl, rfl, by decide⟩
theorem rdDw {w : World} {B n : Nat} {e : TypeId} {A : Option Addr} {c : Nat} {L : List Dw} (h : w.ownsRow B e 2 (.slice A n c) n (CL Dw.cells L)) (hl : L.length = n) : RdC 2 Dw.cells w A n L := rdc_own (size := 2) (cells := Dw.cells) (fun _ => rfl) h hl
theorem RdC.chg {α : Type} {S : Nat → Prop} {size : Nat} {cells : α → List Value} {w w1 : World} {A : Option Addr} {n : Nat} {l : List α} (h : RdC size cells w A n l) (hc : Chg S w w1) (hb : ∀ ad, A = some ad → ¬ S ad.block) : RdC size cells w1 A n l :=
  ⟨h.len, h.le, fun j x hj => by
    obtain ⟨ad, e, hcl⟩ := h.cell j x hj
    refine ⟨ad, e, fun i u hu => ?_⟩
    have h1 := hcl i u hu
    exact (World.cell?_of_block (a := ad.add (j * size + i)) (hc.block (ad.add (j * size + i)).block (World.block_lt_of_cell? w _ h1) (by rw [add_block]; exact hb ad e))).trans h1⟩
set_option maxHeartbeats 1600000 in
theorem copyVector_any (A : Option Addr) (n c : Nat) (L : List Dw) (w : World) (h : RdC 2 Dw.cells w A n L) (hA : A = none → n = 0 ∧ c = 0) (hsm : n * 16 ≤ 140737488355328) :
    Calls Try.prog 96 #[.slice A n c] w (RetL 27 2 Dw.cells w L) := by
  have H := Lib.hid h
  have HL := Lib.hid h.len
  have HA := Lib.hid hA
  have HSM := Lib.hid hsm
  clear h hA hsm
  go_enter Try.func96, Try.ntmps96
  go_wp2_with (at_builtin; refine wpList_app rfl (.const (.slice none 0 0)) (.tmp 3) rfl eltVector w.heap.size (.slice none 0 0) 0 [] rfl (World.ownsRow_nil _ _ _ _) A n c (CL Dw.cells L) rfl (by rw [CL_len (size := 2) (fun _ => rfl), HL.out]) HA.out (rdc_news (size := 2) (cells := Dw.cells) (by decide) (fun _ => rfl) H.out) (CL_one (cells := Dw.cells) Dw.one L) ?a3 ?a4 ?a5 ?_)
  case a3 => have := HSM.out; simp only [maxLen]; omega
  case a4 => have := HSM.out; omega
  case a5 => exact Nat.le_refl _
  intro A5 c5 w5 ho5 hg5 _
  have B5 : Hid (Below w.heap.size w w5) := ⟨hg5.os, hg5.tape, hg5.output, hg5.size, fun z hz => hg5.block z hz (fun e => by cases e)⟩
  have O5 : Hid (w5.ownsRow w.heap.size 27 2 (.slice A5 n c5) n (CL Dw.cells L)) := ho5
  clear ho5 hg5
  go_wp2_with fail
  go_ret
  exact ⟨A5, c5, by rw [HL.out]; exact rfl, B5.out, by rw [HL.out]; exact O5.out⟩
set_option maxHeartbeats 1600000 in
theorem sameVector_any (A B : Option Addr) (n c d : Nat) (L : List Dw) (w : World) (ha : RdC 2 Dw.cells w A n L) (hb : RdC 2 Dw.cells w B n L) :
    Calls Try.prog 108 #[.slice A n c, .slice B n d] w fun e w' => e = .returned (.bool true) ∧ ∃ m, w' = w.drewN m := by
  have HA := Lib.hid ha
  have HB := Lib.hid hb
  have hn : (n : Int) ≤ 9223372036854775807 := by have := ha.le; omega
  clear ha hb
  go_enter Try.func108, Try.ntmps108
  go_wp2
  go_loopw [5] (fun i wr => ∃ (k m : Nat), k ≤ n ∧ i = .int .i64 k ∧ Hid (wr = w.drewN m)) (fun i _ => n - (intOf i).toNat)
  case atStart => exact ⟨0, 0, by omega, rfl, rfl⟩
  case round =>
    obtain ⟨k, m, hk, rfl, HR⟩ := hrel
    by_cases hkn : k < n
    · obtain ⟨x, hx⟩ : ∃ x, L[k]? = some x := ⟨_, List.getElem?_eq_getElem (by have := HA.out.len; omega)⟩
      have HA' : RdC 2 Dw.cells wr A n L := by rw [HR.out]; exact HA.out.drewN m
      have HB' : RdC 2 Dw.cells wr B n L := by rw [HR.out]; exact HB.out.drewN m
      obtain ⟨ad, rfl, g0, g1⟩ := HA'.atDw hx
      obtain ⟨bd, rfl, p0, p1⟩ := HB'.atDw hx
      have e1 : IntKind.i64.wrap ((k : Int) + 1) = (k : Int) + 1 := by rw [IntKind.wrap_i64]; omega
      clear hx HA' HB'
      go_wp2
      go_quiet (fail)
      go_wp2
      go_roundw
      case rel => exact ⟨k + 1, m + nq, by omega, by go_num, by rw [HR.out, World.drewN_drewN]; exact rfl⟩
      case measure => simp [intOf]; omega
    · obtain rfl : k = n := by omega
      go_wp2
      go_ret
      exact ⟨rfl, m, HR.out⟩
abbrev nil10 : List Value := [.slice none 0 0, .slice none 0 0, .slice none 0 0, .slice none 0 0, .slice none 0 0, .slice none 0 0, .slice none 0 0, .slice none 0 0, .slice none 0 0, .slice none 0 0]
abbrev two10 (x y : Value) : List Value := [.slice none 0 0, .slice none 0 0, x, y, .slice none 0 0, .slice none 0 0, .slice none 0 0, .slice none 0 0, .slice none 0 0, .slice none 0 0]
/-- Given, behind one Vector -/
structure GvV (w : World) (g : Nat) (n : Nat) (V : List Dw) (d1 d2 : Addr) (e1 e2 : Nat) (A2 A5 : Option Addr) (c2 c5 : Nat) : Prop where
  ob : Ob w g (two10 (.slice (some d1) 1 e1) (.slice (some d2) 1 e2))
  c1 : w.cell? d1 = some (.slice A2 n c2)
  c2 : w.cell? d2 = some (.slice A5 n c5)
  r1 : RdC 2 Dw.cells w A2 n V
  r2 : RdC 2 Dw.cells w A5 n V
set_option maxHeartbeats 8000000 in
set_option maxRecDepth 100000 in
theorem intact_any (g n : Nat) (V : List Dw) (d1 d2 : Addr) (e1 e2 : Nat) (A2 A5 : Option Addr) (c2 c5 : Nat) (w : World) (h : GvV w g n V d1 d2 e1 e2 A2 A5 c2 c5) :
    Calls Try.prog 45 #[.pointer (some ⟨g, 0, none⟩)] w fun e w' => e = .returned (.bool true) ∧ ∃ q, w' = w.drewN q := by
  have H := Lib.hid h
  clear h
  have o0 := H.out.ob.cell 0 rfl
  have o2 := H.out.ob.cell 2 rfl
  have o3 := H.out.ob.cell 3 rfl
  have o4 := H.out.ob.cell 4 rfl
  have o6 := H.out.ob.cell 6 rfl
  have o8 := H.out.ob.cell 8 rfl
  have t1 := H.out.c1
  have t2 := H.out.c2
  go_enter Try.func45, Try.ntmps45
  go_wp2
  refine wp_loop_rounds 1 ?_
  rw [rounds_succ]
  go_wp2
  refine wp_loop_rounds 1 ?_
  rw [rounds_succ]
  go_wp2
  refine wp_loop_rounds 1 ?_
  rw [rounds_succ]
  go_wp2
  refine wp_loop_rounds 2 ?_
  rw [rounds_succ]
  have Q := Lib.hid (fun q => Calls.quiet_of (sameVector_any A2 A5 n c2 c5 V (w.drewN q) (H.out.r1.drewN q) (H.out.r2.drewN q)))
  go_upto_region 19 with fail
  go_quiet ((go_at_call 108; (with_reducible exact Q.out _)))
  go_wp2
  rw [rounds_succ]
  go_wp2
  refine wp_loop_rounds 1 ?_
  rw [rounds_succ]
  go_wp2
  go_ret
  exact ⟨rfl, nq, rfl⟩
/-- what Given.Vector answers -/
def VecOut (g n : Nat) (V : List Dw) (W : World) (e : Ending) (w' : World) : Prop :=
  ∃ b c d1 d2 e1 e2 A5 c5, e = .returned (.slice (some b) n c) ∧ Chg (fun j => j = g) W w' ∧ W.heap.size ≤ b.block ∧ GvV w' g (n + 1) (V ++ [⟨77, 88⟩]) d1 d2 e1 e2 (some b) A5 c c5
set_option maxHeartbeats 8000000 in
set_option maxRecDepth 100000 in
theorem givenVector_any (g : Nat) (A : Option Addr) (n c : Nat) (V : List Dw) (w : World) (hg : Ob w g nil10) (h : RdC 2 Dw.cells w A n V) (hA : A = none → n = 0 ∧ c = 0) (hsm : (n + 2) * 16 ≤ 140737488355328) :
    Calls Try.prog 37 #[.pointer (some ⟨g, 0, none⟩), .slice A n c] w (VecOut g n V w) := by
  have HG := Lib.hid hg
  have H := Lib.hid h
  have HL := Lib.hid h.len
  have HA := Lib.hid hA
  have HSM := Lib.hid hsm
  have hn : (n : Int) ≤ 100000000000000 := by omega
  have HZG := Lib.hid (hg.lt (by simp))
  clear hg h hA hsm
  go_enter Try.func37, Try.ntmps37
  go_wp2_with fail
  refine (copyVector_any A n c V _ H.out HA.out (by have := HSM.out; omega)).mono ?_
  rw [show (RetL 27 2 Dw.cells w V) = fun e w' => ∃ A c, e = .returned (.slice A n c) ∧ Below w.heap.size w w' ∧ w'.ownsRow w.heap.size 27 2 (.slice A n c) n (CL Dw.cells V) by funext e w'; unfold RetL; rw [HL.out]]
  rintro e w1 ⟨A1, c1, rfl, hb1, ho1⟩
  have B1 := Lib.hid hb1
  have O1 := Lib.hid ho1
  clear hb1 ho1
  go_wp2_with (at_builtin; refine wpList_app rfl (.tmp 7) (.tmp 9) rfl eltVector w.heap.size (.slice A1 n c1) n (CL Dw.cells V) rfl (O1.out.alloc _) (some ⟨w1.heap.size, 0, none⟩) 1 1 (⟨77, 88⟩ : Dw).cells rfl rfl (fun h => by cases h) (fresh_news w1 (⟨77, 88⟩ : Dw).cells.toArray 27) (Dw.one ⟨77, 88⟩) ?b3 ?b4 ?b5 ?_)
  case b3 => have := HSM.out; simp only [maxLen]; omega
  case b4 => have := HSM.out; omega
  case b5 => have := B1.out.size; simp; omega
  intro A2 c2 w2 ho2 hg2 _
  have B2 : Hid (Below w.heap.size w w2) := below_own B1.out B1.out.size O1.out ((World.grownBy_alloc w1 _ _).trans hg2)
  have O2 : Hid (w2.ownsRow w.heap.size 27 2 (.slice A2 (n + 1) c2) (n + 1) (CL Dw.cells (V ++ [⟨77, 88⟩]))) := by rw [CL_push]; exact ho2
  have R2 : Hid (RdC 2 Dw.cells w2 A2 (n + 1) (V ++ [⟨77, 88⟩])) := rdDw O2.out (by simp [HL.out])
  have hcap : n + 1 ≤ c2 := by
    rcases O2.out.2 with ⟨hv, h0⟩ | ⟨q, cap, cur, hv, _, _, h1, _⟩
    · omega
    · cases hv; exact h1
  obtain ⟨b, cap, hv, hgb, _⟩ := O2.out.form (by omega)
  cases hv
  have HBB : Hid (b < w2.heap.size) := (O2.out.lt b rfl).2
  have HGB := Lib.hid hgb
  have HG2 : Hid (g < w2.heap.size) := Nat.lt_of_lt_of_le HZG.out B2.out.size
  have hc2 : (n : Int) ≤ (c2 : Int) := by omega
  have hc3 : ¬ c2 = 0 := by omega
  have hc4 : ¬ c2 = n := by omega
  have OG2 := Lib.hid (HG.out.below B2.out)
  have g2 := OG2.out.cell 2 rfl
  clear ho2 hg2 hcap hgb O1 B1 HG
  go_wp2_with (at_builtin; refine wpList_app rfl (.tmp 15) (.tmp 17) rfl eltVecs w2.heap.size (.slice none 0 0) 0 [] rfl (World.ownsRow_nil _ _ _ _) (some ⟨w2.heap.size, 0, none⟩) 1 1 [.slice (some ⟨b, 0, none⟩) (n + 1) c2] rfl rfl (fun h => by cases h) (fresh_news w2 #[.slice (some ⟨b, 0, none⟩) (n + 1) c2] 63) (by intro u hu; simp at hu; subst hu; rfl) ?e3 ?e4 ?e5 ?_)
  case e3 => simp only [maxLen]; omega
  case e4 => omega
  case e5 => simp
  intro A3 c3 w3 ho3 hg3 _
  have B3 : Hid (Below w2.heap.size w2 w3) := (below_al w2 _).trans ⟨hg3.os, hg3.tape, hg3.output, hg3.size, fun z hz => hg3.block z (by simp; omega) (fun e => by cases e)⟩
  have OG3 := Lib.hid (OG2.out.below B3.out)
  have R3 := Lib.hid (R2.out.below B3.out)
  obtain ⟨d1, cap1, hv1, hd1, _⟩ := ho3.form (by decide)
  cases hv1
  have T3 : Hid (w3.cell? ⟨d1, 0, none⟩ = some (.slice (some ⟨b, 0, none⟩) (n + 1) c2)) := ho3.cells (g := d1) rfl 0 _ rfl
  have HD1 := Lib.hid hd1
  clear ho3 hg3 hd1 g2
  have g2 := OG3.out.cell 2 rfl
  have f2 := OG3.out.fr 2 (by simp)
  have z3 : g < w3.heap.size := OG3.out.lt (by simp)
  go_upto_region 3 with fail
  clear g2 f2 z3
  have OG4 : Hid (Ob (w3.setCell ⟨g, 2, none⟩ (.slice (some ⟨d1, 0, none⟩) 1 c3)) g (two10 (.slice (some ⟨d1, 0, none⟩) 1 c3) (.slice none 0 0))) := OG3.out.set 2 (by simp) _
  have C4 : Hid (Chg (fun j => j = g) w (w3.setCell ⟨g, 2, none⟩ (.slice (some ⟨d1, 0, none⟩) 1 c3))) := ((((Chg.refl _ w).grown (grown_of_below (B2.out.mono (Nat.le_refl _)) none) (fun j e => by cases e)).grown (grown_of_below B3.out none) (fun j e => by cases e))).grown (grown_setCell _ _ _) (fun j e => by cases e; exact .inl rfl)
  have T4 : Hid ((w3.setCell ⟨g, 2, none⟩ (.slice (some ⟨d1, 0, none⟩) 1 c3)).cell? ⟨d1, 0, none⟩ = some (.slice (some ⟨b, 0, none⟩) (n + 1) c2)) := (grown_setCell w3 ⟨g, 2, none⟩ _).cell T3.out (by have h1 := HZG.out; have h2 := HD1.out; have h3 := B2.out.size; intro e; simp at e; omega)
  have R4 : Hid (RdC 2 Dw.cells (w3.setCell ⟨g, 2, none⟩ (.slice (some ⟨d1, 0, none⟩) 1 c3)) (some ⟨b, 0, none⟩) (n + 1) (V ++ [⟨77, 88⟩])) := R3.out.grown (grown_setCell w3 ⟨g, 2, none⟩ _) (fun ad e => by cases e; have h1 := HZG.out; have h2 := HGB.out; intro e; simp at e; omega)
  have S4 : Hid (w.heap.size ≤ (w3.setCell ⟨g, 2, none⟩ (.slice (some ⟨d1, 0, none⟩) 1 c3)).heap.size) := by have h1 := B2.out.size; have h2 := B3.out.size; simp only [Hid, World.size_setCell]; omega
  generalize w3.setCell ⟨g, 2, none⟩ (.slice (some ⟨d1, 0, none⟩) 1 c3) = w4 at OG4 C4 T4 R4 S4 ⊢
  clear B3 OG3 R3 T3 OG2 R2 O2 B2
  have FC : Hid (∀ W', (∃ m, W' = w4.drewN m) → Calls Try.prog 96 #[.slice (some ⟨b, 0, none⟩) (n + 1) c2] W' fun e w5 => ∃ (A5 : Option Addr) (c5 : Nat), e = .returned (.slice A5 (n + 1) c5) ∧ w5.cell? ⟨g, 3, none⟩ = some (.slice none 0 0) ∧ g < w5.heap.size ∧ Hid (Below w4.heap.size w4 w5 ∧ RdC 2 Dw.cells w5 A5 (n + 1) (V ++ [⟨77, 88⟩]) ∧ ∀ ad, A5 = some ad → w4.heap.size ≤ ad.block)) := by
    rintro W' ⟨m, rfl⟩
    refine (copyVector_any (some ⟨b, 0, none⟩) (n + 1) c2 (V ++ [⟨77, 88⟩]) _ (R4.out.drewN m) (fun e => by cases e) (by have := HSM.out; omega)).mono ?_
    rintro e w5 ⟨A5, c5, rfl, hb5, ho5⟩
    have hl : (V ++ [(⟨77, 88⟩ : Dw)]).length = n + 1 := by simp [HL.out]
    rw [hl] at ho5
    have hb : Below w4.heap.size w4 w5 := (Below.drewN (Below.refl _ _) m).trans hb5
    have OG5 := OG4.out.below hb
    exact ⟨A5, c5, by rw [hl], OG5.cell 3 rfl, OG5.lt (by simp), hb, rdDw ho5 hl, fun ad e => by subst e; exact (ho5.lt ad.block rfl).1⟩
  have HG4 : Hid (g < w4.heap.size) := OG4.out.lt (by simp)
  have q3 := OG4.out.cell 3 rfl
  have hba : Hid (∀ (w5 : World) o, w4.heap.size ≤ w5.heap.size → w4.heap.size ≤ (w5.alloc o).heap.size) := fun w5 o h => by simp; omega
  go_region_law (first | (refine step_app rfl (.tmp 25) (.tmp 28) rfl eltVecs w4.heap.size (.slice none 0 0) 0 [] rfl (World.ownsRow_nil _ _ _ _) (some _) 1 1 [.slice A5 (n + 1) c5] rfl rfl (fun h => by cases h) (fresh_news _ #[.slice A5 (n + 1) c5] 63) (by intro u hu; simp at hu; subst hu; rfl) (by simp only [maxLen]; omega) (by omega) (hba.out _ _ S5.out.1.size) ?_; intro A6 c6 w6 ho6 hg6 _; have HO6 := Lib.hid ho6; have B6 : Hid (Below w4.heap.size w4 w6) := (S5.out.1.alloc S5.out.1.size _).trans ⟨hg6.os, hg6.tape, hg6.output, hg6.size, fun z hz => hg6.block z (Nat.lt_of_lt_of_le hz (hba.out _ _ S5.out.1.size)) (fun e => by cases e)⟩; have R6 : Hid (RdC 2 Dw.cells w6 A5 (n + 1) (V ++ [⟨77, 88⟩])) := (S5.out.2.1.grown ((World.grownBy_alloc _ _ _).trans hg6) (fun ad e => by intro h; cases h)); have OG6 := Lib.hid (OG4.out.below B6.out); have HA5 := Lib.hid S5.out.2.2; have q1 := OG6.out.cell 3 rfl; have q2 := OG6.out.fr 3 (by simp); have q4 := OG6.out.lt (by simp); clear ho6 hg6) | (go_simp; go_at_call 96; go_must (refine (FC.out _ ?_).mono ?_); go_must (focus (first | exact ⟨0, rfl⟩ | exact ⟨1, rfl⟩)); go_must (rintro e w5 ⟨A5, c5, rfl, hc5, hp5, S5⟩)))
  all_goals
    clear q1 q2 q4 hc5 hp5
    obtain ⟨d2, cap2, hv2, hd2, _⟩ := HO6.out.form (by decide)
    cases hv2
    have T6 : Hid (w6.cell? ⟨d2, 0, none⟩ = some (.slice A5 (n + 1) c5)) := HO6.out.cells (g := d2) rfl 0 _ rfl
    have HD2 := Lib.hid hd2
    clear hd2
    go_wp2_with fail
    go_ret
    refine ⟨⟨b, 0, none⟩, c2, ⟨d1, 0, none⟩, ⟨d2, 0, none⟩, c3, c6, A5, c5, rfl, (C4.out.grown (grown_of_below B6.out none) (fun j e => by cases e)).grown (grown_setCell _ _ _) (fun j e => by cases e; exact .inl rfl), HGB.out, ?_⟩
    refine ⟨OG6.out.set 3 (by simp) _, ?_, ?_, ?_, ?_⟩
    · exact (grown_setCell w6 ⟨g, 3, none⟩ _).cell ((B6.out.cell (World.block_lt_of_cell? w4 _ T4.out)).trans T4.out) (by have h1 := HG2.out; have h2 := HD1.out; intro e; simp at e; omega)
    · exact (grown_setCell w6 ⟨g, 3, none⟩ _).cell T6.out (by have h1 := HG4.out; have h2 := HD2.out; intro e; simp at e; omega)
    · exact (R4.out.below B6.out).grown (grown_setCell w6 ⟨g, 3, none⟩ _) (fun ad e => by cases e; have h1 := HZG.out; have h2 := HGB.out; intro e; simp at e; omega)
    · exact R6.out.grown (grown_setCell w6 ⟨g, 3, none⟩ _) (fun ad e => by have h1 := HA5.out ad e; have h2 := HG4.out; intro e; simp at e; omega)
end Go.Proofs.Ytjjobgolpedgeaa
