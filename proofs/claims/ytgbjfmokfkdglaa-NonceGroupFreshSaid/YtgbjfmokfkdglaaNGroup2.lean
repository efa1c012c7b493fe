/-
  The walks of NewGroup (one replica, over a clock) and Drawn.
-/
import Derived.Test.YtgbjfmokfkdglaaNGroup
set_option linter.unusedVariables false
set_option linter.unusedSimpArgs false
namespace Go.Proofs.Ytgbjfmokfkdglaa
open Go.RowKit

set_option maxHeartbeats 400000 in
theorem groupDrawn1 (W : World) (b sb : Nat) (P : Option Addr) (cp cs : Nat) (D : Option Addr) (cd k a m q : Nat) (w : World) (h : G1 W w b sb P cp cs D cd k a m q) (hk : k ≤ 65535) :
    Calls Try.prog 42 #[.pointer (some ⟨b, 0, none⟩)] w fun e w' => ∃ A c, e = .returned (.slice A k c) ∧ Below w.heap.size w w' ∧ w'.ownsRow w.heap.size 27 3 (.slice A k c) k (SVk a k) := by
  have H := Lib.hid h
  have HK := Lib.hid hk
  have c3 := h.og.cell 3 rfl
  have lb := h.og.lt (by simp)
  obtain ⟨D', cd', hv, _, hnone, hsome⟩ := own_shape h.od
  cases hv
  have HN := Lib.hid (And.intro hnone hsome)
  have hnews : Hid (∀ ad, D = some ad → ∀ (j : Nat) (u : Value), (SVk a k)[j]? = some u → w.cell? (ad.add j) = some u) := fun ad e j u hu => by
    subst e
    obtain ⟨h1, h2, _, _⟩ := hsome ad rfl
    obtain ⟨g, o, sp⟩ := ad
    simp only at h1 h2
    subst h1 h2
    exact h.od.cells (g := g) rfl j u hu
  clear h hk hnone hsome
  go_enter Try.func42, Try.ntmps42
  go_wp2_with (at_builtin; refine wpList_app rfl (.const (.slice none 0 0)) (.tmp 8) rfl eltStamp w.heap.size (.slice none 0 0) 0 [] rfl (World.ownsRow_nil _ _ _ _) D k cd (SVk a k) rfl (SVk_len a k) HN.out.1 hnews.out (SVk_one a k) ?d3 ?d4 ?d5 ?_)
  case d3 => have := HK.out; simp only [maxLen]; omega
  case d4 => have := HK.out; omega
  case d5 => omega
  intro A' c' w1 ho hg _
  have HO := Lib.hid ho
  have HG := Lib.hid hg
  clear ho hg
  go_wp2
  go_ret
  exact ⟨A', c', rfl, grown_below_drop HG.out (Nat.le_refl _), by simpa using HO.out⟩
theorem one_new (w : World) (x : Value) (t : TypeId) : ∀ ad, some (⟨w.heap.size, 0, none⟩ : Addr) = some ad → ∀ (j : Nat) (u : Value), [x][j]? = some u → (w.alloc (.cells #[x] t)).cell? (ad.add j) = some u := by
  intro ad e
  cases e
  exact World.news_of_block (cs := #[x]) (t := t) (fr := (0, 0)) (heap_alloc_new w _)
set_option maxRecDepth 100000 in
set_option maxHeartbeats 1600000 in
theorem newGroup1 (a b : Nat) (w : World) (hb : w.heap.size = b) :
    Calls Try.prog 38 #[.int .i64 1, .int .i64 1, .int .u64 (a : Nat)] w fun e w' => e = .returned (.tuple #[.pointer (some ⟨b, 0, none⟩), .int .i64 0]) ∧ ∃ sb P cp cs, G1 w w' b sb P cp cs none 0 0 a 0 0 := by
  have HB := Lib.hid hb
  go_enter Try.func38, Try.ntmps38
  go_wp2_with fail
  have O0 := Lib.hid (Ob.fresh w #[.pointer none, .slice none 0 0, .slice none 0 0, .slice none 0 0] 119)
  refine (newClock_at (a : Nat) _ (b + 1) (by rw [World.size_alloc, hb])).mono ?_
  rintro e w1 ⟨rfl, g, z, o⟩
  have O1 : Hid (Ob w1 b [.pointer none, .slice none 0 0, .slice none 0 0, .slice none 0 0]) := by have := O0.out.kept g (by simp); rwa [hb] at this
  have C1 := Lib.hid o
  have Z1 := Lib.hid z
  have B1 : Hid (Below b w w1) := by rw [← hb]; exact ((Below.refl _ _).alloc (Nat.le_refl _) _).trans (grown_below_drop g (by simp))
  clear g z o O0
  have y0 := O1.out.cell 0 rfl
  have f0 := O1.out.fr 0 (by simp)
  clear hb
  go_wp2_with fail
  have O2 := Lib.hid (O1.out.set 0 (by simp) (.pointer (some ⟨b + 1, 0, none⟩)))
  have C2 : Hid (Ob (w1.setCell ⟨b, 0, none⟩ (.pointer (some ⟨b + 1, 0, none⟩))) (b + 1) [.int .u64 (a : Nat)]) := C1.out.setOther _ (by simp)
  have Z2 : Hid ((w1.setCell ⟨b, 0, none⟩ (.pointer (some ⟨b + 1, 0, none⟩))).heap.size = b + 2) := by rw [World.size_setCell]; exact Z1.out
  have B2 : Hid (Below b w (w1.setCell ⟨b, 0, none⟩ (.pointer (some ⟨b + 1, 0, none⟩)))) := B1.out.setCell (Nat.le_refl _) _
  generalize w1.setCell ⟨b, 0, none⟩ (.pointer (some ⟨b + 1, 0, none⟩)) = w2 at O2 C2 Z2 B2 ⊢
  clear O1 C1 Z1 B1 y0 f0
  refine wp_loop_rounds 2 ?_
  rw [rounds_succ]
  have y0 : w2.cell? ⟨b, 0, none⟩ = some (.pointer (some ⟨b + 1, 0, none⟩)) := O2.out.cell 0 rfl
  have y1 : w2.cell? ⟨b, 1, none⟩ = some (.slice none 0 0) := O2.out.cell 1 rfl
  have lb := O2.out.lt (by simp)
  have O3 := Lib.hid (O2.out.alloc (.cells #[.pointer (some ⟨b + 1, 0, none⟩), .int .u64 0, .int .u64 0] 55))
  have C3 := Lib.hid (C2.out.alloc (.cells #[.pointer (some ⟨b + 1, 0, none⟩), .int .u64 0, .int .u64 0] 55))
  have P3 : Hid (Ob (w2.alloc (.cells #[.pointer (some ⟨b + 1, 0, none⟩), .int .u64 0, .int .u64 0] 55)) (b + 2) [.pointer (some ⟨b + 1, 0, none⟩), .int .u64 (0 : Nat), .int .u64 (0 : Nat)]) := by
    have := Ob.fresh w2 #[.pointer (some ⟨b + 1, 0, none⟩), .int .u64 0, .int .u64 0] 55
    rw [Z2.out] at this
    exact this
  have Z3 : Hid ((w2.alloc (.cells #[.pointer (some ⟨b + 1, 0, none⟩), .int .u64 0, .int .u64 0] 55)).heap.size = b + 3) := by rw [World.size_alloc, Z2.out]; exact rfl
  have B3 : Hid (Below b w (w2.alloc (.cells #[.pointer (some ⟨b + 1, 0, none⟩), .int .u64 0, .int .u64 0] 55))) := B2.out.alloc (by have := Z2.out; omega) _
  have hz2 : w2.heap.size = b + 2 := Z2.out
  go_wp2_with (at_builtin; refine wpList_app rfl (.tmp 65) (.tmp 67) rfl eltPairs (b + 3) (.slice none 0 0) 0 [] rfl (World.ownsRow_nil _ _ _ _) (some ⟨b + 3, 0, none⟩) 1 1 [.pointer (some ⟨b + 2, 0, none⟩)] rfl rfl (fun h => by cases h) ?d2 (by intro u hu; simp at hu; subst hu; rfl) ?d3 ?d4 ?d5 ?_)
  case d2 =>
    have := one_new (w2.alloc (.cells #[.pointer (some ⟨b + 1, 0, none⟩), .int .u64 0, .int .u64 0] 55)) (.pointer (some ⟨b + 2, 0, none⟩)) 34
    rw [Z3.out] at this
    exact this
  case d3 => simp [maxLen]
  case d4 => omega
  case d5 => have := Z3.out; rw [World.size_alloc]; omega
  intro P4 cp4 w4 ho4 hg4 _
  have g4 : (w2.alloc (.cells #[.pointer (some ⟨b + 1, 0, none⟩), .int .u64 0, .int .u64 0] 55)).grownBy w4 none := (World.grownBy_alloc _ _ none).trans hg4
  have O4 := Lib.hid (O3.out.kept g4 (by simp))
  have C4 := Lib.hid (C3.out.kept g4 (by simp))
  have P4' := Lib.hid (P3.out.kept g4 (by simp))
  have Z4 : Hid (b + 3 ≤ w4.heap.size) := by have := g4.size; have := Z3.out; simp only [Hid]; omega
  have B4 : Hid (Below b w w4) := B3.out.trans (grown_below_drop g4 (by have := Z3.out; omega))
  clear ho4 hg4 g4 O3 C3 P3 Z3 B3 hz2 y0 y1 lb
  have y1 := O4.out.cell 1 rfl
  have f1 := O4.out.fr 1 (by simp)
  have y2 := O4.out.cell 2 rfl
  have f2 := O4.out.fr 2 (by simp)
  have lb := O4.out.lt (by simp)
  have O5 := Lib.hid (O4.out.set 1 (by simp) (.slice P4 1 cp4))
  have C5 : Hid (Ob (w4.setCell ⟨b, 1, none⟩ (.slice P4 1 cp4)) (b + 1) [.int .u64 (a : Nat)]) := C4.out.setOther _ (by simp)
  have P5 : Hid (Ob (w4.setCell ⟨b, 1, none⟩ (.slice P4 1 cp4)) (b + 2) [.pointer (some ⟨b + 1, 0, none⟩), .int .u64 (0 : Nat), .int .u64 (0 : Nat)]) := P4'.out.setOther _ (by simp)
  have Z5 : Hid (b + 3 ≤ (w4.setCell ⟨b, 1, none⟩ (.slice P4 1 cp4)).heap.size) := by rw [World.size_setCell]; exact Z4.out
  have B5 : Hid (Below b w (w4.setCell ⟨b, 1, none⟩ (.slice P4 1 cp4))) := B4.out.setCell (Nat.le_refl _) _
  go_wp2_with (at_builtin; refine wpList_app rfl (.tmp 75) (.tmp 78) rfl eltSource (b + 3) (.slice none 0 0) 0 [] rfl (World.ownsRow_nil _ _ _ _) (some ⟨w4.heap.size, 0, none⟩) 1 1 [.iface 34 (.pointer (some ⟨b + 2, 0, none⟩))] rfl rfl (fun h => by cases h) ?d2 (by intro u hu; simp at hu; subst hu; rfl) ?d3 ?d4 ?d5 ?_)
  case d2 =>
    have := one_new (w4.setCell ⟨b, 1, none⟩ (.slice P4 1 cp4)) (.iface 34 (.pointer (some ⟨b + 2, 0, none⟩))) 115
    rw [World.size_setCell] at this
    exact this
  case d3 => simp [maxLen]
  case d4 => omega
  case d5 => have := Z5.out; rw [World.size_alloc]; omega
  intro S6 cs6 w6 ho6 hg6 _
  have g6 : (w4.setCell ⟨b, 1, none⟩ (.slice P4 1 cp4)).grownBy w6 none := (World.grownBy_alloc _ _ none).trans hg6
  have O6 := Lib.hid (O5.out.kept g6 (by simp))
  have C6 := Lib.hid (C5.out.kept g6 (by simp))
  have P6 := Lib.hid (P5.out.kept g6 (by simp))
  have B6 : Hid (Below b w w6) := B5.out.trans (grown_below_drop g6 (by have := Z5.out; omega))
  obtain ⟨sb, cap, hv, hsb1, hsb2⟩ := ho6.form (by omega)
  cases hv
  have hs0 : w6.cell? ⟨sb, 0, none⟩ = some (.iface 34 (.pointer (some ⟨b + 2, 0, none⟩))) := by
    have := ho6.cells (g := sb) rfl 0 _ rfl
    exact this
  have HS6 := Lib.hid (And.intro hs0 hsb1)
  clear ho6 hg6 g6 O4 C4 P4' Z4 B4 O5 C5 P5 Z5 B5 y1 f1 y2 f2 lb hs0 hsb1
  have y2 := O6.out.cell 2 rfl
  have f2 := O6.out.fr 2 (by simp)
  have lb := O6.out.lt (by simp)
  have HS2 := Lib.hid hsb2
  clear hsb2
  go_wp2_with fail
  rw [rounds_succ]
  go_wp2
  go_ret2
  refine ⟨rfl, sb, P4, cp4, cs6, ?_⟩
  have hg := grown_setCell w6 ⟨b, 2, none⟩ (.slice (some ⟨sb, 0, none⟩) 1 cs6)
  have h3 := HS6.out.2
  refine ⟨O6.out.set 2 (by simp) _, C6.out.kept hg (by simp), P6.out.kept hg (by simp), hg.cell HS6.out.1 (by simp; omega), h3, World.ownsRow_nil _ _ _ _, (fun e => nomatch e), B6.out.setCell (Nat.le_refl _) _, HB.out⟩
end Go.Proofs.Ytgbjfmokfkdglaa
