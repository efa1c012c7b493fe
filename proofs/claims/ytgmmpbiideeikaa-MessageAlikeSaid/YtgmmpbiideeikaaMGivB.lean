/-
  Given with any number of vectors and of lists of entries, beside each other.
-/
import Derived.Test.YtgmmpbiideeikaaMGivD
set_option linter.unusedVariables false
set_option linter.unusedSimpArgs false
namespace Go.Proofs.Ytgmmpbiideeikaa
open Go.RowKit

theorem GD.Ok.chg {S : Nat → Prop} {w w1 : World} {p : Nat} {b0 b1 : Option Nat} {x : GD} (h : x.Ok w p b0 b1) (hc : Chg S w w1) (hr : ∀ ad, x.A = some ad → ¬ S ad.block) : x.Ok w1 p b0 b1 :=
  ⟨h.1.chg hc hr, h.2.1, h.2.2.1, fun ad e => by have h4 := h.2.2.2 ad e; have := hc.size; exact ⟨by omega, by omega, h4.2.2⟩⟩
theorem GE.Ok.chg {S : Nat → Prop} {w w1 : World} {p : Nat} {b0 b1 : Option Nat} {x : GE} (h : x.Ok w p b0 b1) (hc : Chg S w w1) (hr : ∀ ad, x.A = some ad → ¬ S ad.block) : x.Ok w1 p b0 b1 :=
  ⟨h.1.chg hc hr, h.2.1, h.2.2.1, fun ad e => by have h4 := h.2.2.2 ad e; have := hc.size; exact ⟨by omega, by omega, h4.2.2⟩⟩
theorem GvD.chg {S : Nat → Prop} {w w1 : World} {p : Nat} {d0 d1 e0 e1 : Value} {G : Option Addr} {c : Nat} {G' : Option Addr} {c' : Nat} {us vs : List GD} (h : GvD w p d0 d1 G c G' c' us vs) (hc : Chg S w w1)
    (h0 : ∀ j, (Value.slice G us.length c).ownBlock = some j → ¬ S j) (h1 : ∀ j, (Value.slice G' vs.length c').ownBlock = some j → ¬ S j) (hu : ∀ z ∈ us, ∀ ad, z.A = some ad → ¬ S ad.block) (hv : ∀ z ∈ vs, ∀ ad, z.A = some ad → ¬ S ad.block)
    (ob : Ob w1 p (g10 (.slice G us.length c) (.slice G' vs.length c') e0 e1)) : GvD w1 p e0 e1 G c G' c' us vs :=
  ⟨ob, own_chg h.o0 hc h0, own_chg h.o1 hc h1, h.ne, fun z hz => (h.e0 z hz).chg hc (hu z hz), fun z hz => (h.e1 z hz).chg hc (hv z hz)⟩
theorem GvE.chg {S : Nat → Prop} {w w1 : World} {p : Nat} {d0 d1 e0 e1 : Value} {G : Option Addr} {c : Nat} {G' : Option Addr} {c' : Nat} {us vs : List GE} (h : GvE w p d0 d1 G c G' c' us vs) (hc : Chg S w w1)
    (h0 : ∀ j, (Value.slice G us.length c).ownBlock = some j → ¬ S j) (h1 : ∀ j, (Value.slice G' vs.length c').ownBlock = some j → ¬ S j) (hu : ∀ z ∈ us, ∀ ad, z.A = some ad → ¬ S ad.block) (hv : ∀ z ∈ vs, ∀ ad, z.A = some ad → ¬ S ad.block)
    (ob : Ob w1 p (g10 e0 e1 (.slice G us.length c) (.slice G' vs.length c'))) : GvE w1 p e0 e1 G c G' c' us vs :=
  ⟨ob, own_chg h.o0 hc h0, own_chg h.o1 hc h1, h.ne, fun z hz => (h.e0 z hz).chg hc (hu z hz), fun z hz => (h.e1 z hz).chg hc (hv z hz)⟩
/-- the vectors' memory and the entries' memory are apart -/
structure Apt (a0 a1 b0 b1 : Option Nat) (us vs : List GD) (xs ys : List GE) : Prop where
  r0 : ∀ j, a0 = some j → some j ≠ b0 ∧ some j ≠ b1
  r1 : ∀ j, a1 = some j → some j ≠ b0 ∧ some j ≠ b1
  u : ∀ z ∈ us, ∀ ad, z.A = some ad → some ad.block ≠ b0 ∧ some ad.block ≠ b1
  v : ∀ z ∈ vs, ∀ ad, z.A = some ad → some ad.block ≠ b0 ∧ some ad.block ≠ b1
  x : ∀ z ∈ xs, ∀ ad, z.A = some ad → some ad.block ≠ a0 ∧ some ad.block ≠ a1
  y : ∀ z ∈ ys, ∀ ad, z.A = some ad → some ad.block ≠ a0 ∧ some ad.block ≠ a1
/-- Given's state -/
def GvB (w : World) (p : Nat) (us vs : List GD) (xs ys : List GE) : Prop :=
  ∃ (G : Option Addr) (c : Nat) (G' : Option Addr) (c' : Nat) (K : Option Addr) (d : Nat) (K' : Option Addr) (d' : Nat),
    GvD w p (.slice K xs.length d) (.slice K' ys.length d') G c G' c' us vs ∧ GvE w p (.slice G us.length c) (.slice G' vs.length c') K d K' d' xs ys ∧
    Apt (Value.slice G us.length c).ownBlock (Value.slice G' vs.length c').ownBlock (Value.slice K xs.length d).ownBlock (Value.slice K' ys.length d').ownBlock us vs xs ys
theorem GvB.start {w : World} {p : Nat} (h : Ob w p nil10) : GvB w p [] [] [] [] :=
  ⟨none, 0, none, 0, none, 0, none, 0, ⟨h, World.ownsRow_nil _ _ _ _, World.ownsRow_nil _ _ _ _, fun b e _ => (by cases e), fun x hx => by simp at hx, fun x hx => by simp at hx⟩,
    ⟨h, World.ownsRow_nil _ _ _ _, World.ownsRow_nil _ _ _ _, fun b e _ => (by cases e), fun x hx => by simp at hx, fun x hx => by simp at hx⟩,
    ⟨fun j e => (by cases e), fun j e => (by cases e), fun z hz => by simp at hz, fun z hz => by simp at hz, fun z hz => by simp at hz, fun z hz => by simp at hz⟩⟩
theorem GvB.lt {w : World} {p : Nat} {us vs : List GD} {xs ys : List GE} (h : GvB w p us vs xs ys) : p < w.heap.size := by
  obtain ⟨G, c, G', c', K, d, K', d', h1, _⟩ := h
  exact h1.lt
theorem GvB.below {w w1 : World} {p : Nat} {us vs : List GD} {xs ys : List GE} (h : GvB w p us vs xs ys) (hb : Below w.heap.size w w1) : GvB w1 p us vs xs ys := by
  obtain ⟨G, c, G', c', K, d, K', d', h1, h2, h3⟩ := h
  exact ⟨G, c, G', c', K, d, K', d', h1.below hb, h2.below hb, h3⟩
theorem GvB.drewN {w : World} {p : Nat} {us vs : List GD} {xs ys : List GE} (h : GvB w p us vs xs ys) (m : Nat) : GvB (w.drewN m) p us vs xs ys := h.below (Below.drewN (Below.refl _ _) m)
/-- a store elsewhere -/
theorem GvB.store {w : World} {p : Nat} {us vs : List GD} {xs ys : List GE} (h : GvB w p us vs xs ys) {r i : Nat} (v : Value) (hr : p ≠ r) (hn : ∀ j, (∃ o, w.heap[j]? = some o) → j ≠ r → True)
    (hx : ∀ (G : Option Addr) (n c : Nat) (e : TypeId) (size m : Nat) (l : List Value), w.ownsRow (p + 1) e size (.slice G n c) m l → (Value.slice G n c).ownBlock ≠ some r) (hl : ∀ z ∈ xs ++ ys, ∀ ad, GE.A z = some ad → ad.block ≠ r) (hd : ∀ z ∈ us ++ vs, ∀ ad, GD.A z = some ad → ad.block ≠ r) : GvB (w.setCell ⟨r, i, none⟩ v) p us vs xs ys := by
  obtain ⟨G, c, G', c', K, d, K', d', h1, h2, h3⟩ := h
  have hg := grown_setCell w ⟨r, i, none⟩ v
  refine ⟨G, c, G', c', K, d, K', d', h1.grown hg (fun e => hr (by injection e)) (fun j e h9 => hx _ _ _ _ _ _ _ h1.o0 (by rw [e]; exact h9)) (fun j e h9 => hx _ _ _ _ _ _ _ h1.o1 (by rw [e]; exact h9)) (fun z hz ad e h9 => hd z (List.mem_append.2 (.inl hz)) ad e (by injection h9)) (fun z hz ad e h9 => hd z (List.mem_append.2 (.inr hz)) ad e (by injection h9)),
    h2.grown hg (fun e => hr (by injection e)) (fun j e h9 => hx _ _ _ _ _ _ _ h2.o0 (by rw [e]; exact h9)) (fun j e h9 => hx _ _ _ _ _ _ _ h2.o1 (by rw [e]; exact h9)) (fun z hz ad e h9 => hl z (List.mem_append.2 (.inl hz)) ad e (by injection h9)) (fun z hz ad e h9 => hl z (List.mem_append.2 (.inr hz)) ad e (by injection h9)), h3⟩
end Go.Proofs.Ytgmmpbiideeikaa
