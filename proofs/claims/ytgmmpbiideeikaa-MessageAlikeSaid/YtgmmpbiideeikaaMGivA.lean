/-
  Given's state, apart from some blocks; Given.Entries and Given.Vector keep it.
-/
import Derived.Test.YtgmmpbiideeikaaMGivB
set_option linter.unusedVariables false
set_option linter.unusedSimpArgs false
namespace Go.Proofs.Ytgmmpbiideeikaa
open Go.RowKit

/-- no block of X is one of Given's -/
structure AptX (X : Nat → Prop) (p : Nat) (a0 a1 b0 b1 : Option Nat) (us vs : List GD) (xs ys : List GE) : Prop where
  p : ∀ j, X j → p ≠ j
  a0 : ∀ j, X j → a0 ≠ some j
  a1 : ∀ j, X j → a1 ≠ some j
  b0 : ∀ j, X j → b0 ≠ some j
  b1 : ∀ j, X j → b1 ≠ some j
  u : ∀ j, X j → ∀ z ∈ us, ∀ ad, GD.A z = some ad → ad.block ≠ j
  v : ∀ j, X j → ∀ z ∈ vs, ∀ ad, GD.A z = some ad → ad.block ≠ j
  x : ∀ j, X j → ∀ z ∈ xs, ∀ ad, GE.A z = some ad → ad.block ≠ j
  y : ∀ j, X j → ∀ z ∈ ys, ∀ ad, GE.A z = some ad → ad.block ≠ j
def GvA (X : Nat → Prop) (w : World) (p : Nat) (us vs : List GD) (xs ys : List GE) : Prop :=
  ∃ (G : Option Addr) (c : Nat) (G' : Option Addr) (c' : Nat) (K : Option Addr) (d : Nat) (K' : Option Addr) (d' : Nat),
    GvD w p (.slice K xs.length d) (.slice K' ys.length d') G c G' c' us vs ∧ GvE w p (.slice G us.length c) (.slice G' vs.length c') K d K' d' xs ys ∧
    Apt (Value.slice G us.length c).ownBlock (Value.slice G' vs.length c').ownBlock (Value.slice K xs.length d).ownBlock (Value.slice K' ys.length d').ownBlock us vs xs ys ∧
    AptX X p (Value.slice G us.length c).ownBlock (Value.slice G' vs.length c').ownBlock (Value.slice K xs.length d).ownBlock (Value.slice K' ys.length d').ownBlock us vs xs ys
theorem GvA.toB {X : Nat → Prop} {w : World} {p : Nat} {us vs : List GD} {xs ys : List GE} (h : GvA X w p us vs xs ys) : GvB w p us vs xs ys := by
  obtain ⟨G, c, G', c', K, d, K', d', h1, h2, h3, _⟩ := h
  exact ⟨G, c, G', c', K, d, K', d', h1, h2, h3⟩
theorem GvB.toA {X : Nat → Prop} {w : World} {p : Nat} {us vs : List GD} {xs ys : List GE} (h : GvB w p us vs xs ys) (hX : ∀ j, X j → w.heap.size ≤ j) : GvA X w p us vs xs ys := by
  obtain ⟨G, c, G', c', K, d, K', d', h1, h2, h3⟩ := h
  refine ⟨G, c, G', c', K, d, K', d', h1, h2, h3, ⟨fun j hj e => ?_, fun j hj e => ?_, fun j hj e => ?_, fun j hj e => ?_, fun j hj e => ?_, fun j hj z hz ad e => ?_, fun j hj z hz ad e => ?_, fun j hj z hz ad e => ?_, fun j hj z hz ad e => ?_⟩⟩
  · have := hX j hj; have := h1.lt; omega
  · have := hX j hj; have := (h1.o0.lt _ e).2; omega
  · have := hX j hj; have := (h1.o1.lt _ e).2; omega
  · have := hX j hj; have := (h2.o0.lt _ e).2; omega
  · have := hX j hj; have := (h2.o1.lt _ e).2; omega
  · have := hX j hj; have := ((h1.e0 z hz).2.2.2 ad e).2.1; omega
  · have := hX j hj; have := ((h1.e1 z hz).2.2.2 ad e).2.1; omega
  · have := hX j hj; have := ((h2.e0 z hz).2.2.2 ad e).2.1; omega
  · have := hX j hj; have := ((h2.e1 z hz).2.2.2 ad e).2.1; omega
theorem GvA.lt {X : Nat → Prop} {w : World} {p : Nat} {us vs : List GD} {xs ys : List GE} (h : GvA X w p us vs xs ys) : p < w.heap.size := h.toB.lt
theorem GvA.below {X : Nat → Prop} {w w1 : World} {p : Nat} {us vs : List GD} {xs ys : List GE} (h : GvA X w p us vs xs ys) (hb : Below w.heap.size w w1) : GvA X w1 p us vs xs ys := by
  obtain ⟨G, c, G', c', K, d, K', d', h1, h2, h3, h4⟩ := h
  exact ⟨G, c, G', c', K, d, K', d', h1.below hb, h2.below hb, h3, h4⟩
/-- a store into a block of X -/
theorem GvA.store {X : Nat → Prop} {w : World} {p : Nat} {us vs : List GD} {xs ys : List GE} (h : GvA X w p us vs xs ys) {r : Nat} (hr : X r) (i : Nat) (v : Value) : GvA X (w.setCell ⟨r, i, none⟩ v) p us vs xs ys := by
  obtain ⟨G, c, G', c', K, d, K', d', h1, h2, h3, h4⟩ := h
  have hg := grown_setCell w ⟨r, i, none⟩ v
  exact ⟨G, c, G', c', K, d, K', d',
    h1.grown hg (fun e => h4.p r hr (by injection e)) (fun j e h9 => h4.a0 r hr (by rw [e]; exact h9)) (fun j e h9 => h4.a1 r hr (by rw [e]; exact h9)) (fun z hz ad e h9 => h4.u r hr z hz ad e (by injection h9)) (fun z hz ad e h9 => h4.v r hr z hz ad e (by injection h9)),
    h2.grown hg (fun e => h4.p r hr (by injection e)) (fun j e h9 => h4.b0 r hr (by rw [e]; exact h9)) (fun j e h9 => h4.b1 r hr (by rw [e]; exact h9)) (fun z hz ad e h9 => h4.x r hr z hz ad e (by injection h9)) (fun z hz ad e h9 => h4.y r hr z hz ad e (by injection h9)), h3, h4⟩
theorem mem_snoc {α : Type} {l : List α} {a z : α} (h : z ∈ l ++ [a]) : z ∈ l ∨ z = a := by
  rcases List.mem_append.1 h with h | h
  · exact .inl h
  · exact .inr (List.mem_singleton.1 h)
/-- Given.Entries -/
theorem gentries_A {X : Nat → Prop} {p : Nat} {us vs : List GD} {xs ys : List GE} {w : World} (h : GvA X w p us vs xs ys) (hX : ∀ j, X j → j < w.heap.size) (hk : (xs.length + 2) * 24 ≤ 140737488355328) (hk' : (ys.length + 2) * 24 ≤ 140737488355328)
    (A : Option Addr) (n d : Nat) (L : List Et) (hr : RdC 5 Et.cells w A n L) (hA : A = none → n = 0 ∧ d = 0) (hn : (n + 2) * 48 ≤ 140737488355328) :
    Calls Try.prog 9 #[.pointer (some ⟨p, 0, none⟩), .slice A n d] w fun e w' => ∃ x y : GE, e = .returned (.slice x.A n x.c) ∧ GvA X w' p us vs (xs ++ [x]) (ys ++ [y]) ∧ x.bs = L ++ [markE] ∧ y.bs = L ++ [markE] ∧ x.n = n + 1 ∧ y.n = n + 1 ∧ Below p w w' ∧ ∀ j, X j → w'.heap[j]? = w.heap[j]? := by
  obtain ⟨G, c, G', c', K, q, K', q', h1, h2, h3, h4⟩ := h
  refine (gentries_any p _ _ K q K' q' xs ys w h2 hk hk' A n d L hr hA hn).mono ?_
  rintro e w' ⟨G1, q1, G1', q1', x, y, rfl, he, hx, hy, hxn, hyn, hc, k0, k1, fx, fy⟩
  have hp := h1.lt
  have nS : ∀ j, p < j → some j ≠ (Value.slice K xs.length q).ownBlock → some j ≠ (Value.slice K' ys.length q').ownBlock → ¬ (j = p ∨ some j = (Value.slice K xs.length q).ownBlock ∨ some j = (Value.slice K' ys.length q').ownBlock) := fun j a b b' e => by
    rcases e with e | e | e
    · omega
    · exact b e
    · exact b' e
  refine ⟨x, y, rfl, ⟨G, c, G', c', G1, q1, G1', q1', ?_, he, ?_, ?_⟩, hx, hy, hxn, hyn, ?_, ?_⟩
  · exact h1.chg hc (fun j e => nS j (by have := (h1.o0.lt _ e).1; omega) (h3.r0 j e).1 (h3.r0 j e).2) (fun j e => nS j (by have := (h1.o1.lt _ e).1; omega) (h3.r1 j e).1 (h3.r1 j e).2)
      (fun z hz ad e => nS _ ((h1.e0 z hz).2.2.2 ad e).1 (h3.u z hz ad e).1 (h3.u z hz ad e).2) (fun z hz ad e => nS _ ((h1.e1 z hz).2.2.2 ad e).1 (h3.v z hz ad e).1 (h3.v z hz ad e).2) he.ob
  · have new0 : ∀ j, j < w.heap.size → some j ≠ (Value.slice K xs.length q).ownBlock → some j ≠ (Value.slice G1 (xs ++ [x]).length q1).ownBlock := fun j hj ne e => by
      rcases k0 j e.symm with e2 | e2
      · exact ne e2.symm
      · omega
    have new1 : ∀ j, j < w.heap.size → some j ≠ (Value.slice K' ys.length q').ownBlock → some j ≠ (Value.slice G1' (ys ++ [y]).length q1').ownBlock := fun j hj ne e => by
      rcases k1 j e.symm with e2 | e2
      · exact ne e2.symm
      · omega
    refine ⟨fun j e => ⟨new0 j (h1.o0.lt _ e).2 (h3.r0 j e).1, new1 j (h1.o0.lt _ e).2 (h3.r0 j e).2⟩, fun j e => ⟨new0 j (h1.o1.lt _ e).2 (h3.r1 j e).1, new1 j (h1.o1.lt _ e).2 (h3.r1 j e).2⟩,
      fun z hz ad e => ⟨new0 _ ((h1.e0 z hz).2.2.2 ad e).2.1 (h3.u z hz ad e).1, new1 _ ((h1.e0 z hz).2.2.2 ad e).2.1 (h3.u z hz ad e).2⟩, fun z hz ad e => ⟨new0 _ ((h1.e1 z hz).2.2.2 ad e).2.1 (h3.v z hz ad e).1, new1 _ ((h1.e1 z hz).2.2.2 ad e).2.1 (h3.v z hz ad e).2⟩, ?_, ?_⟩
    · intro z hz ad e
      rcases mem_snoc hz with hz | rfl
      · exact h3.x z hz ad e
      · have := fx ad e
        exact ⟨fun e2 => by have := (h1.o0.lt _ e2.symm).2; omega, fun e2 => by have := (h1.o1.lt _ e2.symm).2; omega⟩
    · intro z hz ad e
      rcases mem_snoc hz with hz | rfl
      · exact h3.y z hz ad e
      · have := fy ad e
        exact ⟨fun e2 => by have := (h1.o0.lt _ e2.symm).2; omega, fun e2 => by have := (h1.o1.lt _ e2.symm).2; omega⟩
  · refine ⟨h4.p, h4.a0, h4.a1, fun j hj e => ?_, fun j hj e => ?_, h4.u, h4.v, ?_, ?_⟩
    · rcases k0 j e with e2 | e2
      · exact h4.b0 j hj e2
      · have := hX j hj; omega
    · rcases k1 j e with e2 | e2
      · exact h4.b1 j hj e2
      · have := hX j hj; omega
    · intro j hj z hz ad e
      rcases mem_snoc hz with hz | rfl
      · exact h4.x j hj z hz ad e
      · have := fx ad e; have := hX j hj; omega
    · intro j hj z hz ad e
      rcases mem_snoc hz with hz | rfl
      · exact h4.y j hj z hz ad e
      · have := fy ad e; have := hX j hj; omega
  · refine below_chg hc (fun j e => ?_) (by omega)
    rcases e with e | e | e
    · omega
    · have := (h2.o0.lt _ e.symm).1; omega
    · have := (h2.o1.lt _ e.symm).1; omega
  · intro j hj
    refine hc.block j (hX j hj) fun e => ?_
    rcases e with e | e | e
    · exact h4.p j hj e.symm
    · exact h4.b0 j hj e.symm
    · exact h4.b1 j hj e.symm
/-- Given.Vector -/
theorem gvector_A {X : Nat → Prop} {p : Nat} {us vs : List GD} {xs ys : List GE} {w : World} (h : GvA X w p us vs xs ys) (hX : ∀ j, X j → j < w.heap.size) (hk : (us.length + 2) * 24 ≤ 140737488355328) (hk' : (vs.length + 2) * 24 ≤ 140737488355328)
    (A : Option Addr) (n d : Nat) (L : List Dw) (hr : RdC 2 Dw.cells w A n L) (hA : A = none → n = 0 ∧ d = 0) (hn : (n + 2) * 16 ≤ 140737488355328) :
    Calls Try.prog 10 #[.pointer (some ⟨p, 0, none⟩), .slice A n d] w fun e w' => ∃ x y : GD, e = .returned (.slice x.A n x.c) ∧ GvA X w' p (us ++ [x]) (vs ++ [y]) xs ys ∧ x.bs = L ++ [markD] ∧ y.bs = L ++ [markD] ∧ x.n = n + 1 ∧ y.n = n + 1 ∧ Below p w w' ∧ ∀ j, X j → w'.heap[j]? = w.heap[j]? := by
  obtain ⟨G, c, G', c', K, q, K', q', h1, h2, h3, h4⟩ := h
  refine (gvector_any p _ _ G c G' c' us vs w h1 hk hk' A n d L hr hA hn).mono ?_
  rintro e w' ⟨G1, q1, G1', q1', x, y, rfl, he, hx, hy, hxn, hyn, hc, k0, k1, fx, fy⟩
  have hp := h1.lt
  have nS : ∀ j, p < j → some j ≠ (Value.slice G us.length c).ownBlock → some j ≠ (Value.slice G' vs.length c').ownBlock → ¬ (j = p ∨ some j = (Value.slice G us.length c).ownBlock ∨ some j = (Value.slice G' vs.length c').ownBlock) := fun j a b b' e => by
    rcases e with e | e | e
    · omega
    · exact b e
    · exact b' e
  have F : ∀ {a b : Option Nat} {j : Nat}, a = some j → b = some j → a = b := fun h h' => h.trans h'.symm
  refine ⟨x, y, rfl, ⟨G1, q1, G1', q1', K, q, K', q', he, ?_, ?_, ?_⟩, hx, hy, hxn, hyn, ?_, ?_⟩
  · exact h2.chg hc (fun j e => nS j (by have := (h2.o0.lt _ e).1; omega) (fun e2 => (h3.r0 j e2.symm).1 e.symm) (fun e2 => (h3.r1 j e2.symm).1 e.symm)) (fun j e => nS j (by have := (h2.o1.lt _ e).1; omega) (fun e2 => (h3.r0 j e2.symm).2 e.symm) (fun e2 => (h3.r1 j e2.symm).2 e.symm))
      (fun z hz ad e => nS _ ((h2.e0 z hz).2.2.2 ad e).1 (h3.x z hz ad e).1 (h3.x z hz ad e).2) (fun z hz ad e => nS _ ((h2.e1 z hz).2.2.2 ad e).1 (h3.y z hz ad e).1 (h3.y z hz ad e).2) he.ob
  · have new0 : ∀ j, j < w.heap.size → some j ≠ (Value.slice G us.length c).ownBlock → some j ≠ (Value.slice G1 (us ++ [x]).length q1).ownBlock := fun j hj ne e => by
      rcases k0 j e.symm with e2 | e2
      · exact ne e2.symm
      · omega
    have new1 : ∀ j, j < w.heap.size → some j ≠ (Value.slice G' vs.length c').ownBlock → some j ≠ (Value.slice G1' (vs ++ [y]).length q1').ownBlock := fun j hj ne e => by
      rcases k1 j e.symm with e2 | e2
      · exact ne e2.symm
      · omega
    refine ⟨fun j e => ?_, fun j e => ?_, ?_, ?_, fun z hz ad e => ⟨new0 _ ((h2.e0 z hz).2.2.2 ad e).2.1 (h3.x z hz ad e).1, new1 _ ((h2.e0 z hz).2.2.2 ad e).2.1 (h3.x z hz ad e).2⟩, fun z hz ad e => ⟨new0 _ ((h2.e1 z hz).2.2.2 ad e).2.1 (h3.y z hz ad e).1, new1 _ ((h2.e1 z hz).2.2.2 ad e).2.1 (h3.y z hz ad e).2⟩⟩
    · rcases k0 j e with e2 | e2
      · exact h3.r0 j e2
      · exact ⟨fun e3 => by have := (h2.o0.lt _ e3.symm).2; omega, fun e3 => by have := (h2.o1.lt _ e3.symm).2; omega⟩
    · rcases k1 j e with e2 | e2
      · exact h3.r1 j e2
      · exact ⟨fun e3 => by have := (h2.o0.lt _ e3.symm).2; omega, fun e3 => by have := (h2.o1.lt _ e3.symm).2; omega⟩
    · intro z hz ad e
      rcases mem_snoc hz with hz | rfl
      · exact h3.u z hz ad e
      · have := fx ad e
        exact ⟨fun e2 => by have := (h2.o0.lt _ e2.symm).2; omega, fun e2 => by have := (h2.o1.lt _ e2.symm).2; omega⟩
    · intro z hz ad e
      rcases mem_snoc hz with hz | rfl
      · exact h3.v z hz ad e
      · have := fy ad e
        exact ⟨fun e2 => by have := (h2.o0.lt _ e2.symm).2; omega, fun e2 => by have := (h2.o1.lt _ e2.symm).2; omega⟩
  · refine ⟨h4.p, fun j hj e => ?_, fun j hj e => ?_, h4.b0, h4.b1, ?_, ?_, h4.x, h4.y⟩
    · rcases k0 j e with e2 | e2
      · exact h4.a0 j hj e2
      · have := hX j hj; omega
    · rcases k1 j e with e2 | e2
      · exact h4.a1 j hj e2
      · have := hX j hj; omega
    · intro j hj z hz ad e
      rcases mem_snoc hz with hz | rfl
      · exact h4.u j hj z hz ad e
      · have := fx ad e; have := hX j hj; omega
    · intro j hj z hz ad e
      rcases mem_snoc hz with hz | rfl
      · exact h4.v j hj z hz ad e
      · have := fy ad e; have := hX j hj; omega
  · refine below_chg hc (fun j e => ?_) (by omega)
    rcases e with e | e | e
    · omega
    · have := (h1.o0.lt _ e.symm).1; omega
    · have := (h1.o1.lt _ e.symm).1; omega
  · intro j hj
    refine hc.block j (hX j hj) fun e => ?_
    rcases e with e | e | e
    · exact h4.p j hj e.symm
    · exact h4.a0 j hj e.symm
    · exact h4.a1 j hj e.symm
theorem Ob.heap {w w' : World} {b : Nat} {cs : List Value} (h : Ob w b cs) (hb : w'.heap[b]? = w.heap[b]?) : Ob w' b cs := fun j v hv => by
  have h1 := h j v hv
  exact ⟨(World.cell?_of_block (a := ⟨b, j, none⟩) hb).trans h1.1, (World.frozen?_of_block (a := ⟨b, j, none⟩) hb).trans h1.2⟩
end Go.Proofs.Ytgmmpbiideeikaa
