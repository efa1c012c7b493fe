/-
  Ballots and answers whose logs are copies of their own.
-/
import Derived.Test.YtjjobgolpedgeaaTMeth
set_option linter.unusedVariables false
set_option linter.unusedSimpArgs false
namespace Go.Proofs.Ytjjobgolpedgeaa
open Go.RowKit

/-- R is M with logs of its own, in blocks outside S -/
structure Cpy (B : Nat) (lg : Bt → List Et) (S : Nat → Prop) (w : World) (R M : List Bt) : Prop where
  len : R.length = M.length
  at_ : ∀ (i : Nat) (m : Bt), M[i]? = some m → ∃ (A : Option Addr) (k : Nat), R[i]? = some ({ m with A := A, k := k } : Bt) ∧ w.ownsRow B 156 5 (.slice A m.m k) m.m (CL Et.cells (lg m)) ∧ ∀ j, (Value.slice A m.m k).ownBlock = some j → ¬ S j
abbrev RowB (v : Value) : Nat → Prop := fun j => v.ownBlock = some j
theorem Cpy.nil (B : Nat) (lg : Bt → List Et) (S : Nat → Prop) (w : World) : Cpy B lg S w [] [] := ⟨rfl, fun i m h => by simp at h⟩
theorem Cpy.grown {B : Nat} {lg : Bt → List Et} {S : Nat → Prop} {w w' : World} {R M : List Bt} (h : Cpy B lg S w R M) {row : Option Nat} (g : w.grownBy w' row) (hr : ∀ j, row = some j → S j) : Cpy B lg S w' R M :=
  ⟨h.len, fun i m hm => by
    obtain ⟨A, k, h1, h2, h3⟩ := h.at_ i m hm
    refine ⟨A, k, h1, h2.kept g ?_, h3⟩
    cases hv : (Value.slice A m.m k).ownBlock with
    | none => exact .inl rfl
    | some j => exact .inr (fun e => h3 j hv (hr j e.symm))⟩
theorem Cpy.below {B : Nat} {lg : Bt → List Et} {S : Nat → Prop} {w w' : World} {R M : List Bt} (h : Cpy B lg S w R M) (hb : Below w.heap.size w w') : Cpy B lg S w' R M := h.grown (grown_of_below hb none) (fun j e => by cases e)
theorem Cpy.alloc {B : Nat} {lg : Bt → List Et} {S : Nat → Prop} {w : World} {R M : List Bt} (h : Cpy B lg S w R M) (o : Obj) : Cpy B lg S (w.alloc o) R M := h.grown (World.grownBy_alloc w o none) (fun j e => by cases e)
theorem Cpy.set {B : Nat} {lg : Bt → List Et} {S : Nat → Prop} {w : World} {R M : List Bt} (h : Cpy B lg S w R M) {a : Addr} (ha : S a.block) (v : Value) : Cpy B lg S (w.setCell a v) R M := h.grown (grown_setCell w a v) (fun j e => by cases e; exact ha)
theorem Cpy.more {B : Nat} {lg : Bt → List Et} {S : Nat → Prop} {w : World} {R M : List Bt} (h : Cpy B lg S w R M) : Cpy B lg (fun j => S j ∨ w.heap.size ≤ j) w R M :=
  ⟨h.len, fun i m hm => by
    obtain ⟨A, k, h1, h2, h3⟩ := h.at_ i m hm
    refine ⟨A, k, h1, h2, fun j hj => ?_⟩
    rintro (e | e)
    · exact h3 j hj e
    · have := (h2.lt j hj).2; omega⟩
theorem Cpy.mono {B : Nat} {lg : Bt → List Et} {S S' : Nat → Prop} {w : World} {R M : List Bt} (h : Cpy B lg S w R M) (hS : ∀ j, S' j → S j) : Cpy B lg S' w R M :=
  ⟨h.len, fun i m hm => by
    obtain ⟨A, k, h1, h2, h3⟩ := h.at_ i m hm
    exact ⟨A, k, h1, h2, fun j hj e => h3 j hj (hS j e)⟩⟩
theorem Cpy.lower {B B' : Nat} {lg : Bt → List Et} {S : Nat → Prop} {w : World} {R M : List Bt} (h : Cpy B' lg S w R M) (hB : B ≤ B') : Cpy B lg S w R M :=
  ⟨h.len, fun i m hm => by
    obtain ⟨A, k, h1, h2, h3⟩ := h.at_ i m hm
    exact ⟨A, k, h1, own_mono h2 hB, h3⟩⟩
theorem Cpy.push {B : Nat} {lg : Bt → List Et} {w x2 w9 : World} {R M : List Bt} {T : TypeId} {n : Nat} {A' A9 fA : Option Addr} {c' c9 fk : Nat} {xs : List Value} {o : Obj} (m : Bt)
    (h : Cpy B lg (RowB (.slice A' n c')) w R M) (hw : w.ownsRow B T 6 (.slice A' n c') n xs) (hB : B ≤ w.heap.size) (hb2 : Below w.heap.size w x2)
    (hof : x2.ownsRow w.heap.size 156 5 (.slice fA m.m fk) m.m (CL Et.cells (lg m)))
    (hg9 : (x2.alloc o).grownBy w9 (Value.slice A' n c').ownBlock)
    {q : Nat} (hbk : (Value.slice A9 (n + 1) c9).ownBlock = (Value.slice A' n c').ownBlock ∨ (Value.slice A9 (n + 1) c9).ownBlock = some q) (hq : x2.heap.size ≤ q) :
    Cpy B lg (RowB (.slice A9 (n + 1) c9)) w9 (R ++ [{ m with A := fA, k := fk }]) (M ++ [m]) := by
  have g : x2.grownBy w9 (Value.slice A' n c').ownBlock := (World.grownBy_alloc x2 o _).trans hg9
  have hrow : ∀ j, (Value.slice A9 (n + 1) c9).ownBlock = some j → j < x2.heap.size → (Value.slice A' n c').ownBlock = some j := fun j e hj => by
    rcases hbk with e2 | e2
    · rw [← e2]; exact e
    · rw [e2] at e; cases e; omega
  refine ⟨by simp [h.len], fun i y hy => ?_⟩
  by_cases hi : i < M.length
  · rw [List.getElem?_append_left hi] at hy
    obtain ⟨A, k, h1, h2, h3⟩ := h.at_ i y hy
    have h4 := own_kept h2 hb2
    refine ⟨A, k, by rw [List.getElem?_append_left (by rw [h.len]; exact hi)]; exact h1, h4.kept g ?_, fun j hj e => h3 j hj (hrow j e ?_)⟩
    · cases hv : (Value.slice A y.m k).ownBlock with
      | none => exact .inl rfl
      | some j => exact .inr (fun e => h3 j hv e.symm)
    · exact (h4.lt j hj).2
  · have hil : i = M.length := by
      have := (List.getElem?_eq_some_iff.1 hy).1
      simp at this
      omega
    subst hil
    simp at hy
    subst hy
    refine ⟨fA, fk, by rw [← h.len]; simp, own_mono (hof.kept g ?_) hB, fun j hj e => ?_⟩
    · cases hv : (Value.slice fA m.m fk).ownBlock with
      | none => exact .inl rfl
      | some j => exact .inr (fun e => by have := (hof.lt j hv).1; have := (hw.lt j e.symm).2; omega)
    · have h1 := hof.lt j hj
      have h2 := hw.lt j (hrow j e h1.2)
      omega
/-- a list of its own is returned, with logs of their own -/
def RetB (T : TypeId) (lg : Bt → List Et) (W : World) (M : List Bt) (e : Ending) (w' : World) : Prop :=
  ∃ A c R, e = .returned (.slice A M.length c) ∧ Below W.heap.size W w' ∧ w'.ownsRow W.heap.size T 6 (.slice A M.length c) M.length (CL Bt.cells R) ∧ Cpy W.heap.size lg (RowB (.slice A M.length c)) w' R M
end Go.Proofs.Ytjjobgolpedgeaa
