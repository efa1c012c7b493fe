/-
  Opening the arguments of the statements on draws: slices of bools and of plain structs.
-/
import Derived.Test.YtgbjfmokfkdglaaNBase
import Derived.Test.YtgbjfmokfkdglaaRows
import Derived.ProofKit
import Derived.OpenShut
import Derived.SizedLaws
import Derived.Carry
import Derived.Deep.Slices
import Derived.Lib.SmallJoins
set_option linter.unusedVariables false
set_option linter.unusedSimpArgs false
namespace Go.Proofs.Ytgbjfmokfkdglaa
open Go.ChangeShapes Go.WideShapes Go.ChangeAt Go.RowKit

theorem own : ownKnob Try.prog.godebug = none := by kernel_rfl
theorem laidOut : laidOutB Try.prog = true := by kernel_rfl

/-! ### a slice of plain structs that reads -/
structure RdC {α : Type} (size : Nat) (cells : α → List Value) (w : World) (A : Option Addr) (n : Nat) (l : List α) : Prop where
  len : l.length = n
  le : n ≤ 9223372036854775807
  cell : ∀ j x, l[j]? = some x → ∃ ad, A = some ad ∧ ∀ i u, (cells x)[i]? = some u → w.cell? (ad.add (j * size + i)) = some u
theorem RdC.below {α : Type} {size : Nat} {cells : α → List Value} {w w1 : World} {A : Option Addr} {n : Nat} {l : List α} (h : RdC size cells w A n l) (hb : Below w.heap.size w w1) : RdC size cells w1 A n l :=
  ⟨h.len, h.le, fun j x hj => by
    obtain ⟨ad, e, hc⟩ := h.cell j x hj
    exact ⟨ad, e, fun i u hu => (hb.cell (World.block_lt_of_cell? w _ (hc i u hu))).trans (hc i u hu)⟩⟩
structure SArg {α H : Type} (P : Program) (W : World) (t : TypeId) (size bytes : Nat) (cells : α → List Value) (Ok : α → Prop) (A : Option Addr) (n c : Nat) (l : List α) (d : DataW H) : Prop where
  rd : RdC size cells W A n l
  cap : n ≤ c
  none : A = .none → n = 0 ∧ c = 0
  ok : ∀ x ∈ l, Ok x
  small : ∀ {ts : List TypeId} {ds : List (DataW H)} {j : Nat}, (DataW.weightsEach P ts ds).all (· ≤ reachBytes) = true → ts[j]? = some t → ds[j]? = some d → n * bytes ≤ 140737488351232
set_option maxRecDepth 100000 in
theorem open_list {α : Type} [Inhabited α] {H : Type} {P : Program} {enc : TypeId × Value → H} {W : World} {base : Nat} {v : Value} {d : DataW H} {p : List MemPlace} {t e : TypeId} {size bytes : Nat} {cells : α → List Value} {Ok : α → Prop}
    (ht : P.underlying t = some (.slice e)) (hC : P.cellsOf e = size) (hB : P.bytesOf e = bytes) (hcl : ∀ x : α, (cells x).length = size)
    (one : ∀ {b fuel : Nat} {sp : Nat → Bool} {held : Bool} {cs : List Value} {y : DataW H × List MemPlace}, DataW.trod enc P W b sp held fuel e cs = some y → ∃ x : α, cs = cells x ∧ Ok x)
    (hv : Value.okWide P W .any base t v) (h : DataW.Trod enc P W 0 (fun _ => true) true t v d p) : ∃ A n c l, v = .slice A n c ∧ SArg P W t size bytes cells Ok A n c l d := by
  obtain ⟨a, len, cap, rfl⟩ := okWide_slice ht hv
  obtain ⟨fuel, hf⟩ := h
  rcases Deep.open_slice ht hf with ⟨hcs, hx⟩ | ⟨x, l, c, m, n, D, Pl, hcs, _, hl, hm, hmm, hx, hel⟩
  · simp [Value.cells] at hcs
    obtain ⟨rfl, rfl, rfl⟩ := hcs
    simp only [Prod.mk.injEq] at hx
    obtain ⟨rfl, _⟩ := hx
    exact ⟨none, 0, 0, [], rfl, ⟨rfl, Nat.zero_le _, fun j x hj => by simp at hj⟩, Nat.le_refl _, fun _ => ⟨rfl, rfl⟩, fun _ hx => by simp at hx, fun _ _ _ => by simp⟩
  · simp [Value.cells] at hcs
    obtain ⟨rfl, rfl, rfl⟩ := hcs
    simp only [Prod.mk.injEq] at hx
    obtain ⟨rfl, _⟩ := hx
    have hlm : len ≤ m := by simp at hmm; omega
    rw [hC] at hel
    obtain ⟨X, hX⟩ : ∃ X : Nat → α, ∀ i, i < len → W.cells? 0 (x.add (i * size)) size = some (cells (X i)) ∧ Ok (X i) := Deep.choose_lt (α := α) (n := len) (p := fun i x' => W.cells? 0 (x.add (i * size)) size = some (cells x') ∧ Ok x') (fun i hi => by
      obtain ⟨cs', h1, h2⟩ := hel i (by omega)
      obtain ⟨y, rfl, ho⟩ := one h2
      exact ⟨y, h1, ho⟩)
    refine ⟨some x, len, cap, (List.range len).map X, rfl, ⟨by simp, by simp only [maxLen] at hm; omega, ?_⟩, hl, (fun e => by cases e), ?_, ?_⟩
    · intro j y hj
      simp only [List.getElem?_map, Option.map_eq_some_iff] at hj
      obtain ⟨i, hi, rfl⟩ := hj
      have hil := (List.getElem?_eq_some_iff.1 hi).1
      simp at hil
      have hij : i = j := by rw [List.getElem?_range hil] at hi; simpa using hi.symm
      subst hij
      refine ⟨x, rfl, fun q u hu => ?_⟩
      obtain ⟨_, _, h3⟩ := World.cells?_some (hX i hil).1
      rw [← add_add]
      have hq : q < size := by
        have := (List.getElem?_eq_some_iff.1 hu).1
        rwa [hcl] at this
      exact (h3 q hq).trans hu
    · intro y hy
      obtain ⟨i, hi, rfl⟩ := List.mem_map.1 hy
      exact (hX i (by simpa using hi)).2
    · intro ts ds j hw ht2 hd
      have := sized_slice hw ht2 hd ht
      rw [hB] at this
      simp only [reachBytes, List.length_map, List.length_range] at this
      exact Nat.le_trans (Nat.mul_le_mul_right _ (Nat.le_add_right _ _)) this
/-- a plain struct's cells, one by one -/
theorem one_fields {H : Type} {enc : TypeId × Value → H} {P : Program} {w : World} {base : Nat} {spare : Nat → Bool} {held : Bool} {e : TypeId} {fs : Array Field} {fuel : Nat} {cs : List Value} {y : DataW H × List MemPlace}
    (he : P.underlying e = some (.struct fs)) (hone : Deep.oneCellFields P fs = true) (hC : P.cellsOf e = fs.size) (h : DataW.trod enc P w base spare held fuel e cs = some y) :
    cs.length = fs.size ∧ ∃ n, ∀ (j : Nat) (f : Field), fs[j]? = some f → ∃ (v : Value) (y : DataW H × List MemPlace), cs[j]? = some v ∧ DataW.trod enc P w base spare held n f.type [v] = some y := by
  obtain ⟨ys, n', hn', hy, hlen, hyl, hf⟩ := DataW.trod_struct he h
  rw [hC] at hlen
  refine ⟨hlen, n', fun j f hj => ?_⟩
  obtain ⟨ho, hk⟩ := Deep.hone_of hone j f hj
  have hjl : j < fs.size := (Array.getElem?_eq_some_iff.1 hj).1
  have h1 := hf j f hj
  rw [ho, hk] at h1
  have hone' : (cs.drop j).take 1 = [cs[j]'(by omega)] := by
    rw [List.drop_eq_getElem_cons (by omega)]
    rfl
  rw [hone'] at h1
  have hys : ys[j]? = some (ys[j]'(by omega)) := List.getElem?_eq_getElem (by omega)
  exact ⟨_, _, List.getElem?_eq_getElem (by omega), h1.trans hys⟩

/-! ### the kinds of elements -/
def bcells (x : Bool) : List Value := [.bool x]
set_option maxRecDepth 100000 in
theorem open_bools {H : Type} {enc : TypeId × Value → H} {W : World} {base : Nat} {v : Value} {d : DataW H} {p : List MemPlace} (hv : Value.okWide Try.prog W .any base 49 v)
    (h : DataW.Trod enc Try.prog W 0 (fun _ => true) true 49 v d p) : ∃ A n c l, v = .slice A n c ∧ SArg Try.prog W 49 1 1 bcells (fun _ => True) A n c l d :=
  open_list Try.underlying49 (by kernel_rfl) (by kernel_rfl) (fun _ => rfl) (fun h => by
    obtain ⟨b, rfl, _⟩ := DataW.trod_bool Try.underlying4 h
    exact ⟨b, rfl, trivial⟩) hv h
structure BeatV where
  kind : Int
  n : Int
instance : Inhabited BeatV := ⟨⟨0, 0⟩⟩
def BeatV.cells (x : BeatV) : List Value := [.int .i64 x.kind, .int .u64 x.n]
def BeatV.Ok (x : BeatV) : Prop := (Lit.int .i64 x.kind).wf = true ∧ (Lit.int .u64 x.n).wf = true
set_option maxRecDepth 100000 in
theorem open_beats {H : Type} {enc : TypeId × Value → H} {W : World} {base : Nat} {v : Value} {d : DataW H} {p : List MemPlace} (hv : Value.okWide Try.prog W .any base 31 v)
    (h : DataW.Trod enc Try.prog W 0 (fun _ => true) true 31 v d p) : ∃ A n c l, v = .slice A n c ∧ SArg Try.prog W 31 2 16 BeatV.cells BeatV.Ok A n c l d :=
  open_list Try.underlying31 (by kernel_rfl) (by kernel_rfl) (fun _ => rfl) (fun {b fuel sp held cs y} h => by
    obtain ⟨hl, n, hf⟩ := one_fields Try.underlying41 (by kernel_rfl) (by kernel_rfl) h
    obtain ⟨v0, y0, e0, t0⟩ := hf 0 _ rfl
    obtain ⟨v1, y1, e1, t1⟩ := hf 1 _ rfl
    obtain ⟨x0, z0, _, w0⟩ := DataW.trod_int Try.underlying3 t0
    obtain ⟨x1, z1, _, w1⟩ := DataW.trod_int Try.underlying23 t1
    simp only [List.cons.injEq, and_true] at z0 z1
    subst z0 z1
    match cs, hl, e0, e1 with
    | [c0, c1], _, e0, e1 =>
      simp at e0 e1
      subst e0 e1
      exact ⟨⟨x0, x1⟩, rfl, w0, w1⟩) hv h
structure DrawV where
  hi : Int
  lo : Int
deriving DecidableEq
instance : Inhabited DrawV := ⟨⟨0, 0⟩⟩
def DrawV.cells (x : DrawV) : List Value := [.int .u64 x.hi, .int .u64 x.lo]
def DrawV.Ok (x : DrawV) : Prop := (Lit.int .u64 x.hi).wf = true ∧ (Lit.int .u64 x.lo).wf = true
set_option maxRecDepth 100000 in
theorem open_drawl {H : Type} {enc : TypeId × Value → H} {W : World} {base : Nat} {v : Value} {d : DataW H} {p : List MemPlace} (hv : Value.okWide Try.prog W .any base 39 v)
    (h : DataW.Trod enc Try.prog W 0 (fun _ => true) true 39 v d p) : ∃ A n c l, v = .slice A n c ∧ SArg Try.prog W 39 2 16 DrawV.cells DrawV.Ok A n c l d :=
  open_list Try.underlying39 (by kernel_rfl) (by kernel_rfl) (fun _ => rfl) (fun {b fuel sp held cs y} h => by
    obtain ⟨hl, n, hf⟩ := one_fields Try.underlying25 (by kernel_rfl) (by kernel_rfl) h
    obtain ⟨v0, y0, e0, t0⟩ := hf 0 _ rfl
    obtain ⟨v1, y1, e1, t1⟩ := hf 1 _ rfl
    obtain ⟨x0, z0, _, w0⟩ := DataW.trod_int Try.underlying23 t0
    obtain ⟨x1, z1, _, w1⟩ := DataW.trod_int Try.underlying23 t1
    simp only [List.cons.injEq, and_true] at z0 z1
    subst z0 z1
    match cs, hl, e0, e1 with
    | [c0, c1], _, e0, e1 =>
      simp at e0 e1
      subst e0 e1
      exact ⟨⟨x0, x1⟩, rfl, w0, w1⟩) hv h
end Go.Proofs.Ytgbjfmokfkdglaa
