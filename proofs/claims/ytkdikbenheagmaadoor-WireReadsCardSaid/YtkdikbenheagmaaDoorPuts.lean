/-
  Things laid down: slices of Puts that came in; the walk of 'lay'.
-/
import Derived.Test.YtkdikbenheagmaaDoorAlive
import Derived.Test.YtkdikbenheagmaaDoorOpen
import Derived.Deep.Slices
set_option linter.unusedVariables false
set_option linter.unusedSimpArgs false
namespace Go.Proofs.YtkdikbenheagmaaDoor
open Go.ChangeShapes Go.WideShapes Go.ChangeAt Go.RowKit

/-! ### a slice of plain structs that reads -/
structure RdC {α : Type} (size : Nat) (cells : α → List Value) (w : World) (A : Option Addr) (n : Nat) (l : List α) : Prop where
  len : l.length = n
  le : n ≤ 9223372036854775807
  cell : ∀ j x, l[j]? = some x → ∃ ad, A = some ad ∧ ∀ i u, (cells x)[i]? = some u → w.cell? (ad.add (j * size + i)) = some u
theorem RdC.below {α : Type} {size : Nat} {cells : α → List Value} {w w1 : World} {A : Option Addr} {n : Nat} {l : List α} (h : RdC size cells w A n l) (hb : Below w.heap.size w w1) : RdC size cells w1 A n l :=
  ⟨h.len, h.le, fun j x hj => by
    obtain ⟨ad, e, hc⟩ := h.cell j x hj
    exact ⟨ad, e, fun i u hu => (hb.cell (World.block_lt_of_cell? w _ (hc i u hu))).trans (hc i u hu)⟩⟩

structure PutV where
  kind : Int
  v : Int
  n : Int
  most : Int
  s : ByteArray
instance : Inhabited PutV := ⟨⟨0, 0, 0, 0, ByteArray.empty⟩⟩
def PutV.cells (x : PutV) : List Value := [.int .i64 x.kind, .int .u64 x.v, .int .i64 x.n, .int .i64 x.most, .string x.s]
structure PutV.Ok (x : PutV) : Prop where
  v0 : 0 ≤ x.v
  v1 : x.v < 18446744073709551616
  n0 : -9223372036854775808 ≤ x.n
  n1 : x.n ≤ 9223372036854775807
  m0 : -9223372036854775808 ≤ x.most
  m1 : x.most ≤ 9223372036854775807
  s1 : x.s.size ≤ 9223372036854775807
def putBulk (l : List PutV) : Nat := (l.map fun x => x.s.size + 6).sum

structure PArg {H : Type} (W : World) (A : Option Addr) (n c : Nat) (l : List PutV) (d : DataW H) : Prop where
  rd : RdC 5 PutV.cells W A n l
  cap : n ≤ c
  none : A = .none → n = 0 ∧ c = 0
  ok : ∀ x ∈ l, x.Ok
  bulk : putBulk l + 1 ≤ Rows.uptoBulk d
theorem bulkAll_append {H : Type} (l r : List (DataW H)) : Rows.uptoBulkAll (l ++ r) = Rows.uptoBulkAll l + Rows.uptoBulkAll r := by
  induction l with
  | nil => simp [Rows.uptoBulkAll]
  | cons x l ih => simp only [List.cons_append, Rows.uptoBulkAll, ih]; omega
theorem bulkAll_map {H α : Type} (f : α → DataW H) (g : α → Nat) (l : List α) (h : ∀ x ∈ l, Rows.uptoBulk (f x) = g x) : Rows.uptoBulkAll (l.map f) = (l.map g).sum := by
  induction l with
  | nil => simp [Rows.uptoBulkAll]
  | cons x l ih =>
    simp only [List.map_cons, Rows.uptoBulkAll, List.sum_cons]
    rw [h x List.mem_cons_self, ih fun y hy => h y (List.mem_cons_of_mem _ hy)]
theorem cellsPut : Tryd.prog.cellsOf 50 = 5 := by kernel_rfl
theorem c3 : Tryd.prog.cellsOf 3 = 1 := by kernel_rfl
theorem c48 : Tryd.prog.cellsOf 48 = 1 := by kernel_rfl
theorem c9 : Tryd.prog.cellsOf 9 = 1 := by kernel_rfl
set_option maxRecDepth 100000 in
/-- one Put's cells -/
theorem open_put {H : Type} {enc : TypeId × Value → H} {W : World} {sp : Nat → Bool} {held : Bool} {b fuel : Nat} {cs : List Value} {y : DataW H × List MemPlace}
    (h : DataW.trod enc Tryd.prog W b sp held fuel 50 cs = some y) : ∃ x : PutV, cs = x.cells ∧ x.Ok ∧ Rows.uptoBulk y.1 = x.s.size + 6 := by
  obtain ⟨xs, n, _, rfl, hl, hlen, hf⟩ := DataW.trod_struct Tryd.underlying50 h
  rw [cellsPut] at hl
  match xs, hlen with
  | [y0, y1, y2, y3, y4], _ =>
    match cs, hl with
    | [c0, c1, c2, c3', c4], _ =>
      have h0 : DataW.trod enc Tryd.prog W b sp held n 3 (([c0, c1, c2, c3', c4].drop 0).take (Tryd.prog.cellsOf 3)) = some y0 := hf 0 _ rfl
      have h1 : DataW.trod enc Tryd.prog W b sp held n 48 (([c0, c1, c2, c3', c4].drop 1).take (Tryd.prog.cellsOf 48)) = some y1 := hf 1 _ rfl
      have h2 : DataW.trod enc Tryd.prog W b sp held n 3 (([c0, c1, c2, c3', c4].drop 2).take (Tryd.prog.cellsOf 3)) = some y2 := hf 2 _ rfl
      have h3 : DataW.trod enc Tryd.prog W b sp held n 3 (([c0, c1, c2, c3', c4].drop 3).take (Tryd.prog.cellsOf 3)) = some y3 := hf 3 _ rfl
      have h4 : DataW.trod enc Tryd.prog W b sp held n 9 (([c0, c1, c2, c3', c4].drop 4).take (Tryd.prog.cellsOf 9)) = some y4 := hf 4 _ rfl
      rw [c3] at h0
      rw [c48] at h1
      rw [c3] at h2
      rw [c3] at h3
      rw [c9] at h4
      obtain ⟨n0, e0, z0, w0⟩ := DataW.trod_int Tryd.underlying3 h0
      obtain ⟨n1, e1, z1, w1⟩ := DataW.trod_int Tryd.underlying48 h1
      obtain ⟨n2, e2, z2, w2⟩ := DataW.trod_int Tryd.underlying3 h2
      obtain ⟨n3, e3, z3, w3⟩ := DataW.trod_int Tryd.underlying3 h3
      obtain ⟨s4, e4, z4, w4⟩ := DataW.trod_string Tryd.underlying9 h4
      simp at e0 e1 e2 e3 e4
      subst e0 e1 e2 e3 e4
      have b1 := bounds_u64 w1
      have b2 := bounds_i64 w2
      have b3 := bounds_i64 w3
      refine ⟨⟨n0, n1, n2, n3, s4⟩, rfl, ⟨b1.1, by have := b1.2; simp only; omega, b2.1, b2.2, b3.1, b3.2, by simp only [maxLen] at w4; simp only; omega⟩, ?_⟩
      subst z0 z1 z2 z3 z4
      simp [Rows.uptoBulk, Rows.uptoBulkAll]
      have : s4.data.size = s4.size := rfl
      omega
set_option maxRecDepth 100000 in
theorem open_puts {H : Type} {enc : TypeId × Value → H} {W : World} {base : Nat} {v : Value} {d : DataW H} {p : List MemPlace} (hv : Value.okWide Tryd.prog W .any base 42 v)
    (h : DataW.Trod enc Tryd.prog W 0 (fun _ => true) true 42 v d p) : ∃ A n c l, v = .slice A n c ∧ PArg W A n c l d := by
  obtain ⟨a, len, cap, rfl⟩ := okWide_slice Tryd.underlying42 hv
  obtain ⟨fuel, hf⟩ := h
  rcases Deep.open_slice Tryd.underlying42 hf with ⟨hcs, hx⟩ | ⟨x, l, c, m, n, D, Pl, hcs, _, hl, hm, hmm, hx, hel⟩
  · simp [Value.cells] at hcs
    obtain ⟨rfl, rfl, rfl⟩ := hcs
    simp only [Prod.mk.injEq] at hx
    obtain ⟨rfl, _⟩ := hx
    exact ⟨none, 0, 0, [], rfl, ⟨rfl, Nat.zero_le _, fun j x hj => by simp at hj⟩, Nat.le_refl _, fun _ => ⟨rfl, rfl⟩, fun _ hx => by simp at hx, by simp [Rows.uptoBulk, putBulk]⟩
  · simp [Value.cells] at hcs
    obtain ⟨rfl, rfl, rfl⟩ := hcs
    simp only [Prod.mk.injEq] at hx
    obtain ⟨rfl, _⟩ := hx
    have hlm : len ≤ m := by simp at hmm; omega
    rw [cellsPut] at hel
    obtain ⟨X, hX⟩ : ∃ X : Nat → PutV, ∀ i, i < len → W.cells? 0 (x.add (i * 5)) 5 = some (X i).cells ∧ (X i).Ok ∧ Rows.uptoBulk (D i) = (X i).s.size + 6 := Deep.choose_lt (α := PutV) (n := len) (p := fun i x' => W.cells? 0 (x.add (i * 5)) 5 = some x'.cells ∧ x'.Ok ∧ Rows.uptoBulk (D i) = x'.s.size + 6) (fun i hi => by
      obtain ⟨cs', h1, h2⟩ := hel i (by omega)
      obtain ⟨y, rfl, ho, hb⟩ := open_put h2
      exact ⟨y, h1, ho, hb⟩)
    refine ⟨some x, len, cap, (List.range len).map X, rfl, ⟨by simp, by simp only [maxLen] at hm; omega, ?_⟩, hl, (fun e => by cases e), ?_, ?_⟩
    · intro j y hj
      simp only [List.getElem?_map, Option.map_eq_some_iff] at hj
      obtain ⟨i, hi, rfl⟩ := hj
      have hil := (List.getElem?_eq_some_iff.1 hi).1
      simp at hil
      have hij : i = j := by rw [List.getElem?_range hil] at hi; simpa using hi.symm
      subst hij
      refine ⟨x, rfl, fun q u hu => ?_⟩
      obtain ⟨_, _, h3⟩ := World.cells?_some (hX i hil).1
      rw [← add_add]
      have hq : q < 5 := by
        have := (List.getElem?_eq_some_iff.1 hu).1
        simpa [PutV.cells] using this
      exact (h3 q hq).trans hu
    · intro y hy
      obtain ⟨i, hi, rfl⟩ := List.mem_map.1 hy
      exact (hX i (by simpa using hi)).2.1
    · have h1 := bulkAll_map D (fun i => (X i).s.size + 6) (List.range len) (fun i hi => (hX i (by simpa using hi)).2.2)
      simp only [Rows.uptoBulk, h1, putBulk, List.map_map]
      have e : (List.range len).map ((fun x => x.s.size + 6) ∘ X) = (List.range len).map fun i => (X i).s.size + 6 := rfl
      rw [e]
      omega
end Go.Proofs.YtkdikbenheagmaaDoor
