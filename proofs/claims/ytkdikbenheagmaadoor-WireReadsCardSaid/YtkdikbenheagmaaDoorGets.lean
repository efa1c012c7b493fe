/-
  A slice of readings that came in (the law's Get: a kind, a bound).
-/
import Derived.Test.YtkdikbenheagmaaDoorPuts
set_option linter.unusedVariables false
set_option linter.unusedSimpArgs false
namespace Go.Proofs.YtkdikbenheagmaaDoor
open Go.ChangeShapes Go.WideShapes Go.ChangeAt Go.RowKit

structure GetV where
  kind : Int
  most : Int
instance : Inhabited GetV := ⟨⟨0, 0⟩⟩
def GetV.cells (x : GetV) : List Value := [.int .i64 x.kind, .int .i64 x.most]
structure GetV.Ok (x : GetV) : Prop where
  m0 : -9223372036854775808 ≤ x.most
  m1 : x.most ≤ 9223372036854775807
structure GArg (W : World) (A : Option Addr) (n c : Nat) (l : List GetV) : Prop where
  rd : RdC 2 GetV.cells W A n l
  cap : n ≤ c
  ok : ∀ x ∈ l, x.Ok
theorem cellsGet : Tryd.prog.cellsOf 66 = 2 := by kernel_rfl
set_option maxRecDepth 100000 in
theorem open_get {H : Type} {enc : TypeId × Value → H} {W : World} {sp : Nat → Bool} {held : Bool} {b fuel : Nat} {cs : List Value} {y : DataW H × List MemPlace}
    (h : DataW.trod enc Tryd.prog W b sp held fuel 66 cs = some y) : ∃ x : GetV, cs = x.cells ∧ x.Ok := by
  obtain ⟨xs, n, _, rfl, hl, hlen, hf⟩ := DataW.trod_struct Tryd.underlying66 h
  rw [cellsGet] at hl
  match xs, hlen with
  | [y0, y1], _ =>
    match cs, hl with
    | [c0, c1], _ =>
      have h0 : DataW.trod enc Tryd.prog W b sp held n 3 (([c0, c1].drop 0).take (Tryd.prog.cellsOf 3)) = some y0 := hf 0 _ rfl
      have h1 : DataW.trod enc Tryd.prog W b sp held n 3 (([c0, c1].drop 1).take (Tryd.prog.cellsOf 3)) = some y1 := hf 1 _ rfl
      rw [c3] at h0
      rw [c3] at h1
      obtain ⟨n0, e0, z0, w0⟩ := DataW.trod_int Tryd.underlying3 h0
      obtain ⟨n1, e1, z1, w1⟩ := DataW.trod_int Tryd.underlying3 h1
      simp at e0 e1
      subst e0 e1
      have b3 := bounds_i64 w1
      exact ⟨⟨n0, n1⟩, rfl, ⟨b3.1, b3.2⟩⟩
set_option maxRecDepth 100000 in
theorem open_gets {H : Type} {enc : TypeId × Value → H} {W : World} {base : Nat} {v : Value} {d : DataW H} {p : List MemPlace} (hv : Value.okWide Tryd.prog W .any base 62 v)
    (h : DataW.Trod enc Tryd.prog W 0 (fun _ => true) true 62 v d p) : ∃ A n c l, v = .slice A n c ∧ GArg W A n c l := by
  obtain ⟨a, len, cap, rfl⟩ := okWide_slice Tryd.underlying62 hv
  obtain ⟨fuel, hf⟩ := h
  rcases Deep.open_slice Tryd.underlying62 hf with ⟨hcs, hx⟩ | ⟨x, l, c, m, n, D, Pl, hcs, _, hl, hm, hmm, hx, hel⟩
  · simp [Value.cells] at hcs
    obtain ⟨rfl, rfl, rfl⟩ := hcs
    exact ⟨none, 0, 0, [], rfl, ⟨rfl, Nat.zero_le _, fun j x hj => by simp at hj⟩, Nat.le_refl _, fun _ hx => by simp at hx⟩
  · simp [Value.cells] at hcs
    obtain ⟨rfl, rfl, rfl⟩ := hcs
    have hlm : len ≤ m := by simp at hmm; omega
    rw [cellsGet] at hel
    obtain ⟨X, hX⟩ : ∃ X : Nat → GetV, ∀ i, i < len → W.cells? 0 (x.add (i * 2)) 2 = some (X i).cells ∧ (X i).Ok := Deep.choose_lt (α := GetV) (n := len) (p := fun i x' => W.cells? 0 (x.add (i * 2)) 2 = some x'.cells ∧ x'.Ok) (fun i hi => by
      obtain ⟨cs', h1, h2⟩ := hel i (by omega)
      obtain ⟨y, rfl, ho⟩ := open_get h2
      exact ⟨y, h1, ho⟩)
    refine ⟨some x, len, cap, (List.range len).map X, rfl, ⟨by simp, by simp only [maxLen] at hm; omega, ?_⟩, hl, ?_⟩
    · intro j y hj
      simp only [List.getElem?_map, Option.map_eq_some_iff] at hj
      obtain ⟨i, hi, rfl⟩ := hj
      have hil := (List.getElem?_eq_some_iff.1 hi).1
      simp at hil
      have hij : i = j := by rw [List.getElem?_range hil] at hi; simpa using hi.symm
      subst hij
      refine ⟨x, rfl, fun q u hu => ?_⟩
      obtain ⟨_, _, h3⟩ := World.cells?_some (hX i hil).1
      rw [← add_add]
      have hq : q < 2 := by
        have := (List.getElem?_eq_some_iff.1 hu).1
        simpa [GetV.cells] using this
      exact (h3 q hq).trans hu
    · intro y hy
      obtain ⟨i, hi, rfl⟩ := List.mem_map.1 hy
      exact (hX i (by simpa using hi)).2
end Go.Proofs.YtkdikbenheagmaaDoor
