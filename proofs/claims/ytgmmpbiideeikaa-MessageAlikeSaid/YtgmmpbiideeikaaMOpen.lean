/-
  A message as it reads; opening one that came in (printed by gen_mopen.py).
-/
import Derived.Test.YtgmmpbiideeikaaMBase
set_option linter.unusedVariables false
set_option linter.unusedSimpArgs false
namespace Go.Proofs.Ytgmmpbiideeikaa
open Go.ChangeShapes Go.WideShapes Go.ChangeAt Go.RowKit

theorem cellsInt : Try.prog.cellsOf 3 = 1 := by kernel_rfl
theorem cellsDraw : Try.prog.cellsOf 31 = 2 := by kernel_rfl
theorem open_draw {H : Type} {enc : TypeId × Value → H} {W : World} {sp : Nat → Bool} {held : Bool} {b fuel : Nat} {c1 c2 : Value} {y : DataW H × List MemPlace} (h : DataW.trod enc Try.prog W b sp held fuel 31 [c1, c2] = some y) :
    ∃ p q : Nat, c1 = .int .u64 (p : Nat) ∧ c2 = .int .u64 (q : Nat) ∧ p < 18446744073709551616 ∧ q < 18446744073709551616 := by
  obtain ⟨_, m, hg⟩ := one_fields Try.underlying31 (by kernel_rfl) (by kernel_rfl) h
  obtain ⟨v0, z0, e1, t0⟩ := hg 0 _ rfl
  obtain ⟨v1, z1, e2, t1⟩ := hg 1 _ rfl
  obtain ⟨x0, f0, _, w1⟩ := DataW.trod_int Try.underlying29 t0
  obtain ⟨x1, f1, _, w2⟩ := DataW.trod_int Try.underlying29 t1
  simp at e1 e2 f0 f1
  subst e1 e2 f0 f1
  have b0 := bounds_u64 w1
  have b1 := bounds_u64 w2
  exact ⟨x0.toNat, x1.toNat, by rw [Int.toNat_of_nonneg b0.1], by rw [Int.toNat_of_nonneg b1.1], by omega, by omega⟩
theorem weightsAll_mem {H : Type} {P : Program} {e : TypeId} {d : DataW H} : ∀ {l : List (DataW H)}, d ∈ l → ∀ q ∈ d.weights P e, q ∈ DataW.weightsAll P e l := by
  intro l
  induction l with
  | nil => intro h; simp at h
  | cons y t ih =>
    intro h q hq
    simp only [DataW.weightsAll, List.mem_append]
    rcases List.mem_cons.1 h with rfl | h
    · exact .inl hq
    · exact .inr (ih h q hq)
set_option maxRecDepth 100000 in
theorem open_list_at {α : Type} [Inhabited α] {H : Type} {P : Program} {enc : TypeId × Value → H} {W : World} {t e : TypeId} {size bytes : Nat} {cells : α → List Value} {Ok Sm : α → Prop} {b : Nat} {sp : Nat → Bool} {held : Bool} {fuel : Nat} {cs : List Value} {y : DataW H × List MemPlace}
    (ht : P.underlying t = some (.slice e)) (hC : P.cellsOf e = size) (hB : P.bytesOf e = bytes) (hcl : ∀ x : α, (cells x).length = size)
    (one : ∀ {b fuel : Nat} {sp : Nat → Bool} {held : Bool} {cs : List Value} {y : DataW H × List MemPlace}, DataW.trod enc P W b sp held fuel e cs = some y → ∃ x : α, cs = cells x ∧ Ok x ∧ ((∀ q ∈ y.1.weights P e, q ≤ reachBytes) → Sm x))
    (h : DataW.trod enc P W b sp held fuel t cs = some y) :
    ∃ A n c l, cs = [.slice A n c] ∧ RdC size cells W A n l ∧ n ≤ c ∧ (A = none → n = 0 ∧ c = 0) ∧ (∀ x ∈ l, Ok x) ∧ ((∀ q ∈ y.1.weights P t, q ≤ reachBytes) → n * bytes ≤ 140737488351232 ∧ ∀ x ∈ l, Sm x) := by
  rcases Deep.open_slice ht h with ⟨hcs, hx⟩ | ⟨x, len, cap, m, n, D, Pl, hcs, _, hl, hm, hmm, hx, hel⟩
  · subst hx
    exact ⟨none, 0, 0, [], hcs, RdC.nil _ _ _ _, Nat.le_refl _, fun _ => ⟨rfl, rfl⟩, fun _ hx => by simp at hx, fun _ => ⟨by simp, fun _ hx => by simp at hx⟩⟩
  · subst hx
    have hlm : len ≤ m := by rw [hmm]; split <;> omega
    rw [hC] at hel
    obtain ⟨X, hX⟩ : ∃ X : Nat → α, ∀ i, i < len → W.cells? b (x.add (i * size)) size = some (cells (X i)) ∧ Ok (X i) ∧ ((∀ q ∈ (D i).weights P e, q ≤ reachBytes) → Sm (X i)) := Deep.choose_lt (α := α) (n := len) (p := fun i x' => W.cells? b (x.add (i * size)) size = some (cells x') ∧ Ok x' ∧ ((∀ q ∈ (D i).weights P e, q ≤ reachBytes) → Sm x')) (fun i hi => by
      obtain ⟨cs', h1, h2⟩ := hel i (by omega)
      obtain ⟨y, rfl, ho, hs⟩ := one h2
      exact ⟨y, h1, ho, hs⟩)
    refine ⟨some x, len, cap, (List.range len).map X, hcs, ⟨by simp, by simp only [maxLen] at hm; omega, ?_⟩, hl, (fun e => by cases e), ?_, fun hw => ⟨?_, ?_⟩⟩
    · intro j y hj
      simp only [List.getElem?_map, Option.map_eq_some_iff] at hj
      obtain ⟨i, hi, rfl⟩ := hj
      have hil := (List.getElem?_eq_some_iff.1 hi).1
      simp at hil
      have hij : i = j := by rw [List.getElem?_range hil] at hi; simpa using hi.symm
      subst hij
      refine ⟨x, rfl, fun q u hu => ?_⟩
      obtain ⟨_, _, h3⟩ := World.cells?_some (hX i hil).1
      rw [← add_add]
      have hq : q < size := by
        have := (List.getElem?_eq_some_iff.1 hu).1
        rwa [hcl] at this
      exact (h3 q hq).trans hu
    · intro y hy
      obtain ⟨i, hi, rfl⟩ := List.mem_map.1 hy
      exact (hX i (by simpa using hi)).2.1
    · have h1 := hw ((((List.range len).map D).length + ((List.range (m - len)).map fun j => D (len + j)).length) * P.bytesOf e) (by simp [DataW.weights, ht])
      rw [hB] at h1
      simp only [reachBytes, List.length_map, List.length_range] at h1
      exact Nat.le_trans (Nat.mul_le_mul_right _ (Nat.le_add_right _ _)) h1
    · intro y hy
      obtain ⟨i, hi, rfl⟩ := List.mem_map.1 hy
      refine (hX i (by simpa using hi)).2.2 fun q hq => hw q ?_
      simp only [DataW.weights, ht, List.mem_cons, List.mem_append]
      exact .inr (.inl (weightsAll_mem (List.mem_map.2 ⟨i, hi, rfl⟩) q hq))
theorem cellsOp : Try.prog.cellsOf 24 = 3 := by kernel_rfl
theorem cellsStr : Try.prog.cellsOf 9 = 1 := by kernel_rfl
theorem cellsEntry : Try.prog.cellsOf 26 = 5 := by kernel_rfl
theorem cellsLog : Try.prog.cellsOf 32 = 1 := by kernel_rfl
structure Et.Ok (x : Et) : Prop where
  c : (Lit.int .i64 x.c).wf = true
  n : (Lit.int .i64 x.n).wf = true
  kd : (Lit.int .i64 x.kd).wf = true
  sl : (Lit.int .i64 x.sl).wf = true
  v : x.v.size ≤ maxLen
set_option maxRecDepth 100000 in
theorem open_op {H : Type} {enc : TypeId × Value → H} {W : World} {sp : Nat → Bool} {held : Bool} {b fuel : Nat} {c0 c1 c2 : Value} {y : DataW H × List MemPlace} (h : DataW.trod enc Try.prog W b sp held fuel 24 [c0, c1, c2] = some y) :
    ∃ (p q : Int) (s : ByteArray), c0 = .int .i64 p ∧ c1 = .int .i64 q ∧ c2 = .string s ∧ (Lit.int .i64 p).wf = true ∧ (Lit.int .i64 q).wf = true ∧ s.size ≤ maxLen := by
  obtain ⟨_, m, hg⟩ := one_fields Try.underlying24 (by kernel_rfl) (by kernel_rfl) h
  obtain ⟨v0, z0, e0, t0⟩ := hg 0 _ rfl
  obtain ⟨v1, z1, e1, t1⟩ := hg 1 _ rfl
  obtain ⟨v2, z2, e2, t2⟩ := hg 2 _ rfl
  obtain ⟨x0, f0, _, w0⟩ := DataW.trod_int Try.underlying3 t0
  obtain ⟨x1, f1, _, w1⟩ := DataW.trod_int Try.underlying3 t1
  obtain ⟨x2, f2, _, w2⟩ := DataW.trod_string Try.underlying9 t2
  simp at e0 e1 e2 f0 f1 f2
  subst e0 e1 e2 f0 f1 f2
  exact ⟨x0, x1, x2, rfl, rfl, rfl, w0, w1, w2⟩
set_option maxRecDepth 100000 in
theorem entry_one {H : Type} {enc : TypeId × Value → H} {W : World} {b fuel : Nat} {sp : Nat → Bool} {held : Bool} {cs : List Value} {y : DataW H × List MemPlace} (h : DataW.trod enc Try.prog W b sp held fuel 26 cs = some y) : ∃ x : Et, cs = x.cells ∧ x.Ok ∧ ((∀ q ∈ y.1.weights Try.prog 26, q ≤ reachBytes) → True) := by
    obtain ⟨xs, n, _, rfl, hl, hlen, hf⟩ := DataW.trod_struct Try.underlying26 h
    rw [cellsEntry] at hl
    match xs, hlen with
    | [y0, y1, y2], _ =>
      match cs, hl with
      | [c0, c1, c2, c3, c4], _ =>
        have h0 : DataW.trod enc Try.prog W b sp held n 3 (([c0, c1, c2, c3, c4].drop 0).take (Try.prog.cellsOf 3)) = some y0 := hf 0 _ rfl
        have h1 : DataW.trod enc Try.prog W b sp held n 3 (([c0, c1, c2, c3, c4].drop 1).take (Try.prog.cellsOf 3)) = some y1 := hf 1 _ rfl
        have h2 : DataW.trod enc Try.prog W b sp held n 24 (([c0, c1, c2, c3, c4].drop 2).take (Try.prog.cellsOf 24)) = some y2 := hf 2 _ rfl
        rw [cellsInt] at h0 h1
        rw [cellsOp] at h2
        obtain ⟨n0, e0, _, w0⟩ := DataW.trod_int Try.underlying3 h0
        obtain ⟨n1, e1, _, w1⟩ := DataW.trod_int Try.underlying3 h1
        obtain ⟨p, q, s, rfl, rfl, rfl, hp, hq, hs⟩ := open_op (show DataW.trod enc Try.prog W b sp held n 24 [c2, c3, c4] = some y2 from h2)
        simp at e0 e1
        subst e0 e1
        exact ⟨⟨n0, n1, p, q, s⟩, rfl, ⟨w0, w1, hp, hq, hs⟩, fun _ => trivial⟩
theorem cellsKind : Try.prog.cellsOf 22 = 1 := by kernel_rfl
theorem cellsResult : Try.prog.cellsOf 28 = 3 := by kernel_rfl
theorem cellsVec : Try.prog.cellsOf 34 = 1 := by kernel_rfl
theorem cellsMsg : Try.prog.cellsOf 36 = 18 := by kernel_rfl
set_option maxRecDepth 100000 in
theorem open_result {H : Type} {enc : TypeId × Value → H} {W : World} {sp : Nat → Bool} {held : Bool} {b fuel : Nat} {c0 c1 c2 : Value} {y : DataW H × List MemPlace} (h : DataW.trod enc Try.prog W b sp held fuel 28 [c0, c1, c2] = some y) :
    ∃ (p q : Int) (s : ByteArray), c0 = .int .i64 p ∧ c1 = .int .i64 q ∧ c2 = .string s ∧ (Lit.int .i64 p).wf = true ∧ (Lit.int .i64 q).wf = true ∧ s.size ≤ maxLen := by
  obtain ⟨_, m, hg⟩ := one_fields Try.underlying28 (by kernel_rfl) (by kernel_rfl) h
  obtain ⟨v0, z0, e0, t0⟩ := hg 0 _ rfl
  obtain ⟨v1, z1, e1, t1⟩ := hg 1 _ rfl
  obtain ⟨v2, z2, e2, t2⟩ := hg 2 _ rfl
  obtain ⟨x0, f0, _, w0⟩ := DataW.trod_int Try.underlying3 t0
  obtain ⟨x1, f1, _, w1⟩ := DataW.trod_int Try.underlying3 t1
  obtain ⟨x2, f2, _, w2⟩ := DataW.trod_string Try.underlying9 t2
  simp at e0 e1 e2 f0 f1 f2
  subst e0 e1 e2 f0 f1 f2
  exact ⟨x0, x1, x2, rfl, rfl, rfl, w0, w1, w2⟩
structure Dw.Ok (x : Dw) : Prop where
  h : x.h < 18446744073709551616
  l : x.l < 18446744073709551616
set_option maxRecDepth 100000 in
theorem draw_one {H : Type} {enc : TypeId × Value → H} {W : World} {b fuel : Nat} {sp : Nat → Bool} {held : Bool} {cs : List Value} {y : DataW H × List MemPlace} (h : DataW.trod enc Try.prog W b sp held fuel 31 cs = some y) : ∃ x : Dw, cs = x.cells ∧ x.Ok ∧ ((∀ q ∈ y.1.weights Try.prog 31, q ≤ reachBytes) → True) := by
  have h2 := h
  obtain ⟨xs, n, _, rfl, hl, hlen, hf⟩ := DataW.trod_struct Try.underlying31 h
  rw [cellsDraw] at hl
  match cs, hl with
  | [c0, c1], _ =>
    obtain ⟨p, q, rfl, rfl, hp, hq⟩ := open_draw h2
    exact ⟨⟨p, q⟩, rfl, ⟨hp, hq⟩, fun _ => trivial⟩
/-- a message as it reads -/
structure Ms where
  kd : Int
  nd : Int
  vw : Int
  en : Et
  rc : Int
  rs : Int
  rv : ByteArray
  pl : Int
  cm : Int
  la : Int
  h : Nat
  l : Nat
  lg : List Et
  vc : List Dw
/-- its cells, the lists lying where they are said to -/
abbrev Ms.cells (m : Ms) (A : Option Addr) (n c : Nat) (B : Option Addr) (k d : Nat) : List Value := [.int .i64 m.kd, .int .i64 m.nd, .int .i64 m.vw, .int .i64 m.en.c, .int .i64 m.en.n, .int .i64 m.en.kd, .int .i64 m.en.sl, .string m.en.v, .int .i64 m.rc, .int .i64 m.rs, .string m.rv, .int .i64 m.pl, .int .i64 m.cm, .int .i64 m.la, .int .u64 (m.h : Nat), .int .u64 (m.l : Nat), .slice A n c, .slice B k d]
abbrev Ms.agg (m : Ms) (A : Option Addr) (n c : Nat) (B : Option Addr) (k d : Nat) : Value := .agg #[.int .i64 m.kd, .int .i64 m.nd, .int .i64 m.vw, .int .i64 m.en.c, .int .i64 m.en.n, .int .i64 m.en.kd, .int .i64 m.en.sl, .string m.en.v, .int .i64 m.rc, .int .i64 m.rs, .string m.rv, .int .i64 m.pl, .int .i64 m.cm, .int .i64 m.la, .int .u64 (m.h : Nat), .int .u64 (m.l : Nat), .slice A n c, .slice B k d]
structure Ms.Ok (m : Ms) : Prop where
  kd : (Lit.int .i64 m.kd).wf = true
  nd : (Lit.int .i64 m.nd).wf = true
  vw : (Lit.int .i64 m.vw).wf = true
  en : m.en.Ok
  rc : (Lit.int .i64 m.rc).wf = true
  rs : (Lit.int .i64 m.rs).wf = true
  rv : m.rv.size ≤ maxLen
  pl : (Lit.int .i64 m.pl).wf = true
  cm : (Lit.int .i64 m.cm).wf = true
  la : (Lit.int .i64 m.la).wf = true
  h : m.h < 18446744073709551616
  l : m.l < 18446744073709551616
  lg : ∀ e ∈ m.lg, e.Ok
  vc : ∀ e ∈ m.vc, e.Ok
/-- a message and where its lists lie -/
structure Mp where
  m : Ms
  A : Option Addr
  n : Nat
  c : Nat
  B : Option Addr
  k : Nat
  d : Nat
abbrev Mp.cells (x : Mp) : List Value := x.m.cells x.A x.n x.c x.B x.k x.d
abbrev Mp.agg (x : Mp) : Value := x.m.agg x.A x.n x.c x.B x.k x.d
/-- its lists read -/
structure Mp.Rd (W : World) (x : Mp) : Prop where
  lg : RdC 5 Et.cells W x.A x.n x.m.lg
  vc : RdC 2 Dw.cells W x.B x.k x.m.vc
theorem Mp.Rd.below {w w1 : World} {x : Mp} (h : x.Rd w) (hb : Below w.heap.size w w1) : x.Rd w1 := ⟨h.lg.below hb, h.vc.below hb⟩
theorem Mp.Rd.drewN {w : World} {x : Mp} (h : x.Rd w) (n : Nat) : x.Rd (w.drewN n) := ⟨h.lg.drewN n, h.vc.drewN n⟩
/-- what is known of one that came in -/
structure Mp.In (W : World) (x : Mp) : Prop where
  rd : x.Rd W
  lc : x.n ≤ x.c
  vc : x.k ≤ x.d
  ln : x.A = none → x.n = 0 ∧ x.c = 0
  vn : x.B = none → x.k = 0 ∧ x.d = 0
structure Mp.Sm (x : Mp) : Prop where
  lg : x.n * 48 ≤ 140737488351232
  vc : x.k * 16 ≤ 140737488351232
set_option maxRecDepth 100000 in
theorem msg_one {H : Type} {enc : TypeId × Value → H} {W : World} {b fuel : Nat} {sp : Nat → Bool} {held : Bool} {cs : List Value} {y : DataW H × List MemPlace} (h : DataW.trod enc Try.prog W b sp held fuel 36 cs = some y) : ∃ x : Mp, cs = x.cells ∧ (x.m.Ok ∧ x.In W) ∧ ((∀ q ∈ y.1.weights Try.prog 36, q ≤ reachBytes) → x.Sm) := by
  obtain ⟨xs, n, _, rfl, hl, hlen, hf⟩ := DataW.trod_struct Try.underlying36 h
  rw [cellsMsg] at hl
  match xs, hlen with
  | [y0, y1, y2, y3, y4, y5, y6, y7, y8, y9, y10], _ =>
    match cs, hl with
    | [c0, c1, c2, c3, c4, c5, c6, c7, c8, c9, c10, c11, c12, c13, c14, c15, c16, c17], _ =>
      have h0 : DataW.trod enc Try.prog W b sp held n 22 (([c0, c1, c2, c3, c4, c5, c6, c7, c8, c9, c10, c11, c12, c13, c14, c15, c16, c17].drop 0).take (Try.prog.cellsOf 22)) = some y0 := hf 0 _ rfl
      have h1 : DataW.trod enc Try.prog W b sp held n 3 (([c0, c1, c2, c3, c4, c5, c6, c7, c8, c9, c10, c11, c12, c13, c14, c15, c16, c17].drop 1).take (Try.prog.cellsOf 3)) = some y1 := hf 1 _ rfl
      have h2 : DataW.trod enc Try.prog W b sp held n 3 (([c0, c1, c2, c3, c4, c5, c6, c7, c8, c9, c10, c11, c12, c13, c14, c15, c16, c17].drop 2).take (Try.prog.cellsOf 3)) = some y2 := hf 2 _ rfl
      have h3 : DataW.trod enc Try.prog W b sp held n 26 (([c0, c1, c2, c3, c4, c5, c6, c7, c8, c9, c10, c11, c12, c13, c14, c15, c16, c17].drop 3).take (Try.prog.cellsOf 26)) = some y3 := hf 3 _ rfl
      have h4 : DataW.trod enc Try.prog W b sp held n 28 (([c0, c1, c2, c3, c4, c5, c6, c7, c8, c9, c10, c11, c12, c13, c14, c15, c16, c17].drop 8).take (Try.prog.cellsOf 28)) = some y4 := hf 4 _ rfl
      have h5 : DataW.trod enc Try.prog W b sp held n 3 (([c0, c1, c2, c3, c4, c5, c6, c7, c8, c9, c10, c11, c12, c13, c14, c15, c16, c17].drop 11).take (Try.prog.cellsOf 3)) = some y5 := hf 5 _ rfl
      have h6 : DataW.trod enc Try.prog W b sp held n 3 (([c0, c1, c2, c3, c4, c5, c6, c7, c8, c9, c10, c11, c12, c13, c14, c15, c16, c17].drop 12).take (Try.prog.cellsOf 3)) = some y6 := hf 6 _ rfl
      have h7 : DataW.trod enc Try.prog W b sp held n 3 (([c0, c1, c2, c3, c4, c5, c6, c7, c8, c9, c10, c11, c12, c13, c14, c15, c16, c17].drop 13).take (Try.prog.cellsOf 3)) = some y7 := hf 7 _ rfl
      have h8 : DataW.trod enc Try.prog W b sp held n 31 (([c0, c1, c2, c3, c4, c5, c6, c7, c8, c9, c10, c11, c12, c13, c14, c15, c16, c17].drop 14).take (Try.prog.cellsOf 31)) = some y8 := hf 8 _ rfl
      have h9 : DataW.trod enc Try.prog W b sp held n 32 (([c0, c1, c2, c3, c4, c5, c6, c7, c8, c9, c10, c11, c12, c13, c14, c15, c16, c17].drop 16).take (Try.prog.cellsOf 32)) = some y9 := hf 9 _ rfl
      have h10 : DataW.trod enc Try.prog W b sp held n 34 (([c0, c1, c2, c3, c4, c5, c6, c7, c8, c9, c10, c11, c12, c13, c14, c15, c16, c17].drop 17).take (Try.prog.cellsOf 34)) = some y10 := hf 10 _ rfl
      rw [cellsKind] at h0
      rw [cellsInt] at h1 h2 h5 h6 h7
      rw [cellsEntry] at h3
      rw [cellsResult] at h4
      rw [cellsDraw] at h8
      rw [cellsLog] at h9
      rw [cellsVec] at h10
      obtain ⟨n0, e0, _, w0⟩ := DataW.trod_int Try.underlying22 h0
      obtain ⟨n1, e1, _, w1⟩ := DataW.trod_int Try.underlying3 h1
      obtain ⟨n2, e2, _, w2⟩ := DataW.trod_int Try.underlying3 h2
      obtain ⟨n5, e5, _, w5⟩ := DataW.trod_int Try.underlying3 h5
      obtain ⟨n6, e6, _, w6⟩ := DataW.trod_int Try.underlying3 h6
      obtain ⟨n7, e7, _, w7⟩ := DataW.trod_int Try.underlying3 h7
      obtain ⟨en, e3, w3, _⟩ := entry_one (show DataW.trod enc Try.prog W b sp held n 26 [c3, c4, c5, c6, c7] = some y3 from h3)
      obtain ⟨rc, rs, rv, rfl, rfl, rfl, w8, w9, w10⟩ := open_result (show DataW.trod enc Try.prog W b sp held n 28 [c8, c9, c10] = some y4 from h4)
      obtain ⟨p, q, rfl, rfl, hp, hq⟩ := open_draw (show DataW.trod enc Try.prog W b sp held n 31 [c14, c15] = some y8 from h8)
      obtain ⟨A, m, c, l, e9, r9, cap9, non9, ok9, sm9⟩ := open_list_at Try.underlying32 cellsEntry (bytes := 48) (by kernel_rfl) (fun _ => rfl) (fun h => entry_one h) (show DataW.trod enc Try.prog W b sp held n 32 [c16] = some y9 from h9)
      obtain ⟨B, k, d, v, e10, r10, cap10, non10, ok10, sm10⟩ := open_list_at Try.underlying34 cellsDraw (bytes := 16) (by kernel_rfl) (fun _ => rfl) (fun h => draw_one h) (show DataW.trod enc Try.prog W b sp held n 34 [c17] = some y10 from h10)
      simp at e0 e1 e2 e3 e5 e6 e7 e9 e10
      obtain ⟨rfl, rfl, rfl, rfl, rfl⟩ := e3
      subst e0 e1 e2 e5 e6 e7 e9 e10
      refine ⟨⟨⟨n0, n1, n2, en, rc, rs, rv, n5, n6, n7, p, q, l, v⟩, A, m, c, B, k, d⟩, rfl, ⟨⟨w0, w1, w2, w3, w8, w9, w10, w5, w6, w7, hp, hq, ok9, ok10⟩, ⟨⟨r9, r10⟩, cap9, cap10, non9, non10⟩⟩, fun hw => ⟨?_, ?_⟩⟩
      · refine (sm9 fun q hq => hw q ?_).1
        simp only [DataW.weights, Try.underlying36]
        exact DataW.weights_mem_each (j := 9) rfl rfl q hq
      · refine (sm10 fun q hq => hw q ?_).1
        simp only [DataW.weights, Try.underlying36]
        exact DataW.weights_mem_each (j := 10) rfl rfl q hq
/-- one message that came in -/
structure LArgMsg {H : Type} (W : World) (x : Mp) (d : DataW H) : Prop where
  ok : x.m.Ok
  i : x.In W
  small : ∀ {ts : List TypeId} {ds : List (DataW H)} {j : Nat}, (DataW.weightsEach Try.prog ts ds).all (· ≤ reachBytes) = true → ts[j]? = some 36 → ds[j]? = some d → x.Sm
set_option maxRecDepth 100000 in
theorem open_msg {H : Type} {enc : TypeId × Value → H} {W : World} {base : Nat} {v : Value} {d : DataW H} {p : List MemPlace} (hv : Value.okWide Try.prog W .any base 36 v)
    (h : DataW.Trod enc Try.prog W 0 (fun _ => true) true 36 v d p) : ∃ x : Mp, v = x.agg ∧ LArgMsg W x d := by
  obtain ⟨cs, rfl, hsz⟩ := okWide_struct Try.underlying36 hv
  obtain ⟨fuel, hf⟩ := h
  obtain ⟨x, hx, ⟨ho, hi⟩, hs⟩ := msg_one hf
  refine ⟨x, ?_, ho, hi, fun hw ht hd => hs fun q hq => by
    have := List.all_eq_true.1 hw _ (DataW.weights_mem_each ht hd q hq)
    simpa using this⟩
  have : cs = x.cells.toArray := by rw [← hx]; simp [Value.cells]
  rw [this]
end Go.Proofs.Ytgmmpbiideeikaa
