/-
  Opening ballots and answers with their logs, and lists of them.
-/
import Derived.Test.YtjjobgolpedgeaaTOpen2
import Derived.Test.YtjjobgolpedgeaaTLog
set_option linter.unusedVariables false
set_option linter.unusedSimpArgs false
namespace Go.Proofs.Ytjjobgolpedgeaa
open Go.ChangeShapes Go.WideShapes Go.ChangeAt Go.RowKit

theorem weightsAll_mem {H : Type} {P : Program} {e : TypeId} {d : DataW H} : ∀ {l : List (DataW H)}, d ∈ l → ∀ q ∈ d.weights P e, q ∈ DataW.weightsAll P e l := by
  intro l
  induction l with
  | nil => intro h; simp at h
  | cons y t ih =>
    intro h q hq
    simp only [DataW.weightsAll, List.mem_append]
    rcases List.mem_cons.1 h with rfl | h
    · exact .inl hq
    · exact .inr (ih h q hq)
set_option maxRecDepth 100000 in
theorem open_list_at {α : Type} [Inhabited α] {H : Type} {P : Program} {enc : TypeId × Value → H} {W : World} {t e : TypeId} {size bytes : Nat} {cells : α → List Value} {Ok Sm : α → Prop} {b : Nat} {sp : Nat → Bool} {held : Bool} {fuel : Nat} {cs : List Value} {y : DataW H × List MemPlace}
    (ht : P.underlying t = some (.slice e)) (hC : P.cellsOf e = size) (hB : P.bytesOf e = bytes) (hcl : ∀ x : α, (cells x).length = size)
    (one : ∀ {b fuel : Nat} {sp : Nat → Bool} {held : Bool} {cs : List Value} {y : DataW H × List MemPlace}, DataW.trod enc P W b sp held fuel e cs = some y → ∃ x : α, cs = cells x ∧ Ok x ∧ ((∀ q ∈ y.1.weights P e, q ≤ reachBytes) → Sm x))
    (h : DataW.trod enc P W b sp held fuel t cs = some y) :
    ∃ A n c l, cs = [.slice A n c] ∧ RdC size cells W A n l ∧ n ≤ c ∧ (A = none → n = 0 ∧ c = 0) ∧ (∀ x ∈ l, Ok x) ∧ ((∀ q ∈ y.1.weights P t, q ≤ reachBytes) → n * bytes ≤ 140737488351232 ∧ ∀ x ∈ l, Sm x) := by
  rcases Deep.open_slice ht h with ⟨hcs, hx⟩ | ⟨x, len, cap, m, n, D, Pl, hcs, _, hl, hm, hmm, hx, hel⟩
  · subst hx
    exact ⟨none, 0, 0, [], hcs, RdC.nil _ _ _ _, Nat.le_refl _, fun _ => ⟨rfl, rfl⟩, fun _ hx => by simp at hx, fun _ => ⟨by simp, fun _ hx => by simp at hx⟩⟩
  · subst hx
    have hlm : len ≤ m := by rw [hmm]; split <;> omega
    rw [hC] at hel
    obtain ⟨X, hX⟩ : ∃ X : Nat → α, ∀ i, i < len → W.cells? b (x.add (i * size)) size = some (cells (X i)) ∧ Ok (X i) ∧ ((∀ q ∈ (D i).weights P e, q ≤ reachBytes) → Sm (X i)) := Deep.choose_lt (α := α) (n := len) (p := fun i x' => W.cells? b (x.add (i * size)) size = some (cells x') ∧ Ok x' ∧ ((∀ q ∈ (D i).weights P e, q ≤ reachBytes) → Sm x')) (fun i hi => by
      obtain ⟨cs', h1, h2⟩ := hel i (by omega)
      obtain ⟨y, rfl, ho, hs⟩ := one h2
      exact ⟨y, h1, ho, hs⟩)
    refine ⟨some x, len, cap, (List.range len).map X, hcs, ⟨by simp, by simp only [maxLen] at hm; omega, ?_⟩, hl, (fun e => by cases e), ?_, fun hw => ⟨?_, ?_⟩⟩
    · intro j y hj
      simp only [List.getElem?_map, Option.map_eq_some_iff] at hj
      obtain ⟨i, hi, rfl⟩ := hj
      have hil := (List.getElem?_eq_some_iff.1 hi).1
      simp at hil
      have hij : i = j := by rw [List.getElem?_range hil] at hi; simpa using hi.symm
      subst hij
      refine ⟨x, rfl, fun q u hu => ?_⟩
      obtain ⟨_, _, h3⟩ := World.cells?_some (hX i hil).1
      rw [← add_add]
      have hq : q < size := by
        have := (List.getElem?_eq_some_iff.1 hu).1
        rwa [hcl] at this
      exact (h3 q hq).trans hu
    · intro y hy
      obtain ⟨i, hi, rfl⟩ := List.mem_map.1 hy
      exact (hX i (by simpa using hi)).2.1
    · have h1 := hw ((((List.range len).map D).length + ((List.range (m - len)).map fun j => D (len + j)).length) * P.bytesOf e) (by simp [DataW.weights, ht])
      rw [hB] at h1
      simp only [reachBytes, List.length_map, List.length_range] at h1
      exact Nat.le_trans (Nat.mul_le_mul_right _ (Nat.le_add_right _ _)) h1
    · intro y hy
      obtain ⟨i, hi, rfl⟩ := List.mem_map.1 hy
      refine (hX i (by simpa using hi)).2.2 fun q hq => hw q ?_
      simp only [DataW.weights, ht, List.mem_cons, List.mem_append]
      exact .inr (.inl (weightsAll_mem (List.mem_map.2 ⟨i, hi, rfl⟩) q hq))
theorem cellsOp : Try.prog.cellsOf 154 = 3 := by kernel_rfl
theorem cellsStr : Try.prog.cellsOf 9 = 1 := by kernel_rfl
theorem cellsEntry : Try.prog.cellsOf 156 = 5 := by kernel_rfl
theorem cellsBallot : Try.prog.cellsOf 53 = 6 := by kernel_rfl
theorem cellsAnswer : Try.prog.cellsOf 38 = 6 := by kernel_rfl
theorem cellsLog : Try.prog.cellsOf 36 = 1 := by kernel_rfl
structure Et.Ok (x : Et) : Prop where
  c : (Lit.int .i64 x.c).wf = true
  n : (Lit.int .i64 x.n).wf = true
  kd : (Lit.int .i64 x.kd).wf = true
  sl : (Lit.int .i64 x.sl).wf = true
  v : x.v.size ≤ maxLen
set_option maxRecDepth 100000 in
theorem open_op {H : Type} {enc : TypeId × Value → H} {W : World} {sp : Nat → Bool} {held : Bool} {b fuel : Nat} {c0 c1 c2 : Value} {y : DataW H × List MemPlace} (h : DataW.trod enc Try.prog W b sp held fuel 154 [c0, c1, c2] = some y) :
    ∃ (p q : Int) (s : ByteArray), c0 = .int .i64 p ∧ c1 = .int .i64 q ∧ c2 = .string s ∧ (Lit.int .i64 p).wf = true ∧ (Lit.int .i64 q).wf = true ∧ s.size ≤ maxLen := by
  obtain ⟨_, m, hg⟩ := one_fields Try.underlying154 (by kernel_rfl) (by kernel_rfl) h
  obtain ⟨v0, z0, e0, t0⟩ := hg 0 _ rfl
  obtain ⟨v1, z1, e1, t1⟩ := hg 1 _ rfl
  obtain ⟨v2, z2, e2, t2⟩ := hg 2 _ rfl
  obtain ⟨x0, f0, _, w0⟩ := DataW.trod_int Try.underlying3 t0
  obtain ⟨x1, f1, _, w1⟩ := DataW.trod_int Try.underlying3 t1
  obtain ⟨x2, f2, _, w2⟩ := DataW.trod_string Try.underlying9 t2
  simp at e0 e1 e2 f0 f1 f2
  subst e0 e1 e2 f0 f1 f2
  exact ⟨x0, x1, x2, rfl, rfl, rfl, w0, w1, w2⟩
set_option maxRecDepth 100000 in
theorem entry_one {H : Type} {enc : TypeId × Value → H} {W : World} {b fuel : Nat} {sp : Nat → Bool} {held : Bool} {cs : List Value} {y : DataW H × List MemPlace} (h : DataW.trod enc Try.prog W b sp held fuel 156 cs = some y) : ∃ x : Et, cs = x.cells ∧ x.Ok ∧ ((∀ q ∈ y.1.weights Try.prog 156, q ≤ reachBytes) → True) := by
    obtain ⟨xs, n, _, rfl, hl, hlen, hf⟩ := DataW.trod_struct Try.underlying156 h
    rw [cellsEntry] at hl
    match xs, hlen with
    | [y0, y1, y2], _ =>
      match cs, hl with
      | [c0, c1, c2, c3, c4], _ =>
        have h0 : DataW.trod enc Try.prog W b sp held n 3 (([c0, c1, c2, c3, c4].drop 0).take (Try.prog.cellsOf 3)) = some y0 := hf 0 _ rfl
        have h1 : DataW.trod enc Try.prog W b sp held n 3 (([c0, c1, c2, c3, c4].drop 1).take (Try.prog.cellsOf 3)) = some y1 := hf 1 _ rfl
        have h2 : DataW.trod enc Try.prog W b sp held n 154 (([c0, c1, c2, c3, c4].drop 2).take (Try.prog.cellsOf 154)) = some y2 := hf 2 _ rfl
        rw [cellsInt] at h0 h1
        rw [cellsOp] at h2
        obtain ⟨n0, e0, _, w0⟩ := DataW.trod_int Try.underlying3 h0
        obtain ⟨n1, e1, _, w1⟩ := DataW.trod_int Try.underlying3 h1
        obtain ⟨p, q, s, rfl, rfl, rfl, hp, hq, hs⟩ := open_op (show DataW.trod enc Try.prog W b sp held n 154 [c2, c3, c4] = some y2 from h2)
        simp at e0 e1
        subst e0 e1
        exact ⟨⟨n0, n1, p, q, s⟩, rfl, ⟨w0, w1, hp, hq, hs⟩, fun _ => trivial⟩
structure Lt.Ok (x : Lt) : Prop where
  n : (Lit.int .i64 x.n).wf = true
  v : (Lit.int .i64 x.v).wf = true
  c : (Lit.int .i64 x.c).wf = true
  h : x.h < 18446744073709551616
  l : x.l < 18446744073709551616
  log : ∀ e ∈ x.log, e.Ok
/-- a vote and where its log lies -/
abbrev Pt := Lt × Option Addr × Nat
abbrev Pt.cells (p : Pt) : List Value := (p.1.raw p.2.1 p.2.2).cells
structure Pt.Ok (W : World) (p : Pt) : Prop where
  ok : p.1.Ok
  rd : RdC 5 Et.cells W p.2.1 p.1.log.length p.1.log
  cap : p.1.log.length ≤ p.2.2
  non : p.2.1 = none → p.1.log.length = 0 ∧ p.2.2 = 0
def Pt.Sm (p : Pt) : Prop := p.1.log.length * 48 ≤ 140737488351232
theorem Pt.Ok.okL {W : World} {p : Pt} (h : p.Ok W) (hs : p.Sm) : OkL W p.2.1 p.2.2 p.1.log := ⟨h.rd, h.non, by unfold Pt.Sm at hs; omega⟩
set_option maxRecDepth 100000 in
theorem ballot_one {H : Type} {enc : TypeId × Value → H} {W : World} {b fuel : Nat} {sp : Nat → Bool} {held : Bool} {cs : List Value} {y : DataW H × List MemPlace} (h : DataW.trod enc Try.prog W b sp held fuel 53 cs = some y) : ∃ x : Pt, cs = x.cells ∧ x.Ok W ∧ ((∀ q ∈ y.1.weights Try.prog 53, q ≤ reachBytes) → x.Sm) := by
    obtain ⟨xs, n, _, rfl, hl, hlen, hf⟩ := DataW.trod_struct Try.underlying53 h
    rw [cellsBallot] at hl
    match xs, hlen with
    | [y0, y1, y2, y3, y4], _ =>
      match cs, hl with
      | [c0, c1, c2, c3, c4, c5], _ =>
        have h0 : DataW.trod enc Try.prog W b sp held n 3 (([c0, c1, c2, c3, c4, c5].drop 0).take (Try.prog.cellsOf 3)) = some y0 := hf 0 _ rfl
        have h1 : DataW.trod enc Try.prog W b sp held n 27 (([c0, c1, c2, c3, c4, c5].drop 1).take (Try.prog.cellsOf 27)) = some y1 := hf 1 _ rfl
        have h2 : DataW.trod enc Try.prog W b sp held n 3 (([c0, c1, c2, c3, c4, c5].drop 3).take (Try.prog.cellsOf 3)) = some y2 := hf 2 _ rfl
        have h3 : DataW.trod enc Try.prog W b sp held n 3 (([c0, c1, c2, c3, c4, c5].drop 4).take (Try.prog.cellsOf 3)) = some y3 := hf 3 _ rfl
        have h4 : DataW.trod enc Try.prog W b sp held n 36 (([c0, c1, c2, c3, c4, c5].drop 5).take (Try.prog.cellsOf 36)) = some y4 := hf 4 _ rfl
        rw [cellsInt] at h0 h2 h3
        rw [cellsDraw] at h1
        rw [cellsLog] at h4
        obtain ⟨n0, e0, _, w0⟩ := DataW.trod_int Try.underlying3 h0
        obtain ⟨n2, e2, _, w2⟩ := DataW.trod_int Try.underlying3 h2
        obtain ⟨n3, e3, _, w3⟩ := DataW.trod_int Try.underlying3 h3
        obtain ⟨p, q, rfl, rfl, hp, hq⟩ := open_draw (show DataW.trod enc Try.prog W b sp held n 27 [c1, c2] = some y1 from h1)
        obtain ⟨A, m, c, l, e4, r4, cap, non, ok, sm⟩ := open_list_at Try.underlying36 cellsEntry (bytes := 48) (by kernel_rfl) (fun _ => rfl) (fun h => entry_one h) (show DataW.trod enc Try.prog W b sp held n 36 [c5] = some y4 from h4)
        simp at e0 e2 e3 e4
        subst e0 e2 e3 e4
        have hlen := r4.len
        subst hlen
        refine ⟨(⟨n0, p, q, n2, n3, l⟩, A, c), rfl, ⟨⟨w0, w2, w3, hp, hq, ok⟩, r4, cap, non⟩, fun hw => ?_⟩
        refine (sm fun q hq => hw q ?_).1
        simp only [DataW.weights, Try.underlying53]
        exact DataW.weights_mem_each (j := 4) rfl rfl q hq
set_option maxRecDepth 100000 in
theorem answer_one {H : Type} {enc : TypeId × Value → H} {W : World} {b fuel : Nat} {sp : Nat → Bool} {held : Bool} {cs : List Value} {y : DataW H × List MemPlace} (h : DataW.trod enc Try.prog W b sp held fuel 38 cs = some y) : ∃ x : Pt, cs = x.cells ∧ x.Ok W ∧ ((∀ q ∈ y.1.weights Try.prog 38, q ≤ reachBytes) → x.Sm) := by
    obtain ⟨xs, n, _, rfl, hl, hlen, hf⟩ := DataW.trod_struct Try.underlying38 h
    rw [cellsAnswer] at hl
    match xs, hlen with
    | [y0, y1, y2, y3, y4], _ =>
      match cs, hl with
      | [c0, c1, c2, c3, c4, c5], _ =>
        have h0 : DataW.trod enc Try.prog W b sp held n 3 (([c0, c1, c2, c3, c4, c5].drop 0).take (Try.prog.cellsOf 3)) = some y0 := hf 0 _ rfl
        have h1 : DataW.trod enc Try.prog W b sp held n 27 (([c0, c1, c2, c3, c4, c5].drop 1).take (Try.prog.cellsOf 27)) = some y1 := hf 1 _ rfl
        have h2 : DataW.trod enc Try.prog W b sp held n 3 (([c0, c1, c2, c3, c4, c5].drop 3).take (Try.prog.cellsOf 3)) = some y2 := hf 2 _ rfl
        have h3 : DataW.trod enc Try.prog W b sp held n 3 (([c0, c1, c2, c3, c4, c5].drop 4).take (Try.prog.cellsOf 3)) = some y3 := hf 3 _ rfl
        have h4 : DataW.trod enc Try.prog W b sp held n 36 (([c0, c1, c2, c3, c4, c5].drop 5).take (Try.prog.cellsOf 36)) = some y4 := hf 4 _ rfl
        rw [cellsInt] at h0 h2 h3
        rw [cellsDraw] at h1
        rw [cellsLog] at h4
        obtain ⟨n0, e0, _, w0⟩ := DataW.trod_int Try.underlying3 h0
        obtain ⟨n2, e2, _, w2⟩ := DataW.trod_int Try.underlying3 h2
        obtain ⟨n3, e3, _, w3⟩ := DataW.trod_int Try.underlying3 h3
        obtain ⟨p, q, rfl, rfl, hp, hq⟩ := open_draw (show DataW.trod enc Try.prog W b sp held n 27 [c1, c2] = some y1 from h1)
        obtain ⟨A, m, c, l, e4, r4, cap, non, ok, sm⟩ := open_list_at Try.underlying36 cellsEntry (bytes := 48) (by kernel_rfl) (fun _ => rfl) (fun h => entry_one h) (show DataW.trod enc Try.prog W b sp held n 36 [c5] = some y4 from h4)
        simp at e0 e2 e3 e4
        subst e0 e2 e3 e4
        have hlen := r4.len
        subst hlen
        refine ⟨(⟨n0, p, q, n2, n3, l⟩, A, c), rfl, ⟨⟨w0, w2, w3, hp, hq, ok⟩, r4, cap, non⟩, fun hw => ?_⟩
        refine (sm fun q hq => hw q ?_).1
        simp only [DataW.weights, Try.underlying38]
        exact DataW.weights_mem_each (j := 4) rfl rfl q hq
/-- a list of ballots that came in -/
structure VArgBallot {H : Type} (W : World) (A : Option Addr) (n c : Nat) (l : List Pt) (d : DataW H) : Prop where
  rd : RdC 6 Pt.cells W A n l
  cap : n ≤ c
  none : A = .none → n = 0 ∧ c = 0
  ok : ∀ x ∈ l, x.Ok W
  small : ∀ {ts : List TypeId} {ds : List (DataW H)} {j : Nat}, (DataW.weightsEach Try.prog ts ds).all (· ≤ reachBytes) = true → ts[j]? = some 54 → ds[j]? = some d → n * 64 ≤ 140737488351232 ∧ ∀ x ∈ l, x.Sm
set_option maxRecDepth 100000 in
theorem open_ballots {H : Type} {enc : TypeId × Value → H} {W : World} {base : Nat} {v : Value} {d : DataW H} {p : List MemPlace} (hv : Value.okWide Try.prog W .any base 54 v)
    (h : DataW.Trod enc Try.prog W 0 (fun _ => true) true 54 v d p) : ∃ A n c l, v = .slice A n c ∧ VArgBallot W A n c l d := by
  obtain ⟨a, len, cap, rfl⟩ := okWide_slice Try.underlying54 hv
  obtain ⟨fuel, hf⟩ := h
  obtain ⟨A, n, c, l, hcs, rd, cp, non, ok, sm⟩ := open_list_at Try.underlying54 cellsBallot (bytes := 64) (by kernel_rfl) (cells := Pt.cells) (fun _ => rfl) (fun h => ballot_one h) hf
  simp [Value.cells] at hcs
  obtain ⟨rfl, rfl, rfl⟩ := hcs
  exact ⟨_, _, _, l, rfl, rd, cp, non, ok, fun hw ht hd => sm fun q hq => by
    have := List.all_eq_true.1 hw _ (DataW.weights_mem_each ht hd q hq)
    simpa using this⟩
/-- one ballot that came in -/
structure LArgBallot {H : Type} (W : World) (x : Pt) (d : DataW H) : Prop where
  ok : x.Ok W
  small : ∀ {ts : List TypeId} {ds : List (DataW H)} {j : Nat}, (DataW.weightsEach Try.prog ts ds).all (· ≤ reachBytes) = true → ts[j]? = some 53 → ds[j]? = some d → x.Sm
set_option maxRecDepth 100000 in
theorem open_ballot {H : Type} {enc : TypeId × Value → H} {W : World} {base : Nat} {v : Value} {d : DataW H} {p : List MemPlace} (hv : Value.okWide Try.prog W .any base 53 v)
    (h : DataW.Trod enc Try.prog W 0 (fun _ => true) true 53 v d p) : ∃ x : Pt, v = x.1.agg x.2.1 x.2.2 ∧ LArgBallot W x d := by
  obtain ⟨cs, rfl, hsz⟩ := okWide_struct Try.underlying53 hv
  obtain ⟨fuel, hf⟩ := h
  obtain ⟨x, hx, ho, hs⟩ := ballot_one hf
  refine ⟨x, ?_, ho, fun hw ht hd => hs fun q hq => by
    have := List.all_eq_true.1 hw _ (DataW.weights_mem_each ht hd q hq)
    simpa using this⟩
  have : cs = x.cells.toArray := by rw [← hx]; simp [Value.cells]
  rw [this]
/-- a list of answers that came in -/
structure VArgAnswer {H : Type} (W : World) (A : Option Addr) (n c : Nat) (l : List Pt) (d : DataW H) : Prop where
  rd : RdC 6 Pt.cells W A n l
  cap : n ≤ c
  none : A = .none → n = 0 ∧ c = 0
  ok : ∀ x ∈ l, x.Ok W
  small : ∀ {ts : List TypeId} {ds : List (DataW H)} {j : Nat}, (DataW.weightsEach Try.prog ts ds).all (· ≤ reachBytes) = true → ts[j]? = some 35 → ds[j]? = some d → n * 64 ≤ 140737488351232 ∧ ∀ x ∈ l, x.Sm
set_option maxRecDepth 100000 in
theorem open_answers {H : Type} {enc : TypeId × Value → H} {W : World} {base : Nat} {v : Value} {d : DataW H} {p : List MemPlace} (hv : Value.okWide Try.prog W .any base 35 v)
    (h : DataW.Trod enc Try.prog W 0 (fun _ => true) true 35 v d p) : ∃ A n c l, v = .slice A n c ∧ VArgAnswer W A n c l d := by
  obtain ⟨a, len, cap, rfl⟩ := okWide_slice Try.underlying35 hv
  obtain ⟨fuel, hf⟩ := h
  obtain ⟨A, n, c, l, hcs, rd, cp, non, ok, sm⟩ := open_list_at Try.underlying35 cellsAnswer (bytes := 64) (by kernel_rfl) (cells := Pt.cells) (fun _ => rfl) (fun h => answer_one h) hf
  simp [Value.cells] at hcs
  obtain ⟨rfl, rfl, rfl⟩ := hcs
  exact ⟨_, _, _, l, rfl, rd, cp, non, ok, fun hw ht hd => sm fun q hq => by
    have := List.all_eq_true.1 hw _ (DataW.weights_mem_each ht hd q hq)
    simpa using this⟩
/-- one answer that came in -/
structure LArgAnswer {H : Type} (W : World) (x : Pt) (d : DataW H) : Prop where
  ok : x.Ok W
  small : ∀ {ts : List TypeId} {ds : List (DataW H)} {j : Nat}, (DataW.weightsEach Try.prog ts ds).all (· ≤ reachBytes) = true → ts[j]? = some 38 → ds[j]? = some d → x.Sm
set_option maxRecDepth 100000 in
theorem open_answer {H : Type} {enc : TypeId × Value → H} {W : World} {base : Nat} {v : Value} {d : DataW H} {p : List MemPlace} (hv : Value.okWide Try.prog W .any base 38 v)
    (h : DataW.Trod enc Try.prog W 0 (fun _ => true) true 38 v d p) : ∃ x : Pt, v = x.1.agg x.2.1 x.2.2 ∧ LArgAnswer W x d := by
  obtain ⟨cs, rfl, hsz⟩ := okWide_struct Try.underlying38 hv
  obtain ⟨fuel, hf⟩ := h
  obtain ⟨x, hx, ho, hs⟩ := answer_one hf
  refine ⟨x, ?_, ho, fun hw ht hd => hs fun q hq => by
    have := List.all_eq_true.1 hw _ (DataW.weights_mem_each ht hd q hq)
    simpa using this⟩
  have : cs = x.cells.toArray := by rw [← hx]; simp [Value.cells]
  rw [this]
/-- what came in stands -/
theorem rdV_of {W : World} {A : Option Addr} {n : Nat} {l : List Pt} (h : RdC 6 Pt.cells W A n l) (ok : ∀ x ∈ l, x.Ok W) (sm : ∀ x ∈ l, x.Sm) : RdV W A n (l.map (·.1)) := by
  refine ⟨l.map fun p => p.1.raw p.2.1 p.2.2, ⟨by rw [List.length_map]; exact h.len, h.le, fun j x hj => ?_⟩, by rw [List.length_map, List.length_map], fun i x hx => ?_⟩
  · rw [List.getElem?_map, Option.map_eq_some_iff] at hj
    obtain ⟨p, hp, rfl⟩ := hj
    exact h.cell j p hp
  · rw [List.getElem?_map, Option.map_eq_some_iff] at hx
    obtain ⟨p, hp, rfl⟩ := hx
    have hm := List.mem_of_getElem? hp
    exact ⟨p.2.1, p.2.2, by rw [List.getElem?_map, hp]; rfl, (ok p hm).okL (sm p hm)⟩
end Go.Proofs.Ytjjobgolpedgeaa
