/-
  Words for slices of plain structs in memory: what reads, what is owned, opening arguments. No program's function is walked here.
-/
import Derived.Test.YtgmmpbiideeikaaNBase
import Derived.Test.YtgmmpbiideeikaaRows
import Derived.ProofKit
import Derived.OpenShut
import Derived.SizedLaws
import Derived.Carry
import Derived.Deep.Slices
import Derived.Lib.SmallJoins
set_option linter.unusedVariables false
set_option linter.unusedSimpArgs false
namespace Go.Proofs.Ytgmmpbiideeikaa
open Go.ChangeShapes Go.WideShapes Go.ChangeAt Go.RowKit

theorem own : ownKnob Try.prog.godebug = none := by kernel_rfl
theorem laidOut : laidOutB Try.prog = true := by kernel_rfl

/-! ### a slice of plain structs that reads -/
structure RdC {α : Type} (size : Nat) (cells : α → List Value) (w : World) (A : Option Addr) (n : Nat) (l : List α) : Prop where
  len : l.length = n
  le : n ≤ 9223372036854775807
  cell : ∀ j x, l[j]? = some x → ∃ ad, A = some ad ∧ ∀ i u, (cells x)[i]? = some u → w.cell? (ad.add (j * size + i)) = some u
theorem RdC.below {α : Type} {size : Nat} {cells : α → List Value} {w w1 : World} {A : Option Addr} {n : Nat} {l : List α} (h : RdC size cells w A n l) (hb : Below w.heap.size w w1) : RdC size cells w1 A n l :=
  ⟨h.len, h.le, fun j x hj => by
    obtain ⟨ad, e, hc⟩ := h.cell j x hj
    exact ⟨ad, e, fun i u hu => (hb.cell (World.block_lt_of_cell? w _ (hc i u hu))).trans (hc i u hu)⟩⟩
structure SArg {α H : Type} (P : Program) (W : World) (t : TypeId) (size bytes : Nat) (cells : α → List Value) (Ok : α → Prop) (A : Option Addr) (n c : Nat) (l : List α) (d : DataW H) : Prop where
  rd : RdC size cells W A n l
  cap : n ≤ c
  none : A = .none → n = 0 ∧ c = 0
  ok : ∀ x ∈ l, Ok x
  small : ∀ {ts : List TypeId} {ds : List (DataW H)} {j : Nat}, (DataW.weightsEach P ts ds).all (· ≤ reachBytes) = true → ts[j]? = some t → ds[j]? = some d → n * bytes ≤ 140737488351232
set_option maxRecDepth 100000 in
theorem open_list {α : Type} [Inhabited α] {H : Type} {P : Program} {enc : TypeId × Value → H} {W : World} {base : Nat} {v : Value} {d : DataW H} {p : List MemPlace} {t e : TypeId} {size bytes : Nat} {cells : α → List Value} {Ok : α → Prop}
    (ht : P.underlying t = some (.slice e)) (hC : P.cellsOf e = size) (hB : P.bytesOf e = bytes) (hcl : ∀ x : α, (cells x).length = size)
    (one : ∀ {b fuel : Nat} {sp : Nat → Bool} {held : Bool} {cs : List Value} {y : DataW H × List MemPlace}, DataW.trod enc P W b sp held fuel e cs = some y → ∃ x : α, cs = cells x ∧ Ok x)
    (hv : Value.okWide P W .any base t v) (h : DataW.Trod enc P W 0 (fun _ => true) true t v d p) : ∃ A n c l, v = .slice A n c ∧ SArg P W t size bytes cells Ok A n c l d := by
  obtain ⟨a, len, cap, rfl⟩ := okWide_slice ht hv
  obtain ⟨fuel, hf⟩ := h
  rcases Deep.open_slice ht hf with ⟨hcs, hx⟩ | ⟨x, l, c, m, n, D, Pl, hcs, _, hl, hm, hmm, hx, hel⟩
  · simp [Value.cells] at hcs
    obtain ⟨rfl, rfl, rfl⟩ := hcs
    simp only [Prod.mk.injEq] at hx
    obtain ⟨rfl, _⟩ := hx
    exact ⟨none, 0, 0, [], rfl, ⟨rfl, Nat.zero_le _, fun j x hj => by simp at hj⟩, Nat.le_refl _, fun _ => ⟨rfl, rfl⟩, fun _ hx => by simp at hx, fun _ _ _ => by simp⟩
  · simp [Value.cells] at hcs
    obtain ⟨rfl, rfl, rfl⟩ := hcs
    simp only [Prod.mk.injEq] at hx
    obtain ⟨rfl, _⟩ := hx
    have hlm : len ≤ m := by simp at hmm; omega
    rw [hC] at hel
    obtain ⟨X, hX⟩ : ∃ X : Nat → α, ∀ i, i < len → W.cells? 0 (x.add (i * size)) size = some (cells (X i)) ∧ Ok (X i) := Deep.choose_lt (α := α) (n := len) (p := fun i x' => W.cells? 0 (x.add (i * size)) size = some (cells x') ∧ Ok x') (fun i hi => by
      obtain ⟨cs', h1, h2⟩ := hel i (by omega)
      obtain ⟨y, rfl, ho⟩ := one h2
      exact ⟨y, h1, ho⟩)
    refine ⟨some x, len, cap, (List.range len).map X, rfl, ⟨by simp, by simp only [maxLen] at hm; omega, ?_⟩, hl, (fun e => by cases e), ?_, ?_⟩
    · intro j y hj
      simp only [List.getElem?_map, Option.map_eq_some_iff] at hj
      obtain ⟨i, hi, rfl⟩ := hj
      have hil := (List.getElem?_eq_some_iff.1 hi).1
      simp at hil
      have hij : i = j := by rw [List.getElem?_range hil] at hi; simpa using hi.symm
      subst hij
      refine ⟨x, rfl, fun q u hu => ?_⟩
      obtain ⟨_, _, h3⟩ := World.cells?_some (hX i hil).1
      rw [← add_add]
      have hq : q < size := by
        have := (List.getElem?_eq_some_iff.1 hu).1
        rwa [hcl] at this
      exact (h3 q hq).trans hu
    · intro y hy
      obtain ⟨i, hi, rfl⟩ := List.mem_map.1 hy
      exact (hX i (by simpa using hi)).2
    · intro ts ds j hw ht2 hd
      have := sized_slice hw ht2 hd ht
      rw [hB] at this
      simp only [reachBytes, List.length_map, List.length_range] at this
      exact Nat.le_trans (Nat.mul_le_mul_right _ (Nat.le_add_right _ _)) this
/-- a plain struct's cells, one by one -/
theorem one_fields {H : Type} {enc : TypeId × Value → H} {P : Program} {w : World} {base : Nat} {spare : Nat → Bool} {held : Bool} {e : TypeId} {fs : Array Field} {fuel : Nat} {cs : List Value} {y : DataW H × List MemPlace}
    (he : P.underlying e = some (.struct fs)) (hone : Deep.oneCellFields P fs = true) (hC : P.cellsOf e = fs.size) (h : DataW.trod enc P w base spare held fuel e cs = some y) :
    cs.length = fs.size ∧ ∃ n, ∀ (j : Nat) (f : Field), fs[j]? = some f → ∃ (v : Value) (y : DataW H × List MemPlace), cs[j]? = some v ∧ DataW.trod enc P w base spare held n f.type [v] = some y := by
  obtain ⟨ys, n', hn', hy, hlen, hyl, hf⟩ := DataW.trod_struct he h
  rw [hC] at hlen
  refine ⟨hlen, n', fun j f hj => ?_⟩
  obtain ⟨ho, hk⟩ := Deep.hone_of hone j f hj
  have hjl : j < fs.size := (Array.getElem?_eq_some_iff.1 hj).1
  have h1 := hf j f hj
  rw [ho, hk] at h1
  have hone' : (cs.drop j).take 1 = [cs[j]'(by omega)] := by
    rw [List.drop_eq_getElem_cons (by omega)]
    rfl
  rw [hone'] at h1
  have hys : ys[j]? = some (ys[j]'(by omega)) := List.getElem?_eq_getElem (by omega)
  exact ⟨_, _, List.getElem?_eq_getElem (by omega), h1.trans hys⟩


theorem RdC.grown {α : Type} {size : Nat} {cells : α → List Value} {w w1 : World} {A : Option Addr} {n : Nat} {l : List α} {row : Option Nat} (h : RdC size cells w A n l) (hg : w.grownBy w1 row) (hne : ∀ ad, A = some ad → some ad.block ≠ row) : RdC size cells w1 A n l :=
  ⟨h.len, h.le, fun j x hj => by
    obtain ⟨ad, e, hc⟩ := h.cell j x hj
    exact ⟨ad, e, fun i u hu => hg.cell (hc i u hu) (by rw [add_block]; exact hne ad e)⟩⟩
theorem RdC.drewN {α : Type} {size : Nat} {cells : α → List Value} {w : World} {A : Option Addr} {n : Nat} {l : List α} (h : RdC size cells w A n l) (k : Nat) : RdC size cells (w.drewN k) A n l :=
  ⟨h.len, h.le, fun j x hj => h.cell j x hj⟩
theorem RdC.nil {α : Type} (size : Nat) (cells : α → List Value) (w : World) (A : Option Addr) : RdC size cells w A 0 [] := ⟨rfl, Nat.zero_le _, fun j x hj => by simp at hj⟩
theorem RdC.take {α : Type} {size : Nat} {cells : α → List Value} {w : World} {A : Option Addr} {n : Nat} {L : List α} (h : RdC size cells w A n L) (k : Nat) (hk : k ≤ n) : RdC size cells w A k (L.take k) := by
  have := h.le
  refine ⟨by rw [List.length_take, h.len]; omega, by omega, fun j x hj => ?_⟩
  have hjk : j < k := by
    have := (List.getElem?_eq_some_iff.1 hj).1
    rw [List.length_take] at this
    omega
  rw [List.getElem?_take, if_pos hjk] at hj
  exact h.cell j x hj

/-! ### lists of cells -/
section
variable {α : Type} {size : Nat} {cells : α → List Value}
def CL (cells : α → List Value) (L : List α) : List Value := L.flatMap cells
theorem CL_len (hcl : ∀ x, (cells x).length = size) (L : List α) : (CL cells L).length = L.length * size := by
  induction L with
  | nil => simp [CL]
  | cons x L ih =>
    simp only [CL, List.flatMap_cons, List.length_append, List.length_cons] at ih ⊢
    rw [ih, hcl, Nat.succ_mul, Nat.add_comm]
theorem CL_append (L M : List α) : CL cells (L ++ M) = CL cells L ++ CL cells M := by simp [CL]
theorem CL_one (h1 : ∀ x, ∀ u ∈ cells x, u.oneCell' = true) (L : List α) : ∀ u ∈ CL cells L, u.oneCell' = true := by
  intro u hu
  obtain ⟨x, _, hx⟩ := List.mem_flatMap.1 hu
  exact h1 x u hx
theorem CL_get (hcl : ∀ x, (cells x).length = size) (L : List α) : ∀ (j : Nat) (x : α), L[j]? = some x → ∀ i u, (cells x)[i]? = some u → (CL cells L)[j * size + i]? = some u := by
  induction L with
  | nil => intro j x h; simp at h
  | cons y L ih =>
    intro j x h i u hu
    have hi : i < size := by have := (List.getElem?_eq_some_iff.1 hu).1; rwa [hcl] at this
    cases j with
    | zero =>
      simp at h
      subst h
      simp only [CL, List.flatMap_cons]
      rw [List.getElem?_append_left (by rw [hcl]; omega)]
      simpa using hu
    | succ j =>
      simp at h
      simp only [CL, List.flatMap_cons]
      have e : (j + 1) * size + i = size + (j * size + i) := by rw [Nat.succ_mul]; omega
      rw [List.getElem?_append_right (by rw [hcl, e]; omega)]
      have h2 : (j + 1) * size + i - (cells y).length = j * size + i := by rw [hcl, e]; omega
      rw [h2]
      exact ih j x h i u hu
theorem rdc_own (hcl : ∀ x, (cells x).length = size) {w : World} {base n : Nat} {e : TypeId} {A : Option Addr} {c : Nat} {L : List α} (h : w.ownsRow base e size (.slice A n c) n (CL cells L)) (hl : L.length = n) : RdC size cells w A n L := by
  rcases h.2 with ⟨hv, h0⟩ | ⟨g, cap, cur, hv, hb, hh, h1, h2, _⟩
  · subst h0
    exact ⟨hl, by omega, fun j x hj => by have := (List.getElem?_eq_some_iff.1 hj).1; omega⟩
  · cases hv
    exact ⟨hl, by simp only [maxLen] at h2; omega, fun j x hj => ⟨_, rfl, fun i u hu => h.cells (g := g) rfl _ _ (CL_get hcl L j x hj i u hu)⟩⟩
theorem rdc_news (hs : 0 < size) (hcl : ∀ x, (cells x).length = size) {w : World} {A : Option Addr} {n : Nat} {L : List α} (h : RdC size cells w A n L) : ∀ ad, A = some ad → ∀ (j : Nat) (u : Value), (CL cells L)[j]? = some u → w.cell? (ad.add j) = some u := by
  rintro ad rfl j u hu
  have hj : j < L.length * size := by
    have := (List.getElem?_eq_some_iff.1 hu).1
    rwa [CL_len hcl] at this
  have hq : j / size < L.length := Nat.div_lt_of_lt_mul (by rw [Nat.mul_comm]; exact hj)
  obtain ⟨x, hx⟩ : ∃ x, L[j / size]? = some x := ⟨_, List.getElem?_eq_getElem hq⟩
  obtain ⟨ad', e, hc⟩ := h.cell _ x hx
  cases e
  have hjm : j / size * size + j % size = j := by rw [Nat.mul_comm]; exact Nat.div_add_mod j size
  have h2 : (cells x)[j % size]? = some u := by
    obtain ⟨v, hv⟩ : ∃ v, (cells x)[j % size]? = some v := ⟨_, List.getElem?_eq_getElem (by rw [hcl]; exact Nat.mod_lt _ hs)⟩
    have := CL_get hcl L _ x hx _ v hv
    rw [hjm, hu] at this
    rw [hv, this]
  have := hc _ u h2
  rwa [hjm] at this
end
theorem fresh_news (w : World) (C : Array Value) (t : TypeId) : ∀ ad, some (⟨w.heap.size, 0, none⟩ : Addr) = some ad → ∀ (j : Nat) (u : Value), C.toList[j]? = some u → (w.alloc (.cells C t)).cell? (ad.add j) = some u := by
  intro ad e
  cases e
  exact World.news_of_block (cs := C) (t := t) (fr := (0, 0)) (heap_alloc_new w _)
/-! ### what a world changes: the blocks in S alone -/
structure Chg (S : Nat → Prop) (w w' : World) : Prop where
  os : w'.os = w.os
  tape : w'.tape = w.tape
  output : w'.output = w.output
  size : w.heap.size ≤ w'.heap.size
  block : ∀ k, k < w.heap.size → ¬ S k → w'.heap[k]? = w.heap[k]?
theorem Ob.chg {S : Nat → Prop} {w w' : World} {b : Nat} {cs : List Value} (h : Ob w b cs) (hc : Chg S w w') (hb : ¬ S b) : Ob w' b cs := fun j v hv => by
  have h1 := h j v hv
  have hb : w'.heap[b]? = w.heap[b]? := hc.block b (World.block_lt_of_cell? w _ h1.1) hb
  exact ⟨(World.cell?_of_block (a := ⟨b, j, none⟩) hb).trans h1.1, (World.frozen?_of_block (a := ⟨b, j, none⟩) hb).trans h1.2⟩
theorem Chg.refl (S : Nat → Prop) (w : World) : Chg S w w := ⟨rfl, rfl, rfl, Nat.le_refl _, fun _ _ _ => rfl⟩
theorem Chg.grown {S : Nat → Prop} {w a b : World} {row : Option Nat} (h : Chg S w a) (g : a.grownBy b row) (hr : ∀ j, row = some j → S j ∨ w.heap.size ≤ j) : Chg S w b :=
  ⟨g.os.trans h.os, g.tape.trans h.tape, g.output.trans h.output, Nat.le_trans h.size g.size, fun k hk hS => (g.block k (Nat.lt_of_lt_of_le hk h.size) (fun e => by rcases hr k e.symm with h1 | h1; { exact hS h1 }; { omega })).trans (h.block k hk hS)⟩
theorem Chg.mono {S S' : Nat → Prop} {w w' : World} (h : Chg S w w') (hS : ∀ k, S k → S' k) : Chg S' w w' := ⟨h.os, h.tape, h.output, h.size, fun k hk hn => h.block k hk (fun e => hn (hS k e))⟩
theorem Chg.trans {S : Nat → Prop} {w a w' : World} (h : Chg S w a) (g : Chg (fun k => S k ∨ w.heap.size ≤ k) a w') : Chg S w w' :=
  ⟨g.os.trans h.os, g.tape.trans h.tape, g.output.trans h.output, Nat.le_trans h.size g.size, fun k hk hS => (g.block k (Nat.lt_of_lt_of_le hk h.size) (fun e => by rcases e with e | e; { exact hS e }; { omega })).trans (h.block k hk hS)⟩
theorem own_chg {S : Nat → Prop} {w w' : World} {base size n : Nat} {e : TypeId} {v : Value} {xs : List Value} (h : w.ownsRow base e size v n xs) (hc : Chg S w w') (hb : ∀ j, v.ownBlock = some j → ¬ S j) : w'.ownsRow base e size v n xs := by
  rcases h.2 with hn | ⟨g, cap, cur, rfl, h1, h2, rest⟩
  · exact ⟨h.1, .inl hn⟩
  · exact ⟨h.1, .inr ⟨g, cap, cur, rfl, h1, (hc.block g (Array.getElem?_eq_some_iff.1 h2).1 (hb g rfl)).trans h2, rest⟩⟩
theorem take_next {α : Type} {L : List α} {k : Nat} {x : α} (h : L[k]? = some x) : L.take (k + 1) = L.take k ++ [x] := by
  obtain ⟨hi, e⟩ := List.getElem?_eq_some_iff.1 h
  rw [List.take_succ_eq_append_getElem hi, e]
theorem CL_push {α : Type} (cells : α → List Value) (L : List α) (x : α) : CL cells (L ++ [x]) = CL cells L ++ cells x := by simp [CL]
theorem CL_nil {α : Type} (cells : α → List Value) : CL cells [] = [] := rfl
/-- a list of its own is returned: new memory, nothing old changed -/
def RetL {α : Type} (e : TypeId) (size : Nat) (cells : α → List Value) (W : World) (L : List α) (x : Ending) (w' : World) : Prop :=
  ∃ A c, x = .returned (.slice A L.length c) ∧ Below W.heap.size W w' ∧ w'.ownsRow W.heap.size e size (.slice A L.length c) L.length (CL cells L)
/-- what an append to one's own list leaves: below the base nothing -/
theorem below_own {B : Nat} {W w w1 : World} {e : TypeId} {size n : Nat} {v : Value} {xs : List Value} (hb : Below B W w) (hB : B ≤ w.heap.size) (ho : w.ownsRow B e size v n xs) (g : w.grownBy w1 v.ownBlock) : Below B W w1 :=
  hb.trans ⟨g.os, g.tape, g.output, g.size, fun q hq => g.block q (by omega) (fun e => by have := (ho.lt q e.symm).1; omega)⟩
theorem own_kept {B : Nat} {w w1 : World} {e : TypeId} {size n : Nat} {v : Value} {xs : List Value} (ho : w.ownsRow B e size v n xs) (hb : Below w.heap.size w w1) : w1.ownsRow B e size v n xs :=
  ho.kept (grown_of_below hb none) (by cases v.ownBlock <;> simp)
theorem own_mono {w : World} {B B' : Nat} {e : TypeId} {size n : Nat} {v : Value} {xs : List Value} (h : w.ownsRow B' e size v n xs) (hb : B ≤ B') : w.ownsRow B e size v n xs := by
  refine ⟨h.1, ?_⟩
  rcases h.2 with h1 | ⟨g, cap, cur, hv, hg, r⟩
  · exact .inl h1
  · exact .inr ⟨g, cap, cur, hv, Nat.le_trans hb hg, r⟩
theorem results_cell1 {P : Program} {fn : Func} {p : Tmp} {ty : TypeId} (h : fn.results = #[.cell p ty]) (tmps : Array Value) (w : World) :
    (results fn tmps).run P w = ((asAddr (tmps.getD p undef)).run P w).andThen fun a w₁ => (loadVar ty a).run P w₁ := by
  simp only [results, h]
  simp [Sem.run_bind, Result.andThen]
/-- a struct is returned out of a block that is known cell by cell -/
theorem ret_cells1 {P : Program} {fn : Func} {p : Tmp} {ty : TypeId} (h : fn.results = #[.cell p ty]) {R : Ending → World → Prop} {a : Act} {w : World} {b : Nat} {cs : List Value} {fs : Array Field}
    (hu : P.underlying ty = some (.struct fs)) (hi : (P.info? ty).map (·.size) = some cs.length) (ht : a.tmps.getD p undef = .pointer (some ⟨b, 0, none⟩)) (hc : Ob w b cs) (hd : a.defers = [])
    (hR : R (.returned (.agg cs.toArray)) w) : bodyPost P fn R .ret a w := by
  refine bodyPost_ret (v := .agg cs.toArray) ?_ hd hR
  rw [results_cell1 h, ht]
  have h1 : (asAddr (.pointer (some ⟨b, 0, none⟩))).run P w = .ok ⟨b, 0, none⟩ w := rfl
  rw [h1, Result.andThen_ok, run_loadVar_cells w ⟨b, 0, none⟩ ty cs _ hc.adds hu rfl hi]
end Go.Proofs.Ytgmmpbiideeikaa
