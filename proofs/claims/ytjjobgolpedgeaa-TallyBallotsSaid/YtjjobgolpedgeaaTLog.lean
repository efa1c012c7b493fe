/-
  Ballots and answers with their logs: the votes as they read, in whatever blocks the logs lie.
-/
import Derived.Test.YtjjobgolpedgeaaTSettle
import Derived.Test.YtjjobgolpedgeaaTRise
set_option linter.unusedVariables false
set_option linter.unusedSimpArgs false
namespace Go.Proofs.Ytjjobgolpedgeaa
open Go.RowKit

/-- a ballot or an answer with its log -/
structure Lt where
  n : Int
  h : Nat
  l : Nat
  v : Int
  c : Int
  log : List Et
instance : Inhabited Lt := ⟨⟨0, 0, 0, 0, 0, []⟩⟩
abbrev Lt.raw (x : Lt) (A : Option Addr) (k : Nat) : Bt := ⟨x.n, x.h, x.l, x.v, x.c, A, x.log.length, k⟩
abbrev Lt.agg (x : Lt) (A : Option Addr) (k : Nat) : Value := .agg #[.int .i64 x.n, .int .u64 (x.h : Nat), .int .u64 (x.l : Nat), .int .i64 x.v, .int .i64 x.c, .slice A x.log.length k]
def Lt.wins (x y : Lt) : Bool := (x.raw none 0).wins (y.raw none 0)
def Bt.abs (lg : Bt → List Et) (r : Bt) : Lt := ⟨r.n, r.h, r.l, r.v, r.c, lg r⟩
theorem Et.inj {x y : Et} (h : ∀ i : Nat, x.cells[i]? = y.cells[i]?) : x = y := by
  have h0 := h 0; have h1 := h 1; have h2 := h 2; have h3 := h 3; have h4 := h 4
  obtain ⟨a, b, c, d, e⟩ := x
  obtain ⟨a', b', c', d', e'⟩ := y
  simp [Et.cells] at h0 h1 h2 h3 h4
  subst h0 h1 h2 h3 h4
  rfl
theorem rdEt_one {w : World} {A : Option Addr} {n : Nat} {L M : List Et} (h : RdC 5 Et.cells w A n L) (g : RdC 5 Et.cells w A n M) : L = M := by
  refine List.ext_getElem? fun j => ?_
  cases hx : L[j]? with
  | none =>
    have h1 := List.getElem?_eq_none_iff.1 hx
    exact (List.getElem?_eq_none_iff.2 (by rw [g.len, ← h.len]; exact h1)).symm
  | some x =>
    have h1 := (List.getElem?_eq_some_iff.1 hx).1
    obtain ⟨y, hy⟩ : ∃ y, M[j]? = some y := ⟨_, List.getElem?_eq_getElem (by rw [g.len, ← h.len]; exact h1)⟩
    obtain ⟨ad, rfl, hc⟩ := h.cell j x hx
    obtain ⟨ad', e, hd⟩ := g.cell j y hy
    cases e
    rw [hy]
    congr 1
    refine Et.inj fun i => ?_
    cases hu : x.cells[i]? with
    | none =>
      have : y.cells[i]? = none := by
        have h2 := List.getElem?_eq_none_iff.1 hu
        exact List.getElem?_eq_none_iff.2 h2
      rw [this]
    | some u =>
      have h2 := (List.getElem?_eq_some_iff.1 hu).1
      obtain ⟨v, hv⟩ : ∃ v, y.cells[i]? = some v := ⟨_, List.getElem?_eq_getElem (show i < y.cells.length from h2)⟩
      have h3 := hc i u hu
      rw [hd i v hv] at h3
      rw [hv, h3]
/-- the log that a raw vote has in a world -/
noncomputable def lgAt (w : World) (r : Bt) : List Et :=
  if (Classical.epsilon fun l => RdC 5 Et.cells w r.A r.m l).length = r.m then Classical.epsilon fun l => RdC 5 Et.cells w r.A r.m l else List.replicate r.m default
theorem lgAt_len (w : World) (r : Bt) : (lgAt w r).length = r.m := by
  unfold lgAt
  by_cases h : (Classical.epsilon fun l => RdC 5 Et.cells w r.A r.m l).length = r.m
  · rw [if_pos h]; exact h
  · rw [if_neg h, List.length_replicate]
theorem lgAt_eq {w : World} {r : Bt} {l : List Et} (h : RdC 5 Et.cells w r.A r.m l) : lgAt w r = l := by
  have e : (Classical.epsilon fun l => RdC 5 Et.cells w r.A r.m l) = l := rdEt_one (Classical.epsilon_spec (p := fun l => RdC 5 Et.cells w r.A r.m l) ⟨l, h⟩) h
  unfold lgAt
  rw [e, if_pos h.len]
/-- a log in memory -/
structure OkL (w : World) (A : Option Addr) (k : Nat) (log : List Et) : Prop where
  rd : RdC 5 Et.cells w A log.length log
  non : A = none → log.length = 0 ∧ k = 0
  small : log.length * 48 ≤ 140737488355328
theorem OkL.nil (w : World) : OkL w none 0 [] := ⟨RdC.nil _ _ _ _, fun _ => ⟨rfl, rfl⟩, by simp⟩
theorem OkL.below {w w' : World} {A : Option Addr} {k : Nat} {log : List Et} (h : OkL w A k log) (hb : Below w.heap.size w w') : OkL w' A k log := ⟨h.rd.below hb, h.non, h.small⟩
theorem OkL.drewN {w : World} {A : Option Addr} {k : Nat} {log : List Et} (h : OkL w A k log) (q : Nat) : OkL (w.drewN q) A k log := ⟨h.rd.drewN q, h.non, h.small⟩
theorem OkL.ok {w : World} {A : Option Addr} {k : Nat} {x : Lt} (h : OkL w A k x.log) : LgOk (lgAt w) w (x.raw A k) ∧ (x.raw A k).abs (lgAt w) = x := by
  have e := lgAt_eq (r := x.raw A k) h.rd
  refine ⟨⟨by rw [e]; exact h.rd, h.non, h.small⟩, ?_⟩
  unfold Bt.abs
  rw [e]
theorem OkL.of {lg : Bt → List Et} {w : World} {r : Bt} (h : LgOk lg w r) : OkL w r.A r.k (lg r) ∧ r = (r.abs lg).raw r.A r.k := by
  have e := h.1.len
  refine ⟨⟨by rw [e]; exact h.1, fun ha => by rw [e]; exact h.2.1 ha, by rw [e]; exact h.2.2⟩, ?_⟩
  simp only [Lt.raw, Bt.abs, e]
/-- the votes V stand in memory -/
def RdV (w : World) (A : Option Addr) (n : Nat) (V : List Lt) : Prop :=
  ∃ R : List Bt, RdC 6 Bt.cells w A n R ∧ R.length = V.length ∧ ∀ (i : Nat) (x : Lt), V[i]? = some x → ∃ (B : Option Addr) (k : Nat), R[i]? = some (x.raw B k) ∧ OkL w B k x.log
theorem RdV.len {w : World} {A : Option Addr} {n : Nat} {V : List Lt} (h : RdV w A n V) : V.length = n := by
  obtain ⟨R, h1, h2, _⟩ := h
  rw [← h2, h1.len]
theorem RdV.le {w : World} {A : Option Addr} {n : Nat} {V : List Lt} (h : RdV w A n V) : n ≤ 9223372036854775807 := by
  obtain ⟨R, h1, h2, _⟩ := h
  exact h1.le
theorem RdV.nil (w : World) (A : Option Addr) : RdV w A 0 [] := ⟨[], RdC.nil _ _ _ _, rfl, fun i x h => by simp at h⟩
theorem RdV.below {w w' : World} {A : Option Addr} {n : Nat} {V : List Lt} (h : RdV w A n V) (hb : Below w.heap.size w w') : RdV w' A n V := by
  obtain ⟨R, h1, h2, h3⟩ := h
  exact ⟨R, h1.below hb, h2, fun i x hx => by obtain ⟨B, k, e, ho⟩ := h3 i x hx; exact ⟨B, k, e, ho.below hb⟩⟩
theorem RdV.drewN {w : World} {A : Option Addr} {n : Nat} {V : List Lt} (h : RdV w A n V) (q : Nat) : RdV (w.drewN q) A n V := h.below (Below.drewN (Below.refl _ _) q)
theorem RdV.atV {w : World} {A : Option Addr} {n : Nat} {V : List Lt} (h : RdV w A n V) {k : Nat} {x : Lt} (hx : V[k]? = some x) :
    ∃ ad B j, A = some ad ∧ OkL w B j x.log ∧ w.cell? (ad.add (k * 6)) = some (.int .i64 x.n) ∧ w.cell? ⟨(ad.add (k * 6)).block, (ad.add (k * 6)).off + 1, none⟩ = some (.int .u64 (x.h : Nat)) ∧ w.cell? ⟨(ad.add (k * 6)).block, (ad.add (k * 6)).off + 2, none⟩ = some (.int .u64 (x.l : Nat)) ∧ w.cell? ⟨(ad.add (k * 6)).block, (ad.add (k * 6)).off + 3, none⟩ = some (.int .i64 x.v) ∧ w.cell? ⟨(ad.add (k * 6)).block, (ad.add (k * 6)).off + 4, none⟩ = some (.int .i64 x.c) ∧ w.cell? ⟨(ad.add (k * 6)).block, (ad.add (k * 6)).off + 5, none⟩ = some (.slice B x.log.length j) := by
  obtain ⟨R, h1, h2, h3⟩ := h
  obtain ⟨B, j, e, ho⟩ := h3 k x hx
  obtain ⟨ad, ha, q⟩ := h1.atBt e
  exact ⟨ad, B, j, ha, ho, q⟩
theorem RdV.of {lg : Bt → List Et} {w : World} {A : Option Addr} {n : Nat} {R : List Bt} (h : RdC 6 Bt.cells w A n R) (ho : ∀ r ∈ R, LgOk lg w r) : RdV w A n (R.map (Bt.abs lg)) := by
  refine ⟨R, h, by simp, fun i x hx => ?_⟩
  rw [List.getElem?_map, Option.map_eq_some_iff] at hx
  obtain ⟨r, hr, rfl⟩ := hx
  obtain ⟨h1, h2⟩ := OkL.of (ho r (List.mem_of_getElem? hr))
  exact ⟨r.A, r.k, by rw [← h2]; exact hr, h1⟩
/-- the raw list behind -/
theorem RdV.raws {w : World} {A : Option Addr} {n : Nat} {V : List Lt} (h : RdV w A n V) : ∃ R : List Bt, RdC 6 Bt.cells w A n R ∧ (∀ r ∈ R, LgOk (lgAt w) w r) ∧ R.map (Bt.abs (lgAt w)) = V := by
  obtain ⟨R, h1, h2, h3⟩ := h
  have key : ∀ (i : Nat) (r : Bt), R[i]? = some r → LgOk (lgAt w) w r ∧ V[i]? = some (r.abs (lgAt w)) := by
    intro i r hr
    have hi := (List.getElem?_eq_some_iff.1 hr).1
    obtain ⟨x, hx⟩ : ∃ x, V[i]? = some x := ⟨_, List.getElem?_eq_getElem (by omega)⟩
    obtain ⟨B, k, e, ho⟩ := h3 i x hx
    rw [hr] at e
    cases e
    obtain ⟨o1, o2⟩ := ho.ok
    exact ⟨o1, by rw [o2]; exact hx⟩
  refine ⟨R, h1, fun r hr => ?_, List.ext_getElem? fun i => ?_⟩
  · obtain ⟨i, hi⟩ := List.getElem?_of_mem hr
    exact (key i r hi).1
  · rw [List.getElem?_map]
    cases hr : R[i]? with
    | none => exact (List.getElem?_eq_none_iff.2 (by rw [← h2]; exact List.getElem?_eq_none_iff.1 hr)).symm
    | some r => exact (key i r hr).2.symm
/-! ### Put through a map -/
section
variable {α β : Type} {nodeA : α → Int} {winsA : α → α → Bool} {nodeB : β → Int} {winsB : β → β → Bool} {g : α → β}
theorem putF_map (hn : ∀ x, nodeB (g x) = nodeA x) (hw : ∀ x y, winsB (g x) (g y) = winsA x y) (L : List α) (v : α) : (putF nodeA winsA L v).map g = putF nodeB winsB (L.map g) (g v) := by
  have hp : plcOf nodeB (L.map g) (g v) = plcOf nodeA L v := by
    unfold plcOf
    rw [List.findIdx?_map, List.findIdx?_map]
    have e1 : ((fun x => nodeB x == nodeB (g v)) ∘ g) = (fun x => nodeA x == nodeA v) := by funext x; simp only [Function.comp, hn]
    have e2 : ((fun x => decide (nodeB (g v) < nodeB x)) ∘ g) = (fun x => decide (nodeA v < nodeA x)) := by funext x; simp only [Function.comp, hn]
    rw [e1, e2, List.length_map]
  unfold putF
  rw [hp]
  unfold putL
  rw [List.map_append, List.length_map]
  congr 1
  · unfold outK
    rw [List.map_flatMap]
    congr 1
    funext i
    rw [List.getElem?_map]
    cases L[i]? with
    | none => rfl
    | some x =>
      simp only [Option.map_some, pce]
      split
      · split
        · simp only [List.map_cons, List.map_nil, hw]
          split <;> rfl
        · rfl
      · rfl
  · split <;> rfl
theorem putF_mem {L : List α} {v y : α} (h : y ∈ putF nodeA winsA L v) : y = v ∨ y ∈ L := by
  unfold putF putL at h
  rcases List.mem_append.1 h with h | h
  · unfold outK at h
    obtain ⟨i, _, hi⟩ := List.mem_flatMap.1 h
    cases hx : L[i]? with
    | none => rw [hx] at hi; simp at hi
    | some x =>
      rw [hx] at hi
      have hm := List.mem_of_getElem? hx
      simp only [pce] at hi
      split at hi
      · split at hi
        · simp only [List.mem_singleton] at hi
          split at hi
          · exact .inl hi
          · exact .inr (hi ▸ hm)
        · simp only [List.mem_cons, List.not_mem_nil, or_false] at hi
          rcases hi with rfl | rfl
          · exact .inl rfl
          · exact .inr hm
      · simp only [List.mem_singleton] at hi
        exact .inr (hi ▸ hm)
  · split at h
    · simp only [List.mem_singleton] at h; exact .inl h
    · simp at h
end
/-- a list of votes of its own is returned -/
def RetV (W : World) (V : List Lt) (e : Ending) (w' : World) : Prop :=
  ∃ A c, e = .returned (.slice A V.length c) ∧ Below W.heap.size W w' ∧ RdV w' A V.length V
theorem okL_own {w : World} {B : Nat} {A : Option Addr} {k : Nat} {log : List Et} {m : Nat} (h : w.ownsRow B 156 5 (.slice A m k) m (CL Et.cells log)) (hl : log.length = m) (hs : m * 48 ≤ 140737488355328) : OkL w A k log := by
  refine ⟨by rw [hl]; exact rdc_own (size := 5) (cells := Et.cells) (fun _ => rfl) h hl, fun ha => ?_, by rw [hl]; exact hs⟩
  subst ha
  rcases h.2 with ⟨hv, h0⟩ | ⟨g, cap, cur, hv, _⟩
  · cases hv; exact ⟨hl, rfl⟩
  · cases hv
theorem retV_of {T : TypeId} {lg : Bt → List Et} {W : World} {M : List Bt} {e : Ending} {w' : World} (h : RetB T lg W M e w') (ho : ∀ r ∈ M, LgOk lg W r) : RetV W (M.map (Bt.abs lg)) e w' := by
  obtain ⟨A, c, R, rfl, hb, hown, hc⟩ := h
  refine ⟨A, c, by rw [List.length_map], hb, R, ?_, by rw [List.length_map]; exact hc.len, fun i x hx => ?_⟩
  · rw [List.length_map]; exact rdBt hown hc.len
  · rw [List.getElem?_map, Option.map_eq_some_iff] at hx
    obtain ⟨m, hm, rfl⟩ := hx
    obtain ⟨B, k, h1, h2, _⟩ := hc.at_ i m hm
    have hl := (ho m (List.mem_of_getElem? hm)).1.len
    refine ⟨B, k, ?_, okL_own h2 hl (ho m (List.mem_of_getElem? hm)).2.2⟩
    rw [h1]
    simp only [Lt.raw, Bt.abs, hl]
theorem wins_abs (w : World) (x y : Bt) : (x.abs (lgAt w)).wins (y.abs (lgAt w)) = x.wins y := by
  have ex := lgAt_len w x
  have ey := lgAt_len w y
  unfold Lt.wins Bt.wins Bt.above longer
  simp only [Lt.raw, Bt.abs, ex, ey]
  first | rfl | congr
theorem putBallot_v (A : Option Addr) (n c : Nat) (V : List Lt) (x : Lt) (B : Option Addr) (k : Nat) (w : World) (h : RdV w A n V) (hx : OkL w B k x.log) (hsm : (n + 2) * 64 ≤ 140737488355328) :
    Calls Try.prog 28 #[.slice A n c, x.agg B k] w (RetV w (putF Lt.n Lt.wins V x)) := by
  obtain ⟨R, h1, h2, h3⟩ := h.raws
  obtain ⟨o1, o2⟩ := hx.ok
  have ho : ∀ r, r = x.raw B k ∨ r ∈ R → LgOk (lgAt w) w r := fun r hr => hr.elim (fun e => e ▸ o1) (h2 r)
  refine (putBallot_fn A n c R (x.raw B k) (lgAt w) w h1 ho hsm).mono fun e w' h => ?_
  have := retV_of h (fun r hr => ho r (putF_mem hr))
  rw [putF_map (nodeA := Bt.n) (nodeB := Lt.n) (winsB := Lt.wins) (fun _ => rfl) (wins_abs w), h3, o2] at this
  exact this
theorem putAnswer_v (A : Option Addr) (n c : Nat) (V : List Lt) (x : Lt) (B : Option Addr) (k : Nat) (w : World) (h : RdV w A n V) (hx : OkL w B k x.log) (hsm : (n + 2) * 64 ≤ 140737488355328) :
    Calls Try.prog 23 #[.slice A n c, x.agg B k] w (RetV w (putF Lt.n Lt.wins V x)) := by
  obtain ⟨R, h1, h2, h3⟩ := h.raws
  obtain ⟨o1, o2⟩ := hx.ok
  have ho : ∀ r, r = x.raw B k ∨ r ∈ R → LgOk (lgAt w) w r := fun r hr => hr.elim (fun e => e ▸ o1) (h2 r)
  refine (putAnswer_fn A n c R (x.raw B k) (lgAt w) w h1 ho hsm).mono fun e w' h => ?_
  have := retV_of h (fun r hr => ho r (putF_mem hr))
  rw [putF_map (nodeA := Bt.n) (nodeB := Lt.n) (winsB := Lt.wins) (fun _ => rfl) (wins_abs w), h3, o2] at this
  exact this
/-! ### Settle -/
def mxL (a : Int) (L : List Lt) : Int := L.foldl (fun m x => max m x.v) a
def okV (f vw : Int) (x : Lt) : Bool := x.v == vw && x.n == prim f vw
def settleV (f : Int) (L : List Lt) : Option Lt := if f < 1 ∨ 3 < f ∨ (L.length : Int) < f + 1 then none else L.find? (okV f (mxL (L.headD default).v L))
theorem settle_map (lg : Bt → List Et) (f : Int) (L : List Bt) (hd : (default : Bt).v = (default : Lt).v := by rfl) : (settleF f L).map (Bt.abs lg) = settleV f (L.map (Bt.abs lg)) := by
  unfold settleF settleV
  rw [List.length_map]
  split
  · rfl
  · rw [List.find?_map]
    have e1 : mxL ((L.map (Bt.abs lg)).headD default).v (L.map (Bt.abs lg)) = mxV (L.headD default).v L := by
      unfold mxL mxV
      rw [List.foldl_map]
      have : ((L.map (Bt.abs lg)).headD default).v = (L.headD default).v := by cases L <;> rfl
      rw [this]
      rfl
    rw [e1]
    rfl
/-- what Settle and Choose answer -/
def OneV (W : World) (r : Option Lt) (e : Ending) (w' : World) : Prop :=
  Below W.heap.size W w' ∧ ((r = none ∧ e = .returned (.tuple #[(default : Lt).agg none 0, .int .i64 81])) ∨ ∃ x A k, r = some x ∧ e = .returned (.tuple #[x.agg A k, .int .i64 0]) ∧ OkL w' A k x.log)
theorem settle_v (f : Int) (A : Option Addr) (n c : Nat) (V : List Lt) (w : World) (wf : (Lit.int .i64 f).wf = true) (h : RdV w A n V) (hsm : n * 64 ≤ 140737488355328) :
    Calls Try.prog 24 #[.int .i64 f, .slice A n c] w (OneV w (settleV f V)) := by
  obtain ⟨R, h1, h2, h3⟩ := h.raws
  refine (settle_any f A n c R (lgAt w) w wf h1 h2 hsm).mono fun e w' h => ?_
  rw [← h3, ← settle_map]
  obtain ⟨hb, h⟩ := h
  refine ⟨hb, ?_⟩
  rcases h with ⟨hr, he⟩ | ⟨x, B, k, hr, he, ho⟩
  · exact .inl ⟨by rw [hr]; rfl, he⟩
  · have hx : x ∈ R := by
      unfold settleF at hr
      split at hr
      · cases hr
      · exact List.mem_of_find?_eq_some hr
    have hl := (h2 x hx).1.len
    refine .inr ⟨x.abs (lgAt w), B, k, by rw [hr]; rfl, ?_, okL_own ho hl (h2 x hx).2.2⟩
    rw [he]
    simp only [Bt.agg, Lt.agg, Bt.abs, hl]
end Go.Proofs.Ytjjobgolpedgeaa
