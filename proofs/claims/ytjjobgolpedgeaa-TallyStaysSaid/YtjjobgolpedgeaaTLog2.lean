/-
  More words for votes with logs: lists of one, rooms behind lists, Put's answer with its room.
-/
import Derived.Test.YtjjobgolpedgeaaTSame
set_option linter.unusedVariables false
set_option linter.unusedSimpArgs false
namespace Go.Proofs.Ytjjobgolpedgeaa
open Go.RowKit

/-- a list of votes of its own is returned, its room told -/
def RetW (W : World) (V : List Lt) (e : Ending) (w' : World) : Prop :=
  ∃ A c, e = .returned (.slice A V.length c) ∧ V.length ≤ c ∧ Below W.heap.size W w' ∧ RdV w' A V.length V
theorem own_room {w : World} {B : Nat} {e : TypeId} {size n c m : Nat} {A : Option Addr} {xs : List Value} (h : w.ownsRow B e size (.slice A n c) m xs) : n ≤ c := by
  rcases h.2 with ⟨hv, h0⟩ | ⟨g, cap, cur, hv, _, _, h1, _⟩
  · cases hv; exact Nat.le_refl _
  · cases hv; exact h1
theorem retW_of {T : TypeId} {lg : Bt → List Et} {W : World} {M : List Bt} {e : Ending} {w' : World} (h : RetB T lg W M e w') (ho : ∀ r ∈ M, LgOk lg W r) : RetW W (M.map (Bt.abs lg)) e w' := by
  have h1 := retV_of h ho
  obtain ⟨A, c, R, he, hb, hown, hc⟩ := h
  obtain ⟨A', c', e2, hb', hr⟩ := h1
  rw [he] at e2
  injection e2 with e2
  injection e2 with e1 e2 e3
  subst e1 e3
  exact ⟨A, c, by rw [he, List.length_map], by rw [List.length_map]; exact own_room hown, hb', hr⟩
theorem putBallot_w (A : Option Addr) (n c : Nat) (V : List Lt) (x : Lt) (B : Option Addr) (k : Nat) (w : World) (h : RdV w A n V) (hx : OkL w B k x.log) (hsm : (n + 2) * 64 ≤ 140737488355328) :
    Calls Try.prog 28 #[.slice A n c, x.agg B k] w (RetW w (putF Lt.n Lt.wins V x)) := by
  obtain ⟨R, h1, h2, h3⟩ := h.raws
  obtain ⟨o1, o2⟩ := hx.ok
  have ho : ∀ r, r = x.raw B k ∨ r ∈ R → LgOk (lgAt w) w r := fun r hr => hr.elim (fun e => e ▸ o1) (h2 r)
  refine (putBallot_fn A n c R (x.raw B k) (lgAt w) w h1 ho hsm).mono fun e w' h => ?_
  have := retW_of h (fun r hr => ho r (putF_mem hr))
  rw [putF_map (nodeA := Bt.n) (nodeB := Lt.n) (winsB := Lt.wins) (fun _ => rfl) (wins_abs w), h3, o2] at this
  exact this
theorem putAnswer_w (A : Option Addr) (n c : Nat) (V : List Lt) (x : Lt) (B : Option Addr) (k : Nat) (w : World) (h : RdV w A n V) (hx : OkL w B k x.log) (hsm : (n + 2) * 64 ≤ 140737488355328) :
    Calls Try.prog 23 #[.slice A n c, x.agg B k] w (RetW w (putF Lt.n Lt.wins V x)) := by
  obtain ⟨R, h1, h2, h3⟩ := h.raws
  obtain ⟨o1, o2⟩ := hx.ok
  have ho : ∀ r, r = x.raw B k ∨ r ∈ R → LgOk (lgAt w) w r := fun r hr => hr.elim (fun e => e ▸ o1) (h2 r)
  refine (putAnswer_fn A n c R (x.raw B k) (lgAt w) w h1 ho hsm).mono fun e w' h => ?_
  have := retW_of h (fun r hr => ho r (putF_mem hr))
  rw [putF_map (nodeA := Bt.n) (nodeB := Lt.n) (winsB := Lt.wins) (fun _ => rfl) (wins_abs w), h3, o2] at this
  exact this
/-- a list of one, made anew -/
theorem rdV_one {w : World} {x : Lt} {B : Option Addr} {k : Nat} (h : OkL w B k x.log) (t : TypeId) : RdV (w.alloc (.cells #[.int .i64 x.n, .int .u64 (x.h : Nat), .int .u64 (x.l : Nat), .int .i64 x.v, .int .i64 x.c, .slice B x.log.length k] t)) (some ⟨w.heap.size, 0, none⟩) 1 [x] := by
  refine ⟨[x.raw B k], ⟨rfl, by omega, fun j y hj => ⟨_, rfl, fun i u hu => ?_⟩⟩, rfl, fun i y hy => ?_⟩
  · have hj0 : j = 0 := by have := (List.getElem?_eq_some_iff.1 hj).1; simp at this; omega
    subst hj0
    simp at hj
    subst hj
    have := fresh_news w #[.int .i64 x.n, .int .u64 (x.h : Nat), .int .u64 (x.l : Nat), .int .i64 x.v, .int .i64 x.c, .slice B x.log.length k] t _ rfl i u hu
    rw [Nat.zero_mul, Nat.zero_add]
    exact this
  · have hi0 : i = 0 := by have := (List.getElem?_eq_some_iff.1 hy).1; simp at this; omega
    subst hi0
    simp at hy
    subst hy
    exact ⟨B, k, rfl, h.below ((Below.refl _ _).alloc (Nat.le_refl _) _)⟩
/-- one of a list, by itself -/
theorem RdV.sub {w : World} {ad : Addr} {n i : Nat} {V : List Lt} {x : Lt} (h : RdV w (some ad) n V) (hx : V[i]? = some x) : RdV w (some (ad.add (i * 6))) 1 [x] := by
  obtain ⟨R, h1, h2, h3⟩ := h
  obtain ⟨B, k, e, ho⟩ := h3 i x hx
  refine ⟨[x.raw B k], ⟨rfl, by omega, fun j y hj => ⟨_, rfl, fun q u hu => ?_⟩⟩, rfl, fun j y hy => ?_⟩
  · have hj0 : j = 0 := by have := (List.getElem?_eq_some_iff.1 hj).1; simp at this; omega
    subst hj0
    simp at hj
    subst hj
    obtain ⟨ad', ea, hc⟩ := h1.cell i _ e
    cases ea
    have := hc q u hu
    rw [Nat.zero_mul, Nat.zero_add, add_add]
    exact this
  · have hi0 : j = 0 := by have := (List.getElem?_eq_some_iff.1 hy).1; simp at this; omega
    subst hi0
    simp at hy
    subst hy
    exact ⟨B, k, rfl, ho⟩
theorem below_alloc (w : World) (o : Obj) : Below w.heap.size w (w.alloc o) := (Below.refl _ _).alloc (Nat.le_refl _) _
end Go.Proofs.Ytjjobgolpedgeaa
