/-
  The plain law of NonceRises: what the loop keeps.
-/
import Derived.Test.YtgbjfmokfkdglaaNAmong
set_option linter.unusedVariables false
set_option linter.unusedSimpArgs false
namespace Go.Proofs.Ytgbjfmokfkdglaa
open Go.RowKit

def Rinv (now m q : Nat) (L : List (Nat × Nat)) (last : Nat) (wi : Bool) : Prop :=
  q ≤ 65535 ∧ q ≤ L.length ∧ ((wi = true ∨ L = []) → m = 0 ∧ q = 0) ∧ (L ≠ [] → last ≤ now ∧ (last, 1) ∈ L ∧ ∃ lo, L.getLast? = some (last, lo) ∧ (wi = false → m = last ∧ q = lo))
theorem Rinv.start (now : Nat) : Rinv now 0 0 [] 0 false := ⟨by omega, by simp, fun _ => ⟨rfl, rfl⟩, fun h => absurd rfl h⟩
theorem Rinv.pass {now m q : Nat} {L : List (Nat × Nat)} {last : Nat} {wi : Bool} (h : Rinv now m q L last wi) {now' : Nat} (hn : now ≤ now') : Rinv now' m q L last wi :=
  ⟨h.1, h.2.1, h.2.2.1, fun hL => ⟨Nat.le_trans (h.2.2.2 hL).1 hn, (h.2.2.2 hL).2⟩⟩
theorem Rinv.wipe {now m q : Nat} {L : List (Nat × Nat)} {last : Nat} {wi : Bool} (h : Rinv now m q L last wi) : Rinv now 0 0 L last true :=
  ⟨by omega, by omega, fun _ => ⟨rfl, rfl⟩, fun hL => by
    obtain ⟨h1, h2, lo, h3, _⟩ := h.2.2.2 hL
    exact ⟨h1, h2, lo, h3, fun e => by cases e⟩⟩
theorem Rinv.full {now m : Nat} {L : List (Nat × Nat)} {last : Nat} {wi : Bool} (h : Rinv now m 65535 L last wi) (hm : m = now) : wi = false ∧ 65535 ≤ L.length ∧ last = now := by
  have h1 : ¬ (wi = true ∨ L = []) := fun e => by have := (h.2.2.1 e).2; omega
  have hw : wi = false := by
    cases wi with
    | false => rfl
    | true => exact absurd (Or.inl rfl) h1
  obtain ⟨_, _, lo, _, h3⟩ := h.2.2.2 (fun e => h1 (.inr e))
  exact ⟨hw, h.2.1, by have := (h3 hw).1; omega⟩
def nx (now m q : Nat) : Nat := (if m = now then q else 0) + 1
theorem Rinv.next {now m q : Nat} {L : List (Nat × Nat)} {last : Nat} {wi : Bool} (h : Rinv now m q L last wi) (hx : nx now m q ≤ 65535) : Rinv now now (nx now m q) (L ++ [(now, nx now m q)]) now false := by
  refine ⟨hx, ?_, fun e => ?_, fun _ => ⟨Nat.le_refl _, ?_, _, by simp, fun _ => ⟨rfl, rfl⟩⟩⟩
  · have := h.2.1
    simp only [List.length_append, List.length_cons, List.length_nil]
    unfold nx; split <;> omega
  · rcases e with e | e
    · cases e
    · simp at e
  · by_cases h1 : nx now m q = 1
    · rw [h1]; simp
    · have hm : m = now ∧ q ≠ 0 := by
        unfold nx at h1
        by_cases hm : m = now
        · rw [if_pos hm] at h1; exact ⟨hm, by omega⟩
        · rw [if_neg hm] at h1; omega
      have h2 : ¬ (wi = true ∨ L = []) := fun e => hm.2 (h.2.2.1 e).2
      have hw : wi = false := by
        cases wi with
        | false => rfl
        | true => exact absurd (Or.inl rfl) h2
      obtain ⟨_, h3, lo, _, h4⟩ := h.2.2.2 (fun e => h2 (.inr e))
      have := (h4 hw).1
      rw [List.mem_append]
      left
      rw [show now = last by omega]
      exact h3
theorem Rinv.again {now m q : Nat} {L : List (Nat × Nat)} {wi : Bool} (h : Rinv now m q L now wi) (hw : wi = true) (hL : L ≠ []) : nx now m q = 1 ∧ (now, 1) ∈ L := by
  obtain ⟨h1, h2⟩ := h.2.2.1 (.inl hw)
  refine ⟨?_, (h.2.2.2 hL).2.1⟩
  unfold nx
  subst h2
  split <;> rfl
theorem Rinv.rise {now m q : Nat} {L : List (Nat × Nat)} {last : Nat} {wi : Bool} (h : Rinv now m q L last wi) (hL : L ≠ []) (hw : ¬ (wi = true ∧ now = last)) :
    ∃ lo, L[L.length - 1]? = some (last, lo) ∧ dCmp last lo now (nx now m q) = -1 := by
  obtain ⟨h1, h2, lo, h3, h4⟩ := h.2.2.2 hL
  refine ⟨lo, by rw [← List.getLast?_eq_getElem?]; exact h3, ?_⟩
  unfold dCmp
  by_cases e : last = now
  · have hf : wi = false := by
      cases wi with
      | false => rfl
      | true => exact absurd ⟨rfl, e.symm⟩ hw
    obtain ⟨h5, h6⟩ := h4 hf
    have hx : nx now m q = q + 1 := by unfold nx; rw [if_pos (by omega)]
    rw [if_pos (by omega), if_neg (by omega), if_pos (by omega)]
  · rw [if_neg (by omega), if_pos (by omega)]
theorem pDraw_ok {a m n : Nat} (h : ¬ (m = a ∧ n = 65535)) : pDraw a m n = (a, nx a m n, 0, nx a m n) := by
  unfold pDraw nx
  rw [if_neg]
  by_cases e : m = a
  · rw [if_pos e]; exact fun e2 => h ⟨e, e2⟩
  · rw [if_neg e]; decide
theorem nx_le {a m n : Nat} (hn : n ≤ 65535) (h : ¬ (m = a ∧ n = 65535)) : nx a m n ≤ 65535 := by
  unfold nx
  split
  · have : n ≠ 65535 := fun e => h ⟨by assumption, e⟩
    omega
  · omega

/-! ### the state in memory -/
structure Rst (W wr : World) (B : Nat) (A : Option Addr) (cp : Nat) (L : List (Nat × Nat)) (now m q : Nat) : Prop where
  oc : Ob wr B [.int .u64 (now : Nat)]
  op : Ob wr (B + 1) [.pointer (some ⟨B, 0, none⟩), .int .u64 (m : Nat), .int .u64 (q : Nat)]
  own : wr.ownsRow (B + 2) 25 2 (.slice A L.length cp) L.length (DV L)
  bel : Below B W wr
  sz : B + 2 ≤ wr.heap.size
theorem Rst.ne {W wr : World} {B : Nat} {A : Option Addr} {cp : Nat} {L : List (Nat × Nat)} {now m q : Nat} (h : Rst W wr B A cp L now m q) {k : Nat} (hk : k < B + 2) : (Value.slice A L.length cp).ownBlock ≠ some k := fun e => by
  have := (h.own.lt k e).1
  omega
theorem Rst.grow {W wr w' : World} {B : Nat} {A : Option Addr} {cp : Nat} {L : List (Nat × Nat)} {now m q : Nat} (h : Rst W wr B A cp L now m q) (g : wr.grownBy w' none) : Rst W w' B A cp L now m q :=
  ⟨h.oc.kept g (by simp), h.op.kept g (by simp), h.own.kept g (by cases (Value.slice A L.length cp).ownBlock <;> simp), h.bel.trans (grown_below_drop g (by have := h.sz; omega)), Nat.le_trans h.sz g.size⟩
theorem Rst.clock {W wr w' : World} {B : Nat} {A : Option Addr} {cp : Nat} {L : List (Nat × Nat)} {now m q now' : Nat} (h : Rst W wr B A cp L now m q) (g : wr.grownBy w' (some B)) (o : Ob w' B [.int .u64 (now' : Nat)]) : Rst W w' B A cp L now' m q :=
  ⟨o, h.op.kept g (by simp), h.own.kept g (.inr (h.ne (by omega))), h.bel.trans (Below.of_grown g (Nat.le_refl _) (by have := h.sz; omega)), Nat.le_trans h.sz g.size⟩
theorem Rst.pairs {W wr w' : World} {B : Nat} {A : Option Addr} {cp : Nat} {L : List (Nat × Nat)} {now m q m' q' : Nat} (h : Rst W wr B A cp L now m q) (g : wr.grownBy w' (some (B + 1))) (o : Ob w' (B + 1) [.pointer (some ⟨B, 0, none⟩), .int .u64 (m' : Nat), .int .u64 (q' : Nat)]) : Rst W w' B A cp L now m' q' :=
  ⟨h.oc.kept g (by simp), o, h.own.kept g (.inr (h.ne (by omega))), h.bel.trans (Below.of_grown g (by omega) (by have := h.sz; omega)), Nat.le_trans h.sz g.size⟩
theorem Rst.push {W wr w' : World} {B : Nat} {A A' : Option Addr} {cp cp' : Nat} {L : List (Nat × Nat)} {now m q : Nat} (h : Rst W wr B A cp L now m q) (x : Nat × Nat) (g : wr.grownBy w' (Value.slice A L.length cp).ownBlock)
    (o : w'.ownsRow (B + 2) 25 2 (.slice A' (L.length + 1) cp') (L.length + 1) (DV L ++ dv x)) : Rst W w' B A' cp' (L ++ [x]) now m q :=
  ⟨h.oc.kept g (Ne.symm (h.ne (by omega))), h.op.kept g (Ne.symm (h.ne (by omega))), by
    have e : DV (L ++ [x]) = DV L ++ dv x := by rw [DV_append]; simp [DV]
    rw [e, show (L ++ [x]).length = L.length + 1 by simp]; exact o,
   h.bel.trans ⟨g.os, g.tape, g.output, g.size, fun k hk => g.block k (by have := h.sz; omega) (Ne.symm (h.ne (by omega)))⟩, Nat.le_trans h.sz g.size⟩
end Go.Proofs.Ytgbjfmokfkdglaa
