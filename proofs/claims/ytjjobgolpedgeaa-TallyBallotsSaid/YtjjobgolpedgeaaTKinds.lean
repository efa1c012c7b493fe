/-
  Votes as they lie in memory: acknowledgements, marks; ballots and answers.
-/
import Derived.Test.YtjjobgolpedgeaaTBase
set_option linter.unusedVariables false
set_option linter.unusedSimpArgs false
namespace Go.Proofs.Ytjjobgolpedgeaa
open Go.RowKit

structure Ak where
  n : Int
  h : Nat
  l : Nat
  p : Int
instance : Inhabited Ak := ⟨⟨0, 0, 0, 0⟩⟩
abbrev Ak.cells (x : Ak) : List Value := [.int .i64 x.n, .int .u64 (x.h : Nat), .int .u64 (x.l : Nat), .int .i64 x.p]
abbrev Ak.agg (x : Ak) : Value := .agg #[.int .i64 x.n, .int .u64 (x.h : Nat), .int .u64 (x.l : Nat), .int .i64 x.p]
theorem Ak.one (x : Ak) : ∀ u ∈ x.cells, u.oneCell' = true := by
  intro u hu
  simp [Ak.cells] at hu
  rcases hu with rfl | rfl | rfl | rfl <;> rfl
theorem RdC.atAk {w : World} {A : Option Addr} {n : Nat} {L : List Ak} (h : RdC 4 Ak.cells w A n L) {k : Nat} {x : Ak} (hx : L[k]? = some x) :
    ∃ ad, A = some ad ∧ w.cell? (ad.add (k * 4)) = some (.int .i64 x.n) ∧ w.cell? ⟨(ad.add (k * 4)).block, (ad.add (k * 4)).off + 1, none⟩ = some (.int .u64 (x.h : Nat)) ∧ w.cell? ⟨(ad.add (k * 4)).block, (ad.add (k * 4)).off + 2, none⟩ = some (.int .u64 (x.l : Nat)) ∧ w.cell? ⟨(ad.add (k * 4)).block, (ad.add (k * 4)).off + 3, none⟩ = some (.int .i64 x.p) := by
  obtain ⟨ad, e, hc⟩ := h.cell k x hx
  refine ⟨ad, e, hc 0 _ rfl, ?_, ?_, ?_⟩
  · have := hc 1 _ rfl; rw [← add_add] at this; exact this
  · have := hc 2 _ rfl; rw [← add_add] at this; exact this
  · have := hc 3 _ rfl; rw [← add_add] at this; exact this
theorem RdC.atAk0 {w : World} {g n : Nat} {L : List Ak} (h : RdC 4 Ak.cells w (some ⟨g, 0, none⟩) n L) {k : Nat} {x : Ak} (hx : L[k]? = some x) :
    w.cell? ⟨g, k * 4, none⟩ = some (.int .i64 x.n) ∧ w.cell? ⟨g, k * 4 + 1, none⟩ = some (.int .u64 (x.h : Nat)) ∧ w.cell? ⟨g, k * 4 + 2, none⟩ = some (.int .u64 (x.l : Nat)) ∧ w.cell? ⟨g, k * 4 + 3, none⟩ = some (.int .i64 x.p) := by
  obtain ⟨ad, e, hc⟩ := h.cell k x hx
  cases e
  refine ⟨?_, ?_, ?_, ?_⟩
  · have := hc 0 _ rfl; rw [add_at] at this; exact this
  · have := hc 1 _ rfl; rw [add_at] at this; exact this
  · have := hc 2 _ rfl; rw [add_at] at this; exact this
  · have := hc 3 _ rfl; rw [add_at] at this; exact this
structure Mk where
  n : Int
  h : Nat
  l : Nat
instance : Inhabited Mk := ⟨⟨0, 0, 0⟩⟩
abbrev Mk.cells (x : Mk) : List Value := [.int .i64 x.n, .int .u64 (x.h : Nat), .int .u64 (x.l : Nat)]
abbrev Mk.agg (x : Mk) : Value := .agg #[.int .i64 x.n, .int .u64 (x.h : Nat), .int .u64 (x.l : Nat)]
theorem Mk.one (x : Mk) : ∀ u ∈ x.cells, u.oneCell' = true := by
  intro u hu
  simp [Mk.cells] at hu
  rcases hu with rfl | rfl | rfl <;> rfl
theorem RdC.atMk {w : World} {A : Option Addr} {n : Nat} {L : List Mk} (h : RdC 3 Mk.cells w A n L) {k : Nat} {x : Mk} (hx : L[k]? = some x) :
    ∃ ad, A = some ad ∧ w.cell? (ad.add (k * 3)) = some (.int .i64 x.n) ∧ w.cell? ⟨(ad.add (k * 3)).block, (ad.add (k * 3)).off + 1, none⟩ = some (.int .u64 (x.h : Nat)) ∧ w.cell? ⟨(ad.add (k * 3)).block, (ad.add (k * 3)).off + 2, none⟩ = some (.int .u64 (x.l : Nat)) := by
  obtain ⟨ad, e, hc⟩ := h.cell k x hx
  refine ⟨ad, e, hc 0 _ rfl, ?_, ?_⟩
  · have := hc 1 _ rfl; rw [← add_add] at this; exact this
  · have := hc 2 _ rfl; rw [← add_add] at this; exact this
theorem RdC.atMk0 {w : World} {g n : Nat} {L : List Mk} (h : RdC 3 Mk.cells w (some ⟨g, 0, none⟩) n L) {k : Nat} {x : Mk} (hx : L[k]? = some x) :
    w.cell? ⟨g, k * 3, none⟩ = some (.int .i64 x.n) ∧ w.cell? ⟨g, k * 3 + 1, none⟩ = some (.int .u64 (x.h : Nat)) ∧ w.cell? ⟨g, k * 3 + 2, none⟩ = some (.int .u64 (x.l : Nat)) := by
  obtain ⟨ad, e, hc⟩ := h.cell k x hx
  cases e
  refine ⟨?_, ?_, ?_⟩
  · have := hc 0 _ rfl; rw [add_at] at this; exact this
  · have := hc 1 _ rfl; rw [add_at] at this; exact this
  · have := hc 2 _ rfl; rw [add_at] at this; exact this
structure Bt where
  n : Int
  h : Nat
  l : Nat
  v : Int
  c : Int
  A : Option Addr
  m : Nat
  k : Nat
instance : Inhabited Bt := ⟨⟨0, 0, 0, 0, 0, none, 0, 0⟩⟩
abbrev Bt.cells (x : Bt) : List Value := [.int .i64 x.n, .int .u64 (x.h : Nat), .int .u64 (x.l : Nat), .int .i64 x.v, .int .i64 x.c, .slice x.A x.m x.k]
abbrev Bt.agg (x : Bt) : Value := .agg #[.int .i64 x.n, .int .u64 (x.h : Nat), .int .u64 (x.l : Nat), .int .i64 x.v, .int .i64 x.c, .slice x.A x.m x.k]
theorem Bt.one (x : Bt) : ∀ u ∈ x.cells, u.oneCell' = true := by
  intro u hu
  simp [Bt.cells] at hu
  rcases hu with rfl | rfl | rfl | rfl | rfl | rfl <;> rfl
theorem RdC.atBt {w : World} {A : Option Addr} {n : Nat} {L : List Bt} (h : RdC 6 Bt.cells w A n L) {k : Nat} {x : Bt} (hx : L[k]? = some x) :
    ∃ ad, A = some ad ∧ w.cell? (ad.add (k * 6)) = some (.int .i64 x.n) ∧ w.cell? ⟨(ad.add (k * 6)).block, (ad.add (k * 6)).off + 1, none⟩ = some (.int .u64 (x.h : Nat)) ∧ w.cell? ⟨(ad.add (k * 6)).block, (ad.add (k * 6)).off + 2, none⟩ = some (.int .u64 (x.l : Nat)) ∧ w.cell? ⟨(ad.add (k * 6)).block, (ad.add (k * 6)).off + 3, none⟩ = some (.int .i64 x.v) ∧ w.cell? ⟨(ad.add (k * 6)).block, (ad.add (k * 6)).off + 4, none⟩ = some (.int .i64 x.c) ∧ w.cell? ⟨(ad.add (k * 6)).block, (ad.add (k * 6)).off + 5, none⟩ = some (.slice x.A x.m x.k) := by
  obtain ⟨ad, e, hc⟩ := h.cell k x hx
  refine ⟨ad, e, hc 0 _ rfl, ?_, ?_, ?_, ?_, ?_⟩
  · have := hc 1 _ rfl; rw [← add_add] at this; exact this
  · have := hc 2 _ rfl; rw [← add_add] at this; exact this
  · have := hc 3 _ rfl; rw [← add_add] at this; exact this
  · have := hc 4 _ rfl; rw [← add_add] at this; exact this
  · have := hc 5 _ rfl; rw [← add_add] at this; exact this
theorem RdC.atBt0 {w : World} {g n : Nat} {L : List Bt} (h : RdC 6 Bt.cells w (some ⟨g, 0, none⟩) n L) {k : Nat} {x : Bt} (hx : L[k]? = some x) :
    w.cell? ⟨g, k * 6, none⟩ = some (.int .i64 x.n) ∧ w.cell? ⟨g, k * 6 + 1, none⟩ = some (.int .u64 (x.h : Nat)) ∧ w.cell? ⟨g, k * 6 + 2, none⟩ = some (.int .u64 (x.l : Nat)) ∧ w.cell? ⟨g, k * 6 + 3, none⟩ = some (.int .i64 x.v) ∧ w.cell? ⟨g, k * 6 + 4, none⟩ = some (.int .i64 x.c) ∧ w.cell? ⟨g, k * 6 + 5, none⟩ = some (.slice x.A x.m x.k) := by
  obtain ⟨ad, e, hc⟩ := h.cell k x hx
  cases e
  refine ⟨?_, ?_, ?_, ?_, ?_, ?_⟩
  · have := hc 0 _ rfl; rw [add_at] at this; exact this
  · have := hc 1 _ rfl; rw [add_at] at this; exact this
  · have := hc 2 _ rfl; rw [add_at] at this; exact this
  · have := hc 3 _ rfl; rw [add_at] at this; exact this
  · have := hc 4 _ rfl; rw [add_at] at this; exact this
  · have := hc 5 _ rfl; rw [add_at] at this; exact this
theorem eltApiAck : Elt Try.prog 22 29 (.agg #[.int .i64 0, .int .u64 0, .int .u64 0, .int .i64 0]) 4 32 := ⟨Try.underlying22, by kernel_rfl, rfl, by decide⟩
theorem eltAck : Elt Try.prog 117 116 (.agg #[.int .i64 0, .int .u64 0, .int .u64 0, .int .i64 0]) 4 32 := ⟨Try.underlying117, by kernel_rfl, rfl, by decide⟩
theorem eltApiMark : Elt Try.prog 46 49 (.agg #[.int .i64 0, .int .u64 0, .int .u64 0]) 3 24 := ⟨Try.underlying46, by kernel_rfl, rfl, by decide⟩
theorem eltMark : Elt Try.prog 136 135 (.agg #[.int .i64 0, .int .u64 0, .int .u64 0]) 3 24 := ⟨Try.underlying136, by kernel_rfl, rfl, by decide⟩
theorem eltApiBallot : Elt Try.prog 54 53 (.agg #[.int .i64 0, .int .u64 0, .int .u64 0, .int .i64 0, .int .i64 0, .slice none 0 0]) 6 64 := ⟨Try.underlying54, by kernel_rfl, rfl, by decide⟩
theorem eltBallot : Elt Try.prog 145 144 (.agg #[.int .i64 0, .int .u64 0, .int .u64 0, .int .i64 0, .int .i64 0, .slice none 0 0]) 6 64 := ⟨Try.underlying145, by kernel_rfl, rfl, by decide⟩
theorem eltApiAnswer : Elt Try.prog 35 38 (.agg #[.int .i64 0, .int .u64 0, .int .u64 0, .int .i64 0, .int .i64 0, .slice none 0 0]) 6 64 := ⟨Try.underlying35, by kernel_rfl, rfl, by decide⟩
theorem eltAnswer : Elt Try.prog 126 125 (.agg #[.int .i64 0, .int .u64 0, .int .u64 0, .int .i64 0, .int .i64 0, .slice none 0 0]) 6 64 := ⟨Try.underlying126, by kernel_rfl, rfl, by decide⟩
end Go.Proofs.Ytjjobgolpedgeaa
