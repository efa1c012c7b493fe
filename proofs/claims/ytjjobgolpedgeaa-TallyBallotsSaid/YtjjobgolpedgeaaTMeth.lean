/-
  Which function a method of a vote is; cells kept; the order of votes.
-/
import Derived.Test.YtjjobgolpedgeaaTPutP
import Derived.Test.YtjjobgolpedgeaaTTurn
set_option linter.unusedVariables false
set_option linter.unusedSimpArgs false
namespace Go.Proofs.Ytjjobgolpedgeaa
open Go.RowKit

theorem keep3 {w w' : World} {b : Nat} {v0 v1 v2 : Value} (hb : Below w.heap.size w w') (h : w.cell? ⟨b, 0, none⟩ = some v0 ∧ w.cell? ⟨b, 1, none⟩ = some v1 ∧ w.cell? ⟨b, 2, none⟩ = some v2) :
    w'.cell? ⟨b, 0, none⟩ = some v0 ∧ w'.cell? ⟨b, 1, none⟩ = some v1 ∧ w'.cell? ⟨b, 2, none⟩ = some v2 :=
  ⟨(hb.cell (World.block_lt_of_cell? w _ h.1)).trans h.1, (hb.cell (World.block_lt_of_cell? w _ h.2.1)).trans h.2.1, (hb.cell (World.block_lt_of_cell? w _ h.2.2)).trans h.2.2⟩
theorem Ob.all3 {w : World} {b : Nat} {v0 v1 v2 : Value} (h : Ob w b [v0, v1, v2]) : w.cell? ⟨b, 0, none⟩ = some v0 ∧ w.cell? ⟨b, 1, none⟩ = some v1 ∧ w.cell? ⟨b, 2, none⟩ = some v2 :=
  ⟨h.cell 0 rfl, h.cell 1 rfl, h.cell 2 rfl⟩
theorem Ob.fro3 {w : World} {b : Nat} {v0 v1 v2 : Value} (h : Ob w b [v0, v1, v2]) : w.frozen? ⟨b, 0, none⟩ = false ∧ w.frozen? ⟨b, 1, none⟩ = false ∧ w.frozen? ⟨b, 2, none⟩ = false :=
  ⟨h.fr 0 (by simp), h.fr 1 (by simp), h.fr 2 (by simp)⟩
theorem keep4 {w w' : World} {b : Nat} {v0 v1 v2 v3 : Value} (hb : Below w.heap.size w w') (h : w.cell? ⟨b, 0, none⟩ = some v0 ∧ w.cell? ⟨b, 1, none⟩ = some v1 ∧ w.cell? ⟨b, 2, none⟩ = some v2 ∧ w.cell? ⟨b, 3, none⟩ = some v3) :
    w'.cell? ⟨b, 0, none⟩ = some v0 ∧ w'.cell? ⟨b, 1, none⟩ = some v1 ∧ w'.cell? ⟨b, 2, none⟩ = some v2 ∧ w'.cell? ⟨b, 3, none⟩ = some v3 :=
  ⟨(hb.cell (World.block_lt_of_cell? w _ h.1)).trans h.1, (hb.cell (World.block_lt_of_cell? w _ h.2.1)).trans h.2.1, (hb.cell (World.block_lt_of_cell? w _ h.2.2.1)).trans h.2.2.1, (hb.cell (World.block_lt_of_cell? w _ h.2.2.2)).trans h.2.2.2⟩
theorem Ob.all4 {w : World} {b : Nat} {v0 v1 v2 v3 : Value} (h : Ob w b [v0, v1, v2, v3]) : w.cell? ⟨b, 0, none⟩ = some v0 ∧ w.cell? ⟨b, 1, none⟩ = some v1 ∧ w.cell? ⟨b, 2, none⟩ = some v2 ∧ w.cell? ⟨b, 3, none⟩ = some v3 :=
  ⟨h.cell 0 rfl, h.cell 1 rfl, h.cell 2 rfl, h.cell 3 rfl⟩
theorem Ob.fro4 {w : World} {b : Nat} {v0 v1 v2 v3 : Value} (h : Ob w b [v0, v1, v2, v3]) : w.frozen? ⟨b, 0, none⟩ = false ∧ w.frozen? ⟨b, 1, none⟩ = false ∧ w.frozen? ⟨b, 2, none⟩ = false ∧ w.frozen? ⟨b, 3, none⟩ = false :=
  ⟨h.fr 0 (by simp), h.fr 1 (by simp), h.fr 2 (by simp), h.fr 3 (by simp)⟩
theorem keep6 {w w' : World} {b : Nat} {v0 v1 v2 v3 v4 v5 : Value} (hb : Below w.heap.size w w') (h : w.cell? ⟨b, 0, none⟩ = some v0 ∧ w.cell? ⟨b, 1, none⟩ = some v1 ∧ w.cell? ⟨b, 2, none⟩ = some v2 ∧ w.cell? ⟨b, 3, none⟩ = some v3 ∧ w.cell? ⟨b, 4, none⟩ = some v4 ∧ w.cell? ⟨b, 5, none⟩ = some v5) :
    w'.cell? ⟨b, 0, none⟩ = some v0 ∧ w'.cell? ⟨b, 1, none⟩ = some v1 ∧ w'.cell? ⟨b, 2, none⟩ = some v2 ∧ w'.cell? ⟨b, 3, none⟩ = some v3 ∧ w'.cell? ⟨b, 4, none⟩ = some v4 ∧ w'.cell? ⟨b, 5, none⟩ = some v5 :=
  ⟨(hb.cell (World.block_lt_of_cell? w _ h.1)).trans h.1, (hb.cell (World.block_lt_of_cell? w _ h.2.1)).trans h.2.1, (hb.cell (World.block_lt_of_cell? w _ h.2.2.1)).trans h.2.2.1, (hb.cell (World.block_lt_of_cell? w _ h.2.2.2.1)).trans h.2.2.2.1, (hb.cell (World.block_lt_of_cell? w _ h.2.2.2.2.1)).trans h.2.2.2.2.1, (hb.cell (World.block_lt_of_cell? w _ h.2.2.2.2.2)).trans h.2.2.2.2.2⟩
theorem Ob.all6 {w : World} {b : Nat} {v0 v1 v2 v3 v4 v5 : Value} (h : Ob w b [v0, v1, v2, v3, v4, v5]) : w.cell? ⟨b, 0, none⟩ = some v0 ∧ w.cell? ⟨b, 1, none⟩ = some v1 ∧ w.cell? ⟨b, 2, none⟩ = some v2 ∧ w.cell? ⟨b, 3, none⟩ = some v3 ∧ w.cell? ⟨b, 4, none⟩ = some v4 ∧ w.cell? ⟨b, 5, none⟩ = some v5 :=
  ⟨h.cell 0 rfl, h.cell 1 rfl, h.cell 2 rfl, h.cell 3 rfl, h.cell 4 rfl, h.cell 5 rfl⟩
theorem Ob.fro6 {w : World} {b : Nat} {v0 v1 v2 v3 v4 v5 : Value} (h : Ob w b [v0, v1, v2, v3, v4, v5]) : w.frozen? ⟨b, 0, none⟩ = false ∧ w.frozen? ⟨b, 1, none⟩ = false ∧ w.frozen? ⟨b, 2, none⟩ = false ∧ w.frozen? ⟨b, 3, none⟩ = false ∧ w.frozen? ⟨b, 4, none⟩ = false ∧ w.frozen? ⟨b, 5, none⟩ = false :=
  ⟨h.fr 0 (by simp), h.fr 1 (by simp), h.fr 2 (by simp), h.fr 3 (by simp), h.fr 4 (by simp), h.fr 5 (by simp)⟩
def Ak.wins (v x : Ak) : Bool := decide (0 < dCmp v.h v.l x.h x.l) || (decide (dCmp v.h v.l x.h x.l = 0) && v.above x)
theorem Ak.wins_gt {v x : Ak} (h : 0 < dCmp v.h v.l x.h x.l) : v.wins x = true := by simp [Ak.wins, h]
theorem Ak.wins_lt {v x : Ak} (h : dCmp v.h v.l x.h x.l < 0) : v.wins x = false := by
  have h1 : ¬ 0 < dCmp v.h v.l x.h x.l := by omega
  have h2 : ¬ dCmp v.h v.l x.h x.l = 0 := by omega
  simp [Ak.wins, h1, h2]
theorem Ak.wins_eq {v x : Ak} (h : dCmp v.h v.l x.h x.l = 0) : v.wins x = v.above x := by
  simp [Ak.wins, h]
def Mk.wins (v x : Mk) : Bool := decide (0 < dCmp v.h v.l x.h x.l) || (decide (dCmp v.h v.l x.h x.l = 0) && v.above x)
theorem Mk.wins_gt {v x : Mk} (h : 0 < dCmp v.h v.l x.h x.l) : v.wins x = true := by simp [Mk.wins, h]
theorem Mk.wins_lt {v x : Mk} (h : dCmp v.h v.l x.h x.l < 0) : v.wins x = false := by
  have h1 : ¬ 0 < dCmp v.h v.l x.h x.l := by omega
  have h2 : ¬ dCmp v.h v.l x.h x.l = 0 := by omega
  simp [Mk.wins, h1, h2]
theorem Mk.wins_eq {v x : Mk} (h : dCmp v.h v.l x.h x.l = 0) : v.wins x = v.above x := by
  simp [Mk.wins, h]
def Bt.wins (v x : Bt) : Bool := decide (0 < dCmp v.h v.l x.h x.l) || (decide (dCmp v.h v.l x.h x.l = 0) && v.above x)
theorem Bt.wins_gt {v x : Bt} (h : 0 < dCmp v.h v.l x.h x.l) : v.wins x = true := by simp [Bt.wins, h]
theorem Bt.wins_lt {v x : Bt} (h : dCmp v.h v.l x.h x.l < 0) : v.wins x = false := by
  have h1 : ¬ 0 < dCmp v.h v.l x.h x.l := by omega
  have h2 : ¬ dCmp v.h v.l x.h x.l = 0 := by omega
  simp [Bt.wins, h1, h2]
theorem Bt.wins_eq {v x : Bt} (h : dCmp v.h v.l x.h x.l = 0) : v.wins x = v.above x := by
  simp [Bt.wins, h]
theorem mAck_node (n : Int) (h : Nat) (l : Nat) (p : Int) (w : World) : (method 345 116 (.agg #[.int .i64 n, .int .u64 (h : Nat), .int .u64 (l : Nat), .int .i64 p]) "amnesia/tally.node").run Try.prog w = .ok (174, .agg #[.int .i64 n, .int .u64 (h : Nat), .int .u64 (l : Nat), .int .i64 p]) w := by kernel_rfl
theorem mAck_draw (n : Int) (h : Nat) (l : Nat) (p : Int) (w : World) : (method 345 116 (.agg #[.int .i64 n, .int .u64 (h : Nat), .int .u64 (l : Nat), .int .i64 p]) "amnesia/tally.draw").run Try.prog w = .ok (172, .agg #[.int .i64 n, .int .u64 (h : Nat), .int .u64 (l : Nat), .int .i64 p]) w := by kernel_rfl
theorem mAck_above (n : Int) (h : Nat) (l : Nat) (p : Int) (w : World) : (method 345 116 (.agg #[.int .i64 n, .int .u64 (h : Nat), .int .u64 (l : Nat), .int .i64 p]) "amnesia/tally.above").run Try.prog w = .ok (171, .agg #[.int .i64 n, .int .u64 (h : Nat), .int .u64 (l : Nat), .int .i64 p]) w := by kernel_rfl
theorem mAck_fresh (n : Int) (h : Nat) (l : Nat) (p : Int) (w : World) : (method 345 116 (.agg #[.int .i64 n, .int .u64 (h : Nat), .int .u64 (l : Nat), .int .i64 p]) "amnesia/tally.fresh").run Try.prog w = .ok (173, .agg #[.int .i64 n, .int .u64 (h : Nat), .int .u64 (l : Nat), .int .i64 p]) w := by kernel_rfl
theorem mMark_node (n : Int) (h : Nat) (l : Nat) (w : World) : (method 345 135 (.agg #[.int .i64 n, .int .u64 (h : Nat), .int .u64 (l : Nat)]) "amnesia/tally.node").run Try.prog w = .ok (182, .agg #[.int .i64 n, .int .u64 (h : Nat), .int .u64 (l : Nat)]) w := by kernel_rfl
theorem mMark_draw (n : Int) (h : Nat) (l : Nat) (w : World) : (method 345 135 (.agg #[.int .i64 n, .int .u64 (h : Nat), .int .u64 (l : Nat)]) "amnesia/tally.draw").run Try.prog w = .ok (180, .agg #[.int .i64 n, .int .u64 (h : Nat), .int .u64 (l : Nat)]) w := by kernel_rfl
theorem mMark_above (n : Int) (h : Nat) (l : Nat) (w : World) : (method 345 135 (.agg #[.int .i64 n, .int .u64 (h : Nat), .int .u64 (l : Nat)]) "amnesia/tally.above").run Try.prog w = .ok (179, .agg #[.int .i64 n, .int .u64 (h : Nat), .int .u64 (l : Nat)]) w := by kernel_rfl
theorem mMark_fresh (n : Int) (h : Nat) (l : Nat) (w : World) : (method 345 135 (.agg #[.int .i64 n, .int .u64 (h : Nat), .int .u64 (l : Nat)]) "amnesia/tally.fresh").run Try.prog w = .ok (181, .agg #[.int .i64 n, .int .u64 (h : Nat), .int .u64 (l : Nat)]) w := by kernel_rfl
theorem mBallot_node (n : Int) (h : Nat) (l : Nat) (v : Int) (c : Int) (A : Option Addr) (m k : Nat) (w : World) : (method 345 144 (.agg #[.int .i64 n, .int .u64 (h : Nat), .int .u64 (l : Nat), .int .i64 v, .int .i64 c, .slice A m k]) "amnesia/tally.node").run Try.prog w = .ok (185, .agg #[.int .i64 n, .int .u64 (h : Nat), .int .u64 (l : Nat), .int .i64 v, .int .i64 c, .slice A m k]) w := by kernel_rfl
theorem mBallot_draw (n : Int) (h : Nat) (l : Nat) (v : Int) (c : Int) (A : Option Addr) (m k : Nat) (w : World) : (method 345 144 (.agg #[.int .i64 n, .int .u64 (h : Nat), .int .u64 (l : Nat), .int .i64 v, .int .i64 c, .slice A m k]) "amnesia/tally.draw").run Try.prog w = .ok (184, .agg #[.int .i64 n, .int .u64 (h : Nat), .int .u64 (l : Nat), .int .i64 v, .int .i64 c, .slice A m k]) w := by kernel_rfl
theorem mBallot_above (n : Int) (h : Nat) (l : Nat) (v : Int) (c : Int) (A : Option Addr) (m k : Nat) (w : World) : (method 345 144 (.agg #[.int .i64 n, .int .u64 (h : Nat), .int .u64 (l : Nat), .int .i64 v, .int .i64 c, .slice A m k]) "amnesia/tally.above").run Try.prog w = .ok (183, .agg #[.int .i64 n, .int .u64 (h : Nat), .int .u64 (l : Nat), .int .i64 v, .int .i64 c, .slice A m k]) w := by kernel_rfl
theorem mBallot_fresh (n : Int) (h : Nat) (l : Nat) (v : Int) (c : Int) (A : Option Addr) (m k : Nat) (w : World) : (method 345 144 (.agg #[.int .i64 n, .int .u64 (h : Nat), .int .u64 (l : Nat), .int .i64 v, .int .i64 c, .slice A m k]) "amnesia/tally.fresh").run Try.prog w = .ok (94, .agg #[.int .i64 n, .int .u64 (h : Nat), .int .u64 (l : Nat), .int .i64 v, .int .i64 c, .slice A m k]) w := by kernel_rfl
theorem mAnswer_node (n : Int) (h : Nat) (l : Nat) (v : Int) (c : Int) (A : Option Addr) (m k : Nat) (w : World) : (method 345 125 (.agg #[.int .i64 n, .int .u64 (h : Nat), .int .u64 (l : Nat), .int .i64 v, .int .i64 c, .slice A m k]) "amnesia/tally.node").run Try.prog w = .ok (177, .agg #[.int .i64 n, .int .u64 (h : Nat), .int .u64 (l : Nat), .int .i64 v, .int .i64 c, .slice A m k]) w := by kernel_rfl
theorem mAnswer_draw (n : Int) (h : Nat) (l : Nat) (v : Int) (c : Int) (A : Option Addr) (m k : Nat) (w : World) : (method 345 125 (.agg #[.int .i64 n, .int .u64 (h : Nat), .int .u64 (l : Nat), .int .i64 v, .int .i64 c, .slice A m k]) "amnesia/tally.draw").run Try.prog w = .ok (176, .agg #[.int .i64 n, .int .u64 (h : Nat), .int .u64 (l : Nat), .int .i64 v, .int .i64 c, .slice A m k]) w := by kernel_rfl
theorem mAnswer_above (n : Int) (h : Nat) (l : Nat) (v : Int) (c : Int) (A : Option Addr) (m k : Nat) (w : World) : (method 345 125 (.agg #[.int .i64 n, .int .u64 (h : Nat), .int .u64 (l : Nat), .int .i64 v, .int .i64 c, .slice A m k]) "amnesia/tally.above").run Try.prog w = .ok (175, .agg #[.int .i64 n, .int .u64 (h : Nat), .int .u64 (l : Nat), .int .i64 v, .int .i64 c, .slice A m k]) w := by kernel_rfl
theorem mAnswer_fresh (n : Int) (h : Nat) (l : Nat) (v : Int) (c : Int) (A : Option Addr) (m k : Nat) (w : World) : (method 345 125 (.agg #[.int .i64 n, .int .u64 (h : Nat), .int .u64 (l : Nat), .int .i64 v, .int .i64 c, .slice A m k]) "amnesia/tally.fresh").run Try.prog w = .ok (83, .agg #[.int .i64 n, .int .u64 (h : Nat), .int .u64 (l : Nat), .int .i64 v, .int .i64 c, .slice A m k]) w := by kernel_rfl
end Go.Proofs.Ytjjobgolpedgeaa
