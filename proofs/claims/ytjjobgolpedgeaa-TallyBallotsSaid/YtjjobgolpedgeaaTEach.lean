/-
  oplog.Each and its closure: the contract for a range over it.
-/
import Derived.Test.YtjjobgolpedgeaaTJoin
import Derived.Test.YtjjobgolpedgeaaTFits
import Derived.RangeFuncNested
import Derived.RangeFuncBound
import Derived.RangeFuncCalls
import Derived.RangeFuncLeaves
import Derived.Shelf.Abstract
import Derived.Shelf.RegionOpen
import Derived.WalkKit
import Derived.OwnWalkIn
import Derived.TacticsInMore
import Derived.LoopNIn
import Derived.LoopIn
set_option linter.unusedVariables false
set_option linter.unusedSimpArgs false
namespace Go.Proofs.Ytjjobgolpedgeaa
open Go.RowKit Go.Shelf

attribute [local go_sem] Oper.semAt_some

theorem RdC.atEt0 {w : World} {g n : Nat} {L : List Et} (h : RdC 5 Et.cells w (some ⟨g, 0, none⟩) n L) {k : Nat} {x : Et} (hx : L[k]? = some x) :
    w.cell? ⟨g, k * 5, none⟩ = some (.int .i64 x.c) ∧ w.cell? ⟨g, k * 5 + 1, none⟩ = some (.int .i64 x.n) ∧ w.cell? ⟨g, k * 5 + 2, none⟩ = some (.int .i64 x.kd) ∧ w.cell? ⟨g, k * 5 + 3, none⟩ = some (.int .i64 x.sl) ∧ w.cell? ⟨g, k * 5 + 4, none⟩ = some (.string x.v) := by
  obtain ⟨ad, e, hc⟩ := h.cell k x hx
  cases e
  refine ⟨?_, ?_, ?_, ?_, ?_⟩
  · have := hc 0 _ rfl; rw [add_at] at this; exact this
  · have := hc 1 _ rfl; rw [add_at] at this; exact this
  · have := hc 2 _ rfl; rw [add_at] at this; exact this
  · have := hc 3 _ rfl; rw [add_at] at this; exact this
  · have := hc 4 _ rfl; rw [add_at] at this; exact this
/-- an entry whose number is an int's -/
abbrev EtW := { x : Et // (Lit.int .i64 x.n).wf = true }
instance : Inhabited EtW := ⟨⟨default, by decide⟩⟩
def EtW.enc (x : Nat × EtW) : Array Value := #[.int .i64 ((x.1 : Int) + 1), .agg #[.int .i64 x.2.1.c, .int .i64 x.2.1.n, .int .i64 x.2.1.kd, .int .i64 x.2.1.sl, .string x.2.1.v]]
/-- what has come behind k rounds -/
def upE (L : List EtW) (k : Nat) : List (Nat × EtW) := (List.range k).map fun j => (j, L[j]?.getD default)
theorem upE_succ (L : List EtW) (k : Nat) : upE L (k + 1) = upE L k ++ [(k, L[k]?.getD default)] := by simp [upE, List.range_succ]
theorem upE_len (L : List EtW) (k : Nat) : (upE L k).length = k := by simp [upE]
/-- the blocks from lo to hi lie as they lay -/
def KpS (lo hi : Nat) (A B : World) : Prop := ∀ k, lo ≤ k → k < hi → B.heap[k]? = A.heap[k]?
theorem KpS.refl (lo hi : Nat) (A : World) : KpS lo hi A A := fun _ _ _ => rfl
theorem KpS.trans {lo hi : Nat} {A B C : World} (h : KpS lo hi A B) (g : KpS lo hi B C) : KpS lo hi A C := fun k h1 h2 => (g k h1 h2).trans (h k h1 h2)
theorem KpS.cell {lo hi : Nat} {A B : World} (h : KpS lo hi A B) {a : Addr} (h1 : lo ≤ a.block) (h2 : a.block < hi) : B.cell? a = A.cell? a := by unfold World.cell?; rw [h a.block h1 h2]
theorem KpS.rd {lo hi : Nat} {A B : World} (h : KpS lo hi A B) {g n : Nat} {L : List Et} (h1 : lo ≤ g) (h2 : g < hi) (hr : RdC 5 Et.cells A (some ⟨g, 0, none⟩) n L) : RdC 5 Et.cells B (some ⟨g, 0, none⟩) n L :=
  ⟨hr.len, hr.le, fun j x hj => by
    obtain ⟨ad, e, hc⟩ := hr.cell j x hj
    cases e
    exact ⟨_, rfl, fun i u hu => (h.cell (a := (⟨g, 0, none⟩ : Addr).add (j * 5 + i)) (by rw [add_at]; exact h1) (by rw [add_at]; exact h2)).trans (hc i u hu)⟩⟩
/-- the iterator's memory -/
structure EachM (w : World) (lo hi b m g n : Nat) (L : List EtW) : Prop where
  b1 : lo ≤ b
  b2 : b < hi
  m1 : lo ≤ m
  m2 : m < hi
  g1 : lo ≤ g
  g2 : g < hi
  cb : w.cell? ⟨b, 0, none⟩ = some (.int .i64 1)
  cm : w.cell? ⟨m, 0, none⟩ = some (.slice (some ⟨g, 0, none⟩) n n)
  rd : RdC 5 Et.cells w (some ⟨g, 0, none⟩) n (L.map (·.1))
theorem EachM.kept {A B : World} {lo hi b m g n : Nat} {L : List EtW} (h : EachM A lo hi b m g n L) (k : KpS lo hi A B) : EachM B lo hi b m g n L :=
  ⟨h.b1, h.b2, h.m1, h.m2, h.g1, h.g2, (k.cell (a := ⟨b, 0, none⟩) h.b1 h.b2).trans h.cb, (k.cell (a := ⟨m, 0, none⟩) h.m1 h.m2).trans h.cm, k.rd h.g1 h.g2 h.rd⟩
set_option maxRecDepth 100000 in
set_option maxHeartbeats 4000000 in
theorem each1_in (F : Fence) (q : Nat) (hf : F.fn 153) (hro : F.round = none) (hq : 1 ≤ q) (l lo hi b m g n : Nat) (L : List EtW) (hsm : n * 48 ≤ 140737488355328) (J Jx : List (Nat × EtW) → World → Prop)
    (hY : ∀ pre x W, J pre W → pre.length < n → YieldAt F (q - 1) Try.prog l (EtW.enc x) W fun e W' =>
      (e = .returned (.bool true) ∧ J (pre ++ [x]) W' ∧ KpS lo hi W W') ∨ (e = .returned (.bool false) ∧ Jx (pre ++ [x]) W'))
    (W : World) (hM : EachM W lo hi b m g n L) (h0 : J [] W) :
    CallsIn F q Try.prog 153 #[.func (.yield l) #[] #[], .pointer (some ⟨b, 0, none⟩), .pointer (some ⟨m, 0, none⟩)] W fun e W' => (∃ v, e = .returned v) ∧
      ((∃ ys, ys = upE L n ∧ J ys W') ∨ (∃ pre, (∃ k, k ≤ n ∧ pre = upE L k) ∧ Jx pre W')) := by
  have HM := Lib.hid hM
  have hn : (n : Int) ≤ 6000000000000 := by omega
  have hLn : Hid ((L.map (·.1)).length = n) := hM.rd.len
  have cb := hM.cb
  clear hM
  refine callsIn_of_wp Try.func153 rfl hf ?_ hro
  simp only [Try.ntmps153, List.size_toArray, List.length_cons, List.length_nil, Nat.reduceAdd, Nat.reduceSub, Array.replicate_succ, Array.replicate_zero, List.push_toArray, List.append_toArray, List.nil_append, List.cons_append]
  gi_wp2
  gi_loopw [4] (fun i wr => ∃ k : Nat, k ≤ n ∧ i = .int .i64 k ∧ J (upE L k) wr ∧ Hid (KpS lo hi W wr))
    (fun i _ => n - (intOf i).toNat)
  case atStart => exact ⟨0, Nat.zero_le _, rfl, h0, KpS.refl _ _ _⟩
  case round =>
    obtain ⟨k, hk, rfl, hJs, hnx⟩ := hrel
    have HM2 := Lib.hid (HM.out.kept hnx.out)
    have cm := HM2.out.cm
    by_cases hlt : k < n
    · obtain ⟨y, hy0⟩ : ∃ y, L[k]? = some y := ⟨_, List.getElem?_eq_getElem (by have := hLn.out; rw [List.length_map] at this; omega)⟩
      obtain ⟨p0, p1, p2, p3, p4⟩ := HM2.out.rd.atEt0 (k := k) (x := y.1) (by rw [List.getElem?_map, hy0]; rfl)
      obtain ⟨fn, tmps, assign, body, hy, hR⟩ := hY _ (k, y) wr hJs (by rw [upE_len]; exact hlt)
      dsimp only [EtW.enc] at hy
      have hki : (k : Int) < (n : Int) := by omega
      have HYY := Lib.hid hy0
      clear hy0
      gi_wp2
      refine hR.mono ?_
      rintro e W3 (⟨rfl, hJ3, hk3⟩ | ⟨rfl, hJx3⟩)
      · gi_wp2
        go_roundw
        case rel => exact ⟨k + 1, by omega, by go_num, by rw [upE_succ, HYY.out]; exact hJ3, hnx.out.trans hk3⟩
        case measure => simp [intOf]; omega
      · gi_wp2
        refine bodyPost_ret (results_none rfl _ _ _) rfl ?_
        exact ⟨⟨_, rfl⟩, .inr ⟨_, ⟨k + 1, by omega, by rw [upE_succ, HYY.out]; rfl⟩, hJx3⟩⟩
    · obtain rfl : k = n := by omega
      gi_wp2
      go_end0
      exact ⟨⟨_, rfl⟩, .inl ⟨_, rfl, hJs⟩⟩
theorem each_stops (F : Fence) (q : Nat) (hf : F.fn 153) (hro : F.round = none) (hq : 1 ≤ q) (lo hi b m g n : Nat) (L : List EtW) (hsm : n * 48 ≤ 140737488355328) (w : World) (hhi : hi ≤ w.heap.size) (hM : EachM w lo hi b m g n L) :
    SeqStopsK F q Try.prog 153 #[.pointer (some ⟨b, 0, none⟩), .pointer (some ⟨m, 0, none⟩)] EtW.enc (KpS lo hi) (fun ys => ys = upE L n) (fun pre => ∃ k, k ≤ n ∧ pre = upE L k) n w := fun l J Jx W hW _ _ hY h0 =>
  each1_in F q hf hro hq l lo hi b m g n L hsm J Jx hY W (hM.kept fun k _ h2 => hW.block k (by omega)) h0
set_option maxRecDepth 100000 in
set_option maxHeartbeats 4000000 in
theorem each_any (A : Option Addr) (n c : Nat) (L : List EtW) (w : World) (h : RdC 5 Et.cells w A n (L.map (·.1))) (hA : A = none → n = 0 ∧ c = 0) (hsm : n * 48 ≤ 140737488355328) :
    Calls Try.prog 149 #[.slice A n c, .int .i64 1] w fun e w' => ∃ b m g, e = .returned (.func (.func 153) #[] #[.pointer (some ⟨b, 0, none⟩), .pointer (some ⟨m, 0, none⟩)]) ∧ Below w.heap.size w w' ∧ EachM w' w.heap.size w'.heap.size b m g n L := by
  have H := Lib.hid h
  have HA := Lib.hid hA
  have HSM := Lib.hid hsm
  have hmf : ∀ (fn : Fn) (first cap : Array Value) (w : World), (Instr.makeFunc fn first cap).run Try.prog w = .ok (.func fn first cap) w := fun _ _ _ _ => rfl
  clear h hA hsm
  go_enter Try.func149, Try.ntmps149
  go_wp2_with fail
  refine (joined_nil A n c (L.map (·.1)) _ (H.out.below (below_al _ _)) HA.out HSM.out).mono ?_
  rintro e w2 ⟨rfl, hlt, hb2, hr2⟩
  have BF := Lib.hid ((Boxed.new w 3 (.int .i64 1)).kept (grown_of_below hb2 none) (by simp))
  have B2 : Hid (Below w.heap.size w w2) := (below_al _ _).trans (hb2.mono (by simp))
  have R2 := Lib.hid hr2
  have HLT := Lib.hid hlt
  clear hlt hb2 hr2
  go_wp2_with fail
  go_ret
  have hz : w.heap.size < w2.heap.size := by have := HLT.out; simp at this; omega
  have B3 := B2.out.alloc B2.out.size (.cells #[.slice (some ⟨(w.alloc (.cells #[.int .i64 1] 3)).heap.size, 0, none⟩) n n] 36)
  have G := HLT.out
  simp only [World.size_alloc] at G
  have BM := Boxed.new w2 36 (.slice (some ⟨(w.alloc (.cells #[.int .i64 1] 3)).heap.size, 0, none⟩) n n)
  have RM := R2.out.below (below_al w2 (.cells #[.slice (some ⟨(w.alloc (.cells #[.int .i64 1] 3)).heap.size, 0, none⟩) n n] 36))
  have BF2 := BF.out.alloc (.cells #[.slice (some ⟨(w.alloc (.cells #[.int .i64 1] 3)).heap.size, 0, none⟩) n n] 36)
  simp only [World.size_alloc] at B3 BM RM BF2
  refine ⟨w.heap.size, w2.heap.size, w.heap.size + 1, rfl, B3, ?_⟩
  refine ⟨Nat.le_refl _, ?_, by omega, ?_, by omega, ?_, BF2.cell, BM.cell, RM⟩
  all_goals (simp only [World.size_alloc]; omega)
end Go.Proofs.Ytjjobgolpedgeaa
