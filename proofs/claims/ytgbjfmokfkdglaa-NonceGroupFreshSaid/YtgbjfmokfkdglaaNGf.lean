/-
  The state of NonceGroupFresh: the group, the two rows beside it; within; the list of acts.
-/
import Derived.Test.YtgbjfmokfkdglaaNGfP
import Derived.Test.YtgbjfmokfkdglaaNOpen2
import Derived.Laws.MakeOwn
set_option linter.unusedVariables false
set_option linter.unusedSimpArgs false
namespace Go.Proofs.Ytgbjfmokfkdglaa
open Go.ChangeShapes Go.WideShapes Go.ChangeAt Go.RowKit

/-! ### acts -/
def av (x : Int × Int × Nat) : List Value := [.int .i64 x.1, .int .i64 x.2.1, .int .u64 (x.2.2 : Nat)]
def AOk (x : Int × Int × Nat) : Prop := (Lit.int .i64 x.2.1).wf = true ∧ x.2.2 < 18446744073709551616
set_option maxRecDepth 100000 in
theorem open_acts {H : Type} {enc : TypeId × Value → H} {W : World} {base : Nat} {v : Value} {d : DataW H} {p : List MemPlace} (hv : Value.okWide Try.prog W .any base 88 v)
    (h : DataW.Trod enc Try.prog W 0 (fun _ => true) true 88 v d p) : ∃ A n c l, v = .slice A n c ∧ SArg Try.prog W 88 3 24 av AOk A n c l d :=
  open_list Try.underlying88 (by kernel_rfl) (by kernel_rfl) (fun _ => rfl) (fun {b fuel sp held cs y} h => by
    obtain ⟨hl, n, hf⟩ := one_fields Try.underlying95 (by kernel_rfl) (by kernel_rfl) h
    obtain ⟨v0, y0, e0, t0⟩ := hf 0 _ rfl
    obtain ⟨v1, y1, e1, t1⟩ := hf 1 _ rfl
    obtain ⟨v2, y2, e2, t2⟩ := hf 2 _ rfl
    obtain ⟨x0, z0, _, w0⟩ := DataW.trod_int Try.underlying3 t0
    obtain ⟨x1, z1, _, w1⟩ := DataW.trod_int Try.underlying3 t1
    obtain ⟨x2, z2, _, w2⟩ := DataW.trod_int Try.underlying23 t2
    simp only [List.cons.injEq, and_true] at z0 z1 z2
    subst z0 z1 z2
    have b2 := bounds_u64 w2
    match cs, hl, e0, e1, e2 with
    | [c0, c1, c2], _, e0, e1, e2 =>
      simp at e0 e1 e2
      subst e0 e1 e2
      refine ⟨(x0, x1, x2.toNat), ?_, w1, ?_⟩
      · simp only [av, Int.toNat_of_nonneg b2.1]
      · simp only; omega) hv h
theorem RdC.act {w : World} {A : Option Addr} {n : Nat} {L : List (Int × Int × Nat)} (h : RdC 3 av w A n L) {k : Nat} {x : Int × Int × Nat} (hx : L[k]? = some x) :
    ∃ ad, A = some ad ∧ w.cell? (ad.add (k * 3)) = some (.int .i64 x.1) ∧ w.cell? ⟨(ad.add (k * 3)).block, (ad.add (k * 3)).off + 1, none⟩ = some (.int .i64 x.2.1) ∧ w.cell? ⟨(ad.add (k * 3)).block, (ad.add (k * 3)).off + 2, none⟩ = some (.int .u64 (x.2.2 : Nat)) := by
  obtain ⟨ad, e, hc⟩ := h.cell k x hx
  refine ⟨ad, e, hc 0 _ rfl, ?_, ?_⟩
  · have := hc 1 _ rfl
    rw [← add_add] at this
    exact this
  · have := hc 2 _ rfl
    rw [← add_add] at this
    exact this
/-! ### within -/
theorem tmod_in (k m : Int) (hm : 0 < m) : -m < k.tmod m ∧ k.tmod m < m := by
  rcases Int.le_total 0 k with h | h
  · rw [Int.tmod_eq_emod_of_nonneg h]
    have := Int.emod_nonneg k (show m ≠ 0 by omega); have := Int.emod_lt_of_pos k hm; omega
  · have e : k.tmod m = -((-k).tmod m) := by rw [Int.neg_tmod, Int.neg_neg]
    rw [e, Int.tmod_eq_emod_of_nonneg (by omega)]
    have := Int.emod_nonneg (-k) (show m ≠ 0 by omega); have := Int.emod_lt_of_pos (-k) hm; omega
theorem within_any (k : Int) (m : Nat) (w : World) (hm : m ≤ 1000) (wk : (Lit.int .i64 k).wf = true) :
    Calls Try.prog 37 #[.int .i64 k, .int .i64 (m : Nat)] w fun e w' => (∃ r : Nat, r ≤ m ∧ e = .returned (.int .i64 (r : Nat))) ∧ w = w' := by
  have b := bounds_i64 wk
  have hmi : (0 : Int) ≤ (m : Int) := by omega
  have hm2 : (m : Int) ≤ 1000 := by omega
  have ht := tmod_in k ((m : Int) + 1) (by omega)
  have e1 : IntKind.i64.wrap ((m : Int) + 1) = (m : Int) + 1 := by rw [IntKind.wrap_i64]; omega
  go_enter Try.func37, Try.ntmps37
  go_wp2
  · go_ret
    exact ⟨⟨(k.tmod ((m : Int) + 1) + m + 1).toNat, by omega, ret_int (by omega)⟩, rfl⟩
  · go_ret
    exact ⟨⟨(k.tmod ((m : Int) + 1)).toNat, by omega, ret_int (by omega)⟩, rfl⟩
/-! ### the state -/
def bRow (n : Nat) (f : Nat → Bool) : List Value := (List.range n).map fun i => .bool (f i)
def iRow (n : Nat) (f : Nat → Nat) : List Value := (List.range n).map fun i => .int .i64 (f i : Nat)
theorem bRow_len (n : Nat) (f : Nat → Bool) : (bRow n f).length = n := by simp [bRow]
theorem iRow_len (n : Nat) (f : Nat → Nat) : (iRow n f).length = n := by simp [iRow]
theorem bRow_get {n : Nat} (f : Nat → Bool) {k : Nat} (h : k < n) : (bRow n f)[k]? = some (.bool (f k)) := by simp [bRow, h]
theorem iRow_get {n : Nat} (f : Nat → Nat) {k : Nat} (h : k < n) : (iRow n f)[k]? = some (.int .i64 (f k : Nat)) := by simp [iRow, h]
theorem map_set {α : Type} (n k : Nat) (f : Nat → α) (v : α) : ((List.range n).map f).set k v = (List.range n).map fun i => if i = k then v else f i := by
  refine List.ext_getElem? fun i => ?_
  by_cases hi : i < n
  · by_cases e : i = k
    · subst e; rw [List.getElem?_set_self (by simpa using hi)]; simp [hi]
    · rw [List.getElem?_set_ne (Ne.symm e)]; simp [hi, e]
  · rw [List.getElem?_eq_none (by simpa using hi), List.getElem?_eq_none (by simpa using hi)]
theorem bRow_set (n k : Nat) (f : Nat → Bool) (v : Bool) : (bRow n f).set k (.bool v) = bRow n fun i => if i = k then v else f i := by
  unfold bRow; rw [map_set]; congr 1; funext i; by_cases e : i = k <;> simp [e]
theorem iRow_set (n k : Nat) (f : Nat → Nat) (v : Nat) : (iRow n f).set k (.int .i64 (v : Nat)) = iRow n fun i => if i = k then v else f i := by
  unfold iRow; rw [map_set]; congr 1; funext i; by_cases e : i = k <;> simp [e]
theorem bRow_zero (n : Nat) : (madeCells #[.bool false] n).toList = bRow n fun _ => false := by
  simp only [madeCells, bRow, Array.toList_map, Array.toList_range]
  exact List.map_congr_left fun i _ => by simp [Nat.mod_one]
theorem iRow_zero (n : Nat) : (madeCells #[.int .i64 0] n).toList = iRow n fun _ => 0 := by
  simp only [madeCells, iRow, Array.toList_map, Array.toList_range]
  exact List.map_congr_left fun i _ => by simp [Nat.mod_one]
/-- the group, and the two rows beside it -/
structure Fs (W : World) (B b sb pb c n : Nat) (pp : Nat → Nat) (cp cs : Nat) (bw bc : Nat) (w : World) (D : Option Addr) (cd : Nat) (l : List St) (a : Nat) (mq : Nat → Nat × Nat) (wi : Nat → Bool) (cn : Nat → Nat) : Prop where
  g : Gr W B b sb pb c n pp cp cs w D cd l a mq
  hg : GrB W B b sb pb c n pp
  ow : Ob w bw (bRow n wi)
  oc : Ob w bc (iRow n cn)
  hw : B ≤ bw ∧ B ≤ bc ∧ bw ≠ bc
  dw : ∀ j, (Value.slice D l.length cd).ownBlock = some j → bw ≠ j ∧ bc ≠ j
  n0 : 0 < n
theorem Fs.step {W : World} {B b sb pb c n : Nat} {pp : Nat → Nat} {cp cs bw bc : Nat} {w w' : World} {D D' : Option Addr} {cd cd' : Nat} {l l' : List St} {a a' : Nat} {mq mq' : Nat → Nat × Nat} {wi : Nat → Bool} {cn : Nat → Nat} (h : Fs W B b sb pb c n pp cp cs bw bc w D cd l a mq wi cn)
    (g : Gr W B b sb pb c n pp cp cs w' D' cd' l' a' mq') (s : GrS B (.slice D l.length cd) w w' (.slice D' l'.length cd')) : Fs W B b sb pb c n pp cp cs bw bc w' D' cd' l' a' mq' wi cn := by
  obtain ⟨h1, h2, h3⟩ := h.hw
  have n0 := h.n0
  have l1 := h.ow.lt (by rw [bRow_len]; exact n0)
  have l2 := h.oc.lt (by rw [iRow_len]; exact n0)
  refine ⟨g, h.hg, h.ow.chg s.chg ?_, h.oc.chg s.chg ?_, h.hw, fun j e => ?_, n0⟩
  · rintro (e | e)
    · omega
    · exact (h.dw _ e).1 rfl
  · rintro (e | e)
    · omega
    · exact (h.dw _ e).2 rfl
  · rcases s.new j e with e1 | e1
    · exact h.dw j e1
    · omega
theorem Fs.grow {W : World} {B b sb pb c n : Nat} {pp : Nat → Nat} {cp cs bw bc : Nat} {w w' : World} {D : Option Addr} {cd : Nat} {l : List St} {a : Nat} {mq : Nat → Nat × Nat} {wi : Nat → Bool} {cn : Nat → Nat} (h : Fs W B b sb pb c n pp cp cs bw bc w D cd l a mq wi cn) (g : w.grownBy w' none) : Fs W B b sb pb c n pp cp cs bw bc w' D cd l a mq wi cn :=
  ⟨h.g.grow h.hg g, h.hg, h.ow.kept g (by simp), h.oc.kept g (by simp), h.hw, h.dw, h.n0⟩
theorem Fs.setW {W : World} {B b sb pb c n : Nat} {pp : Nat → Nat} {cp cs bw bc : Nat} {w : World} {D : Option Addr} {cd : Nat} {l : List St} {a : Nat} {mq : Nat → Nat × Nat} {wi : Nat → Bool} {cn : Nat → Nat} (h : Fs W B b sb pb c n pp cp cs bw bc w D cd l a mq wi cn) {k : Nat} (hk : k < n) (v : Bool) : Fs W B b sb pb c n pp cp cs bw bc (w.setCell ⟨bw, k, none⟩ (.bool v)) D cd l a mq (fun i => if i = k then v else wi i) cn := by
  obtain ⟨h1, h2, h3⟩ := h.hw
  have g := grown_setCell w ⟨bw, k, none⟩ (.bool v)
  exact ⟨h.g.other h.hg g h1 (fun e => (h.dw _ e).1 rfl), h.hg, by rw [← bRow_set]; exact h.ow.set k (by rw [bRow_len]; exact hk) _, h.oc.kept g (by simp; exact Ne.symm h3), h.hw, h.dw, h.n0⟩
theorem Fs.setC {W : World} {B b sb pb c n : Nat} {pp : Nat → Nat} {cp cs bw bc : Nat} {w : World} {D : Option Addr} {cd : Nat} {l : List St} {a : Nat} {mq : Nat → Nat × Nat} {wi : Nat → Bool} {cn : Nat → Nat} (h : Fs W B b sb pb c n pp cp cs bw bc w D cd l a mq wi cn) {k : Nat} (hk : k < n) (v : Nat) : Fs W B b sb pb c n pp cp cs bw bc (w.setCell ⟨bc, k, none⟩ (.int .i64 (v : Nat))) D cd l a mq wi (fun i => if i = k then v else cn i) := by
  obtain ⟨h1, h2, h3⟩ := h.hw
  have g := grown_setCell w ⟨bc, k, none⟩ (.int .i64 (v : Nat))
  exact ⟨h.g.other h.hg g h2 (fun e => (h.dw _ e).2 rfl), h.hg, h.ow.kept g (by simp; exact h3), by rw [← iRow_set]; exact h.oc.set k (by rw [iRow_len]; exact hk) _, h.hw, h.dw, h.n0⟩
theorem Fs.setC' {W : World} {B b sb pb c n : Nat} {pp : Nat → Nat} {cp cs bw bc : Nat} {w : World} {D : Option Addr} {cd : Nat} {l : List St} {a : Nat} {mq : Nat → Nat × Nat} {wi : Nat → Bool} {cn : Nat → Nat} (h : Fs W B b sb pb c n pp cp cs bw bc w D cd l a mq wi cn) {k : Nat} (hk : k < n) {y : Int} (v : Nat) (hy : y = v) : Fs W B b sb pb c n pp cp cs bw bc (w.setCell ⟨bc, k, none⟩ (.int .i64 y)) D cd l a mq wi (fun i => if i = k then v else cn i) := by
  subst hy
  exact h.setC hk v
end Go.Proofs.Ytgbjfmokfkdglaa
