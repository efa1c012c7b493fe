/-
  Entries and draws in memory; CopyVector, CopyEntries, SameEntries (extracted by gen_mbase.py).
-/
import Derived.Test.YtgmmpbiideeikaaNBase
import Derived.Test.YtgmmpbiideeikaaTBase
set_option linter.unusedVariables false
set_option linter.unusedSimpArgs false
namespace Go.Proofs.Ytgmmpbiideeikaa
open Go.RowKit

/-- an entry of a log -/
structure Et where
  c : Int
  n : Int
  kd : Int
  sl : Int
  v : ByteArray
instance : Inhabited Et := ⟨⟨0, 0, 0, 0, ByteArray.empty⟩⟩
abbrev Et.cells (x : Et) : List Value := [.int .i64 x.c, .int .i64 x.n, .int .i64 x.kd, .int .i64 x.sl, .string x.v]
theorem Et.one (x : Et) : ∀ u ∈ x.cells, u.oneCell' = true := by
  intro u hu
  simp [Et.cells] at hu
  rcases hu with rfl | rfl | rfl | rfl | rfl <;> rfl
theorem eltEntry : Elt Try.prog 32 26 (.agg #[.int .i64 0, .int .i64 0, .int .i64 0, .int .i64 0, .string ByteArray.empty]) 5 48 := ⟨Try.underlying32, by kernel_rfl, rfl, by decide⟩
/-- a draw of a vector -/
structure Dw where
  h : Nat
  l : Nat
instance : Inhabited Dw := ⟨⟨0, 0⟩⟩
abbrev Dw.cells (x : Dw) : List Value := [.int .u64 (x.h : Nat), .int .u64 (x.l : Nat)]
theorem Dw.one (x : Dw) : ∀ u ∈ x.cells, u.oneCell' = true := by
  intro u hu
  simp [Dw.cells] at hu
  rcases hu with rfl | rfl <;> rfl
theorem RdC.atDw {w : World} {A : Option Addr} {n : Nat} {L : List Dw} (h : RdC 2 Dw.cells w A n L) {k : Nat} {x : Dw} (hx : L[k]? = some x) :
    ∃ ad, A = some ad ∧ w.cell? (ad.add (k * 2)) = some (.int .u64 (x.h : Nat)) ∧ w.cell? ⟨(ad.add (k * 2)).block, (ad.add (k * 2)).off + 1, none⟩ = some (.int .u64 (x.l : Nat)) := by
  obtain ⟨ad, e, hc⟩ := h.cell k x hx
  refine ⟨ad, e, hc 0 _ rfl, ?_⟩
  have := hc 1 _ rfl; rw [← add_add] at this; exact this
theorem eltVector : Elt Try.prog 34 31 (.agg #[.int .u64 0, .int .u64 0]) 2 16 := ⟨Try.underlying34, by kernel_rfl, rfl, by decide⟩
theorem RdC.atEt {w : World} {A : Option Addr} {n : Nat} {L : List Et} (h : RdC 5 Et.cells w A n L) {k : Nat} {x : Et} (hx : L[k]? = some x) :
    ∃ ad, A = some ad ∧ w.cell? (ad.add (k * 5)) = some (.int .i64 x.c) ∧ w.cell? ⟨(ad.add (k * 5)).block, (ad.add (k * 5)).off + 1, none⟩ = some (.int .i64 x.n) ∧ w.cell? ⟨(ad.add (k * 5)).block, (ad.add (k * 5)).off + 2, none⟩ = some (.int .i64 x.kd) ∧ w.cell? ⟨(ad.add (k * 5)).block, (ad.add (k * 5)).off + 3, none⟩ = some (.int .i64 x.sl) ∧ w.cell? ⟨(ad.add (k * 5)).block, (ad.add (k * 5)).off + 4, none⟩ = some (.string x.v) := by
  obtain ⟨ad, e, hc⟩ := h.cell k x hx
  refine ⟨ad, e, hc 0 _ rfl, ?_, ?_, ?_, ?_⟩
  · have := hc 1 _ rfl; rw [← add_add] at this; exact this
  · have := hc 2 _ rfl; rw [← add_add] at this; exact this
  · have := hc 3 _ rfl; rw [← add_add] at this; exact this
  · have := hc 4 _ rfl; rw [← add_add] at this; exact this
theorem ba_ne {a b : ByteArray} (h : a ≠ b) : (a.toList == b.toList) = false := by
  rw [beq_eq_false_iff_ne, ne_eq, ByteArray.toList_eq, ByteArray.toList_eq]
  exact fun e => h (ByteArray.ext (Array.toList_inj.mp e))
/-- of two lists as they read: are they one? -/
def SameOut (L M : List Et) (w : World) (e : Ending) (w' : World) : Prop := (∃ b, e = .returned (.bool b) ∧ (b = true ↔ L = M)) ∧ ∃ q, w' = w.drewN q
set_option maxHeartbeats 1600000 in
set_option maxRecDepth 100000 in
theorem sameEntries_any (A B : Option Addr) (n m c d : Nat) (L M : List Et) (w : World) (ha : RdC 5 Et.cells w A n L) (hb : RdC 5 Et.cells w B m M) :
    Calls Try.prog 15 #[.slice A n c, .slice B m d] w (SameOut L M w) := by
  have HA := Lib.hid ha
  have HB := Lib.hid hb
  have hn : (n : Int) ≤ 9223372036854775807 := by have := ha.le; omega
  clear ha hb
  by_cases hnm : n = m
  · subst hnm
    go_enter Try.func15, Try.ntmps15
    go_wp2
    go_loopw [5] (fun i wr => ∃ (k m : Nat), k ≤ n ∧ i = .int .i64 k ∧ Hid (wr = w.drewN m) ∧ Hid (∀ j, j < k → L[j]? = M[j]?)) (fun i _ => n - (intOf i).toNat)
    case atStart => exact ⟨0, 0, by omega, rfl, rfl, fun j hj => by omega⟩
    case round =>
      obtain ⟨k, m, hk, rfl, HR, HE⟩ := hrel
      by_cases hkn : k < n
      · obtain ⟨x, hx⟩ : ∃ x, L[k]? = some x := ⟨_, List.getElem?_eq_getElem (by have := HA.out.len; omega)⟩
        obtain ⟨y, hy⟩ : ∃ y, M[k]? = some y := ⟨_, List.getElem?_eq_getElem (by have := HB.out.len; omega)⟩
        have HA' : RdC 5 Et.cells wr A n L := by rw [HR.out]; exact HA.out.drewN m
        have HB' : RdC 5 Et.cells wr B n M := by rw [HR.out]; exact HB.out.drewN m
        obtain ⟨ad, rfl, g0, g1, g2, g3, g4⟩ := HA'.atEt hx
        obtain ⟨bd, rfl, p0, p1, p2, p3, p4⟩ := HB'.atEt hy
        have e1 : IntKind.i64.wrap ((k : Int) + 1) = (k : Int) + 1 := by rw [IntKind.wrap_i64]; omega
        have hki : (k : Int) < (n : Int) := by omega
        have HXX := Lib.hid hx
        have HYY := Lib.hid hy
        have HKN := Lib.hid hkn
        clear hx hy HA' HB' hkn hk
        go_upto_region 6 with fail
        have nope : ∀ z : x ≠ y, ¬ L = M := fun z e => by
          have h1 := HXX.out
          rw [e, HYY.out] at h1
          cases h1
          exact z rfl
        have NOPE := Lib.hid nope
        clear nope
        obtain ⟨x0, x1, x2, x3, x4⟩ := x
        obtain ⟨y0, y1, y2, y3, y4⟩ := y
        simp only at g0 g1 g2 g3 g4 p0 p1 p2 p3 p4
        by_cases q0 : x0 = y0
        case neg =>
          have hb : (x0 == y0) = false := beq_eq_false_iff_ne.2 q0
          have NO := Lib.hid (NOPE.out (fun e => by injection e with e; exact q0 e))
          clear q0
          go_quiet (fail)
          go_wp2_with fail
          go_ret
          exact ⟨⟨false, rfl, by simp [NO.out]⟩, _, by rw [HR.out, World.drewN_drewN]⟩
        subst q0
        by_cases q1 : x1 = y1
        case neg =>
          have hb : (x1 == y1) = false := beq_eq_false_iff_ne.2 q1
          have NO := Lib.hid (NOPE.out (fun e => by injection e with _ e; exact q1 e))
          clear q1
          go_quiet (fail)
          go_wp2_with fail
          go_ret
          exact ⟨⟨false, rfl, by simp [NO.out]⟩, _, by rw [HR.out, World.drewN_drewN]⟩
        subst q1
        by_cases q2 : x2 = y2
        case neg =>
          have hb : (x2 == y2) = false := beq_eq_false_iff_ne.2 q2
          have NO := Lib.hid (NOPE.out (fun e => by injection e with _ _ e; exact q2 e))
          clear q2
          go_quiet (fail)
          go_wp2_with fail
          go_ret
          exact ⟨⟨false, rfl, by simp [NO.out]⟩, _, by rw [HR.out, World.drewN_drewN]⟩
        subst q2
        by_cases q3 : x3 = y3
        case neg =>
          have hb : (x3 == y3) = false := beq_eq_false_iff_ne.2 q3
          have NO := Lib.hid (NOPE.out (fun e => by injection e with _ _ _ e; exact q3 e))
          clear q3
          go_quiet (fail)
          go_wp2_with fail
          go_ret
          exact ⟨⟨false, rfl, by simp [NO.out]⟩, _, by rw [HR.out, World.drewN_drewN]⟩
        subst q3
        by_cases q4 : x4 = y4
        case neg =>
          have hb : (x4.toList == y4.toList) = false := (ba_ne q4)
          have NO := Lib.hid (NOPE.out (fun e => by injection e with _ _ _ _ e; exact q4 e))
          clear q4
          go_quiet (fail)
          go_wp2_with fail
          go_ret
          exact ⟨⟨false, rfl, by simp [NO.out]⟩, _, by rw [HR.out, World.drewN_drewN]⟩
        subst q4
        go_quiet (fail)
        go_wp2_with fail
        go_roundw
        case rel => exact ⟨k + 1, m + nq, HKN.out, by go_num, by rw [HR.out, World.drewN_drewN]; exact rfl, fun j hj => by
          by_cases e : j = k
          · subst e; rw [HXX.out, HYY.out]
          · exact HE.out j (by omega)⟩
        case measure => have := HKN.out; simp [intOf]; omega
      · obtain rfl : k = n := by omega
        have hki : ¬ (k : Int) < (k : Int) := by omega
        clear hkn hk
        have HEQ : Hid (L = M) := List.ext_getElem? fun j => by
          by_cases hj : j < k
          · exact HE.out j hj
          · rw [List.getElem?_eq_none (by have := HA.out.len; omega), List.getElem?_eq_none (by have := HB.out.len; omega)]
        go_wp2_with fail
        go_ret
        exact ⟨⟨true, rfl, by simp [HEQ.out]⟩, m, HR.out⟩
  · have hb : ((n : Int) == (m : Int)) = false := beq_eq_false_iff_ne.2 (by omega)
    have NO : Hid (¬ L = M) := fun e => hnm (by rw [← HA.out.len, ← HB.out.len, e])
    clear hnm
    go_enter Try.func15, Try.ntmps15
    go_wp2
    go_ret
    exact ⟨⟨false, rfl, by simp [NO.out]⟩, 0, rfl⟩
theorem eltVecs : Elt Try.prog 38 34 (.slice none 0 0) 1 24 := ⟨Try.underlying38, by kernel_rfl, rfl, by decide⟩
theorem rdDw {w : World} {B n : Nat} {e : TypeId} {A : Option Addr} {c : Nat} {L : List Dw} (h : w.ownsRow B e 2 (.slice A n c) n (CL Dw.cells L)) (hl : L.length = n) : RdC 2 Dw.cells w A n L := rdc_own (size := 2) (cells := Dw.cells) (fun _ => rfl) h hl
theorem RdC.chg {α : Type} {S : Nat → Prop} {size : Nat} {cells : α → List Value} {w w1 : World} {A : Option Addr} {n : Nat} {l : List α} (h : RdC size cells w A n l) (hc : Chg S w w1) (hb : ∀ ad, A = some ad → ¬ S ad.block) : RdC size cells w1 A n l :=
  ⟨h.len, h.le, fun j x hj => by
    obtain ⟨ad, e, hcl⟩ := h.cell j x hj
    refine ⟨ad, e, fun i u hu => ?_⟩
    have h1 := hcl i u hu
    exact (World.cell?_of_block (a := ad.add (j * size + i)) (hc.block (ad.add (j * size + i)).block (World.block_lt_of_cell? w _ h1) (by rw [add_block]; exact hb ad e))).trans h1⟩
set_option maxHeartbeats 1600000 in
theorem copyVector_any (A : Option Addr) (n c : Nat) (L : List Dw) (w : World) (h : RdC 2 Dw.cells w A n L) (hA : A = none → n = 0 ∧ c = 0) (hsm : n * 16 ≤ 140737488355328) :
    Calls Try.prog 12 #[.slice A n c] w (RetL 31 2 Dw.cells w L) := by
  have H := Lib.hid h
  have HL := Lib.hid h.len
  have HA := Lib.hid hA
  have HSM := Lib.hid hsm
  clear h hA hsm
  go_enter Try.func12, Try.ntmps12
  go_wp2_with (at_builtin; refine wpList_app rfl (.const (.slice none 0 0)) (.tmp 3) rfl eltVector w.heap.size (.slice none 0 0) 0 [] rfl (World.ownsRow_nil _ _ _ _) A n c (CL Dw.cells L) rfl (by rw [CL_len (size := 2) (fun _ => rfl), HL.out]) HA.out (rdc_news (size := 2) (cells := Dw.cells) (by decide) (fun _ => rfl) H.out) (CL_one (cells := Dw.cells) Dw.one L) ?a3 ?a4 ?a5 ?_)
  case a3 => have := HSM.out; simp only [maxLen]; omega
  case a4 => have := HSM.out; omega
  case a5 => exact Nat.le_refl _
  intro A5 c5 w5 ho5 hg5 _
  have B5 : Hid (Below w.heap.size w w5) := ⟨hg5.os, hg5.tape, hg5.output, hg5.size, fun z hz => hg5.block z hz (fun e => by cases e)⟩
  have O5 : Hid (w5.ownsRow w.heap.size 31 2 (.slice A5 n c5) n (CL Dw.cells L)) := ho5
  clear ho5 hg5
  go_wp2_with fail
  go_ret
  exact ⟨A5, c5, by rw [HL.out]; exact rfl, B5.out, by rw [HL.out]; exact O5.out⟩
abbrev nil10 : List Value := [.slice none 0 0, .slice none 0 0, .slice none 0 0, .slice none 0 0, .slice none 0 0, .slice none 0 0, .slice none 0 0, .slice none 0 0, .slice none 0 0, .slice none 0 0]
theorem below_chg {B : Nat} {S : Nat → Prop} {w w' : World} (h : Chg S w w') (hS : ∀ j, S j → B ≤ j) (hB : B ≤ w.heap.size) : Below B w w' := ⟨h.os, h.tape, h.output, h.size, fun q hq => h.block q (by omega) (fun e => by have := hS q e; omega)⟩
end Go.Proofs.Ytgmmpbiideeikaa
