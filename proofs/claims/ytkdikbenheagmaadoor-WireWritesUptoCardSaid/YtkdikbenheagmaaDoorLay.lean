/-
  The walk of 'lay': a thing is laid down by the program's writer.
-/
import Derived.Test.YtkdikbenheagmaaDoorPuts
set_option linter.unusedVariables false
set_option linter.unusedSimpArgs false
namespace Go.Proofs.YtkdikbenheagmaaDoor
open Go.RowKit

def wLay (s : WS) (x : PutV) : WS :=
  if x.kind = 0 then wNum s x.v.toNat else if x.kind = 1 then wInt s x.n else if x.kind = 2 then wCount s x.n x.most else wText s x.s.data.toList x.most
theorem WAt.kept {w w' : World} {p : Nat} {s : WS} (h : WAt w p s) (hg : w.grownBy w' none) : WAt w' p s := by
  obtain ⟨A, c, h⟩ := h
  have hb : w'.heap[p]? = w.heap[p]? := hg.block p (World.block_lt_of_cell? w _ h.buf) (by simp)
  refine ⟨A, c, ?_, ?_, ?_, ?_, ?_⟩
  · exact (World.cell?_of_block (a := ⟨p, 0, none⟩) hb).trans h.buf
  · exact h.own.kept hg (by cases (Value.slice A s.1.length c).ownBlock <;> simp)
  · exact (World.cell?_of_block (a := ⟨p, 1, none⟩) hb).trans h.err
  · exact (World.frozen?_of_block (a := ⟨p, 0, none⟩) hb).trans h.f0
  · exact (World.frozen?_of_block (a := ⟨p, 1, none⟩) hb).trans h.f1
theorem WAt.lt {w : World} {p : Nat} {s : WS} (h : WAt w p s) : p < w.heap.size := by
  obtain ⟨A, c, h⟩ := h
  exact World.block_lt_of_cell? w _ h.buf

set_option maxRecDepth 100000 in
set_option maxHeartbeats 400000 in
theorem lay_any (p : Nat) (x : PutV) (s : WS) (w : World) (h : WAt w p s) (hx : x.Ok) (hb : s.1.length + 9 + x.s.size ≤ 140737488355328) :
    Calls Tryd.prog 26 #[.pointer (some ⟨p, 0, none⟩), .agg #[.int .i64 x.kind, .int .u64 x.v, .int .i64 x.n, .int .i64 x.most, .string x.s]] w (Wrote p (wLay s x) w) := by
  have hp := h.lt
  have H := Lib.hid (h.kept (World.grownBy_alloc w (.cells #[.int .i64 x.kind, .int .u64 x.v, .int .i64 x.n, .int .i64 x.most, .string x.s] 50) none))
  have B : Hid (Below p w (w.alloc (.cells #[.int .i64 x.kind, .int .u64 x.v, .int .i64 x.n, .int .i64 x.most, .string x.s] 50))) := (Below.refl p w).alloc (by omega) _
  have HX := Lib.hid hx
  clear h hx
  by_cases k0 : x.kind = 0
  · have HE : wLay s x = wNum s x.v.toNat := by unfold wLay; rw [if_pos k0]
    rw [HE]
    have hk : (x.kind == 0) = true := beq_iff_eq.2 k0
    have hv := Int.toNat_of_nonneg HX.out.v0
    have F := number_any p x.v.toNat (by have := HX.out.v1; omega) s _ H.out (by omega)
    rw [hv] at F
    have F := Lib.hid F
    clear HE k0 hv
    go_enter Tryd.func26, Tryd.ntmps26
    go_wp2_with fail
    refine F.out.mono ?_
    rintro e w' ⟨rfl, h1, h2⟩
    have h1 := Lib.hid h1
    have h2 := Lib.hid h2
    go_wp2
    go_end0
    exact ⟨rfl, B.out.trans h1.out, h2.out⟩
  · have hk0 : (x.kind == 0) = false := beq_eq_false_iff_ne.2 k0
    by_cases k1 : x.kind = 1
    · have HE : wLay s x = wInt s x.n := by unfold wLay; rw [if_neg k0, if_pos k1]
      rw [HE]
      have hk : (x.kind == 1) = true := beq_iff_eq.2 k1
      have F := Lib.hid (int_any p x.n ⟨HX.out.n0, HX.out.n1⟩ s _ H.out (by omega))
      clear HE k0 k1
      go_enter Tryd.func26, Tryd.ntmps26
      go_wp2_with fail
      refine F.out.mono ?_
      rintro e w' ⟨rfl, h1, h2⟩
      have h1 := Lib.hid h1
      have h2 := Lib.hid h2
      go_wp2
      go_end0
      exact ⟨rfl, B.out.trans h1.out, h2.out⟩
    · have hk1 : (x.kind == 1) = false := beq_eq_false_iff_ne.2 k1
      by_cases k2 : x.kind = 2
      · have HE : wLay s x = wCount s x.n x.most := by unfold wLay; rw [if_neg k0, if_neg k1, if_pos k2]
        rw [HE]
        have hk : (x.kind == 2) = true := beq_iff_eq.2 k2
        have F := Lib.hid (count_any p x.n x.most ⟨HX.out.n0, HX.out.n1⟩ s _ H.out (by omega))
        clear HE k0 k1 k2
        go_enter Tryd.func26, Tryd.ntmps26
        go_wp2_with fail
        refine F.out.mono ?_
        rintro e w' ⟨rfl, h1, h2⟩
        have h1 := Lib.hid h1
        have h2 := Lib.hid h2
        go_wp2
        go_end0
        exact ⟨rfl, B.out.trans h1.out, h2.out⟩
      · have HE : wLay s x = wText s x.s.data.toList x.most := by unfold wLay; rw [if_neg k0, if_neg k1, if_neg k2]
        rw [HE]
        have hk2 : (x.kind == 2) = false := beq_eq_false_iff_ne.2 k2
        have F := Lib.hid (text_any p x.s x.most (by omega) s _ H.out hb)
        clear HE k0 k1 k2
        go_enter Tryd.func26, Tryd.ntmps26
        go_wp2_with fail
        refine F.out.mono ?_
        rintro e w' ⟨rfl, h1, h2⟩
        have h1 := Lib.hid h1
        have h2 := Lib.hid h2
        go_wp2
        go_end0
        exact ⟨rfl, B.out.trans h1.out, h2.out⟩
theorem wLay_len (s : WS) (x : PutV) (hx : x.Ok) : (wLay s x).1.length ≤ s.1.length + (x.s.size + 9) := by
  have hl : x.s.data.toList.length = x.s.size := by rw [Array.length_toList]; rfl
  have hv := Wire.nby_le8 (v := x.v.toNat) (by have := hx.v0; have := hx.v1; omega)
  have hn := Wire.nby_le8 (v := x.n.toNat) (by have := hx.n1; omega)
  have hc := wCount_len s x.n x.most hx.n1
  have ht := wCount_len s (x.s.data.toList.length : Int) x.most (by rw [hl]; have := hx.s1; omega)
  unfold wLay
  split
  · unfold wNum; split
    · rw [List.length_append, Wire.form_length]; omega
    · omega
  · split
    · unfold wInt; split
      · split
        · simp only; omega
        · rw [List.length_append, Wire.form_length]; omega
      · omega
    · split
      · omega
      · unfold wText
        split
        · simp only [List.length_append]; omega
        · omega
end Go.Proofs.YtkdikbenheagmaaDoor
