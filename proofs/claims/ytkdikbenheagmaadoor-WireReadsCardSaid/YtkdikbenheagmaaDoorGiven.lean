/-
  Things handed in with a mark behind them (amnesiaplain.Given): the state, and the walks of CopyBytes, Given.Bytes and Given.Intact.
-/
import Derived.Test.YtkdikbenheagmaaDoorUnseal
set_option linter.unusedVariables false
set_option linter.unusedSimpArgs false
namespace Go.Proofs.YtkdikbenheagmaaDoor
open Go.RowKit

structure GR where
  A : Option Addr
  n : Nat
  c : Nat
  bs : List UInt8
def GR.v (x : GR) : Value := .slice x.A x.n x.c
/-- one of the lists: it reads; its memory is none of the rows' -/
def GR.Ok (w : World) (p : Nat) (b0 b1 : Option Nat) (x : GR) : Prop :=
  Rd w x.A x.n x.bs ∧ (x.A = none → x.n = 0 ∧ x.c = 0) ∧ x.n ≤ x.c ∧ ∀ ad, x.A = some ad → p < ad.block ∧ ad.block < w.heap.size ∧ some ad.block ≠ b0 ∧ some ad.block ≠ b1
structure Gv (w : World) (p : Nat) (G : Option Addr) (c : Nat) (G' : Option Addr) (c' : Nat) (xs ys : List GR) : Prop where
  c0 : w.cell? ⟨p, 0, none⟩ = some (.slice G xs.length c)
  c1 : w.cell? ⟨p, 1, none⟩ = some (.slice G' ys.length c')
  f0 : w.frozen? ⟨p, 0, none⟩ = false
  f1 : w.frozen? ⟨p, 1, none⟩ = false
  rest : ∀ j, 2 ≤ j → j < 10 → w.cell? ⟨p, j, none⟩ = some (.slice none 0 0)
  o0 : w.ownsRow (p + 1) 22 1 (.slice G xs.length c) xs.length (xs.map GR.v)
  o1 : w.ownsRow (p + 1) 22 1 (.slice G' ys.length c') ys.length (ys.map GR.v)
  ne : ∀ b, (Value.slice G xs.length c).ownBlock = some b → (Value.slice G' ys.length c').ownBlock = some b → False
  e0 : ∀ x ∈ xs, x.Ok w p (Value.slice G xs.length c).ownBlock (Value.slice G' ys.length c').ownBlock
  e1 : ∀ x ∈ ys, x.Ok w p (Value.slice G xs.length c).ownBlock (Value.slice G' ys.length c').ownBlock
theorem Gv.lt {w : World} {p : Nat} {G : Option Addr} {c : Nat} {G' : Option Addr} {c' : Nat} {xs ys : List GR} (h : Gv w p G c G' c' xs ys) : p < w.heap.size := World.block_lt_of_cell? w _ h.c0
theorem GR.Ok.below {w w1 : World} {p : Nat} {b0 b1 : Option Nat} {x : GR} (h : x.Ok w p b0 b1) (hb : Below w.heap.size w w1) : x.Ok w1 p b0 b1 :=
  ⟨h.1.below hb, h.2.1, h.2.2.1, fun ad e => by have h4 := h.2.2.2 ad e; have := hb.size; exact ⟨by omega, by omega, h4.2.2⟩⟩
theorem below_of_grown {w w1 : World} (h : w.grownBy w1 none) : Below w.heap.size w w1 := (Below.refl _ _).grown h (Nat.le_refl _) (fun _ e => by cases e)
theorem Gv.below {w w1 : World} {p : Nat} {G : Option Addr} {c : Nat} {G' : Option Addr} {c' : Nat} {xs ys : List GR} (h : Gv w p G c G' c' xs ys) (hb : Below w.heap.size w w1) : Gv w1 p G c G' c' xs ys := by
  have hp := h.lt
  have B := bcell hb
  refine ⟨(B.1 _ _ hp).trans h.c0, (B.1 _ _ hp).trans h.c1, (B.2 _ _ hp).trans h.f0, (B.2 _ _ hp).trans h.f1, fun j h2 h10 => (B.1 _ _ hp).trans (h.rest j h2 h10), ?_, ?_, h.ne, fun x hx => (h.e0 x hx).below hb, fun x hx => (h.e1 x hx).below hb⟩
  · exact h.o0.kept (grown_of_below hb none) (by cases (Value.slice G xs.length c).ownBlock <;> simp)
  · exact h.o1.kept (grown_of_below hb none) (by cases (Value.slice G' ys.length c').ownBlock <;> simp)
/-- an element behind an append to the row b0, and the store of the row's slice -/
theorem GR.Ok.step {w w1 : World} {p : Nat} {b0 b1 b2 : Option Nat} {x : GR} (h : x.Ok w p b0 b1) (hg : w.grownBy w1 b0) {H : Nat} (hb : b2 = b0 ∨ b2 = some H) (hH : w.heap.size ≤ H) (i : Nat) (u : Value) : x.Ok (w1.setCell ⟨p, i, none⟩ u) p b2 b1 := by
  refine ⟨(h.1.grown hg fun ad e => (h.2.2.2 ad e).2.2.1).grown (grown_setCell w1 ⟨p, i, none⟩ u) (fun ad e => by have := (h.2.2.2 ad e).1; simp; omega), h.2.1, h.2.2.1, fun ad e => ?_⟩
  have h4 := h.2.2.2 ad e
  refine ⟨h4.1, ?_, ?_, h4.2.2.2⟩
  · have := hg.size
    simp; omega
  · rcases hb with rfl | rfl
    · exact h4.2.2.1
    · intro e2
      cases e2
      omega
theorem GR.Ok.flip {w : World} {p : Nat} {b0 b1 : Option Nat} {x : GR} (h : x.Ok w p b0 b1) : x.Ok w p b1 b0 := ⟨h.1, h.2.1, h.2.2.1, fun ad e => by have h4 := h.2.2.2 ad e; exact ⟨h4.1, h4.2.1, h4.2.2.2, h4.2.2.1⟩⟩
theorem own_setp {w : World} {p : Nat} {e : TypeId} {size n : Nat} {v : Value} {l : List Value} (h : w.ownsRow (p + 1) e size v n l) (i : Nat) (u : Value) : (w.setCell ⟨p, i, none⟩ u).ownsRow (p + 1) e size v n l := ownsRow_setCell_below h (by show p < p + 1; omega) u
/-- one more in the first row -/
theorem Gv.push0 {w w1 : World} {p : Nat} {G : Option Addr} {c : Nat} {G' : Option Addr} {c' : Nat} {xs ys : List GR} (h : Gv w p G c G' c' xs ys) {x : GR} (hx : x.Ok w p (Value.slice G xs.length c).ownBlock (Value.slice G' ys.length c').ownBlock)
    {G2 : Option Addr} {c2 : Nat} (ho : w1.ownsRow (p + 1) 22 1 (.slice G2 (xs.length + 1) c2) (xs.length + 1) (xs.map GR.v ++ [x.v])) (hg : w.grownBy w1 (Value.slice G xs.length c).ownBlock)
    {H : Nat} (hb : (Value.slice G2 (xs.length + 1) c2).ownBlock = (Value.slice G xs.length c).ownBlock ∨ (Value.slice G2 (xs.length + 1) c2).ownBlock = some H) (hH : w.heap.size ≤ H) :
    Gv (w1.setCell ⟨p, 0, none⟩ (.slice G2 (xs.length + 1) c2)) p G2 c2 G' c' (xs ++ [x]) ys := by
  have hp := h.lt
  have hpG : some p ≠ (Value.slice G xs.length c).ownBlock := fun e => by have := (h.o0.lt _ e.symm).1; omega
  have hkeep : ∀ j, w1.cell? ⟨p, j, none⟩ = w.cell? ⟨p, j, none⟩ := fun j => World.cell?_of_block (a := ⟨p, j, none⟩) (hg.block p hp hpG)
  have hkeepf : ∀ j, w1.frozen? ⟨p, j, none⟩ = w.frozen? ⟨p, j, none⟩ := fun j => World.frozen?_of_block (a := ⟨p, j, none⟩) (hg.block p hp hpG)
  have hlen : (xs ++ [x]).length = xs.length + 1 := by simp
  refine ⟨?_, ?_, ?_, ?_, fun j h2 h10 => ?_, ?_, ?_, ?_, ?_, ?_⟩
  · rw [hlen]; exact World.cell?_setCell_same _ _ _ ((hkeep 0).trans h.c0)
  · rw [World.cell?_setCell_other _ _ _ _ (by simp)]; exact (hkeep 1).trans h.c1
  · rw [World.frozen?_setCell]; exact (hkeepf 0).trans h.f0
  · rw [World.frozen?_setCell]; exact (hkeepf 1).trans h.f1
  · rw [World.cell?_setCell_other _ _ _ _ (by intro e; simp at e; try omega)]; exact (hkeep j).trans (h.rest j h2 h10)
  · rw [hlen, List.map_append]; exact own_setp ho 0 _
  · refine own_setp (h.o1.kept hg ?_) 0 _
    cases h6 : (Value.slice G' ys.length c').ownBlock with
    | none => exact .inl rfl
    | some b => exact .inr fun e => h.ne b e.symm h6
  · rw [hlen]
    intro b e1 e2
    rcases hb with hb | hb
    · exact h.ne b (hb ▸ e1) e2
    · rw [hb] at e1
      cases e1
      have := (h.o1.lt _ e2).2
      omega
  · rw [hlen]
    intro y hy
    rcases List.mem_append.1 hy with hy | hy
    · exact (h.e0 y hy).step hg hb hH 0 _
    · rw [List.mem_singleton.1 hy]; exact hx.step hg hb hH 0 _
  · rw [hlen]
    intro y hy
    exact (h.e1 y hy).step hg hb hH 0 _
/-- one more in the second row -/
theorem Gv.push1 {w w1 : World} {p : Nat} {G : Option Addr} {c : Nat} {G' : Option Addr} {c' : Nat} {xs ys : List GR} (h : Gv w p G c G' c' xs ys) {x : GR} (hx : x.Ok w p (Value.slice G xs.length c).ownBlock (Value.slice G' ys.length c').ownBlock)
    {G2 : Option Addr} {c2 : Nat} (ho : w1.ownsRow (p + 1) 22 1 (.slice G2 (ys.length + 1) c2) (ys.length + 1) (ys.map GR.v ++ [x.v])) (hg : w.grownBy w1 (Value.slice G' ys.length c').ownBlock)
    {H : Nat} (hb : (Value.slice G2 (ys.length + 1) c2).ownBlock = (Value.slice G' ys.length c').ownBlock ∨ (Value.slice G2 (ys.length + 1) c2).ownBlock = some H) (hH : w.heap.size ≤ H) :
    Gv (w1.setCell ⟨p, 1, none⟩ (.slice G2 (ys.length + 1) c2)) p G c G2 c2 xs (ys ++ [x]) := by
  have hp := h.lt
  have hpG : some p ≠ (Value.slice G' ys.length c').ownBlock := fun e => by have := (h.o1.lt _ e.symm).1; omega
  have hkeep : ∀ j, w1.cell? ⟨p, j, none⟩ = w.cell? ⟨p, j, none⟩ := fun j => World.cell?_of_block (a := ⟨p, j, none⟩) (hg.block p hp hpG)
  have hkeepf : ∀ j, w1.frozen? ⟨p, j, none⟩ = w.frozen? ⟨p, j, none⟩ := fun j => World.frozen?_of_block (a := ⟨p, j, none⟩) (hg.block p hp hpG)
  have hlen : (ys ++ [x]).length = ys.length + 1 := by simp
  refine ⟨?_, ?_, ?_, ?_, fun j h2 h10 => ?_, ?_, ?_, ?_, ?_, ?_⟩
  · rw [World.cell?_setCell_other _ _ _ _ (by simp)]; exact (hkeep 0).trans h.c0
  · rw [hlen]; exact World.cell?_setCell_same _ _ _ ((hkeep 1).trans h.c1)
  · rw [World.frozen?_setCell]; exact (hkeepf 0).trans h.f0
  · rw [World.frozen?_setCell]; exact (hkeepf 1).trans h.f1
  · rw [World.cell?_setCell_other _ _ _ _ (by intro e; simp at e; try omega)]; exact (hkeep j).trans (h.rest j h2 h10)
  · refine own_setp (h.o0.kept hg ?_) 1 _
    cases h6 : (Value.slice G xs.length c).ownBlock with
    | none => exact .inl rfl
    | some b => exact .inr fun e => h.ne b h6 e.symm
  · rw [hlen, List.map_append]; exact own_setp ho 1 _
  · rw [hlen]
    intro b e1 e2
    rcases hb with hb | hb
    · exact h.ne b e1 (hb ▸ e2)
    · rw [hb] at e2
      cases e2
      have := (h.o0.lt _ e1).2
      omega
  · rw [hlen]
    intro y hy
    exact ((h.e0 y hy).flip.step hg hb hH 1 _).flip
  · rw [hlen]
    intro y hy
    rcases List.mem_append.1 hy with hy | hy
    · exact ((h.e1 y hy).flip.step hg hb hH 1 _).flip
    · rw [List.mem_singleton.1 hy]; exact (hx.flip.step hg hb hH 1 _).flip
theorem eltSlice : Elt Tryd.prog 27 22 (.slice none 0 0) 1 24 := ⟨Tryd.underlying27, by kernel_rfl, rfl, by decide⟩

set_option maxHeartbeats 400000 in
theorem copyBytes_any (A : Option Addr) (n c : Nat) (bs : List UInt8) (w : World) (hr : Rd w A n bs) (hA : A = none → n = 0 ∧ c = 0) (hb : n ≤ 140737488355328) :
    Calls Tryd.prog 48 #[.slice A n c] w fun e w' => ∃ A' c', e = .returned (.slice A' n c') ∧ Below w.heap.size w w' ∧ w'.ownsRow w.heap.size 5 1 (.slice A' n c') n (Bv bs) := by
  have HR := Lib.hid hr
  have HA := Lib.hid hA
  have RN := Lib.hid hr.news
  have RL := Lib.hid hr.lenBv
  clear hr hA
  go_enter Tryd.func48, Tryd.ntmps48
  go_wp2_with (at_builtin; refine wpList_app rfl (.const (.slice none 0 0)) (.tmp 3) rfl eltByte w.heap.size (.slice none 0 0) 0 [] rfl (World.ownsRow_nil _ _ _ _) A n c (Bv bs) rfl RL.out HA.out RN.out (Bv_one _) ?c3 ?c4 (Nat.le_refl _) ?_)
  case c3 => simp only [maxLen]; omega
  case c4 => omega
  intro A4 c4 w4 hown4 hgrow4 _
  have H4 : Hid (w4.ownsRow w.heap.size 5 1 (.slice A4 n c4) n (Bv bs)) := hown4
  have G4 := Lib.hid hgrow4
  clear hown4 hgrow4
  go_wp2
  go_ret
  exact ⟨A4, c4, rfl, (Below.refl _ _).grown G4.out (Nat.le_refl _) (fun b e => by cases e), H4.out⟩
theorem Gv.at0 {w w1 : World} {p : Nat} {G : Option Addr} {c : Nat} {G' : Option Addr} {c' : Nat} {xs ys : List GR} (h : Gv w p G c G' c' xs ys) (hg : w.grownBy w1 (Value.slice G xs.length c).ownBlock) :
    w1.cell? ⟨p, 0, none⟩ = some (.slice G xs.length c) ∧ w1.frozen? ⟨p, 0, none⟩ = false := by
  have hpG : some p ≠ (Value.slice G xs.length c).ownBlock := fun e => by have := (h.o0.lt _ e.symm).1; omega
  exact ⟨(World.cell?_of_block (a := ⟨p, 0, none⟩) (hg.block p h.lt hpG)).trans h.c0, (World.frozen?_of_block (a := ⟨p, 0, none⟩) (hg.block p h.lt hpG)).trans h.f0⟩
theorem Gv.at1 {w w1 : World} {p : Nat} {G : Option Addr} {c : Nat} {G' : Option Addr} {c' : Nat} {xs ys : List GR} (h : Gv w p G c G' c' xs ys) (hg : w.grownBy w1 (Value.slice G' ys.length c').ownBlock) :
    w1.cell? ⟨p, 1, none⟩ = some (.slice G' ys.length c') ∧ w1.frozen? ⟨p, 1, none⟩ = false := by
  have hpG : some p ≠ (Value.slice G' ys.length c').ownBlock := fun e => by have := (h.o1.lt _ e.symm).1; omega
  exact ⟨(World.cell?_of_block (a := ⟨p, 1, none⟩) (hg.block p h.lt hpG)).trans h.c1, (World.frozen?_of_block (a := ⟨p, 1, none⟩) (hg.block p h.lt hpG)).trans h.f1⟩
/-- a new list is none of the rows' -/
theorem Gv.fresh {w w1 : World} {p : Nat} {G : Option Addr} {c : Nat} {G' : Option Addr} {c' : Nat} {xs ys : List GR} (h : Gv w p G c G' c' xs ys) {A : Option Addr} {n d : Nat} {bs : List UInt8}
    (ho : w1.ownsRow w.heap.size 5 1 (.slice A n d) n (Bv bs)) : (GR.mk A n d bs).Ok w1 p (Value.slice G xs.length c).ownBlock (Value.slice G' ys.length c').ownBlock := by
  have g := gone_none ho
  have hp := h.lt
  refine ⟨own_rd ho, g.1, g.2.1, fun ad e => ?_⟩
  have h3 := g.2.2 ad e
  refine ⟨by omega, h3.2, fun e2 => ?_, fun e2 => ?_⟩
  · have := (h.o0.lt _ e2.symm).2; omega
  · have := (h.o1.lt _ e2.symm).2; omega
theorem Gv.drew {w : World} {p : Nat} {G : Option Addr} {c : Nat} {G' : Option Addr} {c' : Nat} {xs ys : List GR} (h : Gv w p G c G' c' xs ys) (m : Nat) : Gv (w.drewN m) p G c G' c' xs ys := h.below (Below.drewN (Below.refl _ _) m)
theorem grown_two {w w1 : World} {o : Obj} {row : Option Nat} (h : (w.alloc o).grownBy w1 row) : w.grownBy w1 row := (World.grownBy_alloc w o row).trans h
theorem slice_one (A : Option Addr) (n c : Nat) : ∀ u ∈ [Value.slice A n c], u.oneCell' = true := by
  intro u hu
  rw [List.mem_singleton.1 hu]; rfl
theorem one_news' (w : World) (x : Value) (t : TypeId) : ∀ ad, some (⟨w.heap.size, 0, none⟩ : Addr) = some ad → ∀ j u, [x][j]? = some u → (w.alloc (.cells #[x] t)).cell? (ad.add j) = some u := by
  rintro ad e
  cases e
  exact one_news w x t

set_option maxRecDepth 100000 in
set_option maxHeartbeats 4000000 in
/-- Given.Bytes: a copy with a mark behind is laid into both rows -/
theorem gbytes_any (p : Nat) (G : Option Addr) (c : Nat) (G' : Option Addr) (c' : Nat) (xs ys : List GR) (w : World) (h : Gv w p G c G' c' xs ys) (hk : xs.length ≤ 1000) (hk' : ys.length ≤ 1000)
    (A : Option Addr) (n d : Nat) (bs : List UInt8) (hr : Rd w A n bs) (hA : A = none → n = 0 ∧ d = 0) (hn : n ≤ 140737488351232) :
    Calls Tryd.prog 16 #[.pointer (some ⟨p, 0, none⟩), .slice A n d] w fun e w' => ∃ (G1 : Option Addr) (d1 : Nat) (G1' : Option Addr) (d1' : Nat) (x y : GR),
      e = .returned (.slice x.A n x.c) ∧ Below p w w' ∧ Gv w' p G1 d1 G1' d1' (xs ++ [x]) (ys ++ [y]) ∧ x.bs = bs ++ [90] ∧ y.bs = bs ++ [90] ∧ x.n = n + 1 ∧ y.n = n + 1 := by
  have H := Lib.hid h
  have HR := Lib.hid hr
  have HA := Lib.hid hA
  have hl := hr.len
  have HL := Lib.hid hl
  have hp := h.lt
  clear h hr hA hl
  go_enter Tryd.func16, Tryd.ntmps16
  go_wp2_with fail
  refine (copyBytes_any A n d bs w HR.out HA.out (by omega)).mono ?_
  rintro e w1 ⟨A1, c1, rfl, hb1, ho1⟩
  have R1 : Hid (RowB w w1 A1 n c1 bs) := ⟨ho1, hb1, hb1.size⟩
  have O1 := Lib.hid (ho1.alloc (.cells #[.int .u8 90] 5))
  have N1 := Lib.hid (news_byte w1 90 90 5 rfl)
  have hz1 := hb1.size
  clear hb1 ho1
  go_wp2_with (at_builtin; refine wpList_app rfl (.tmp 7) (.tmp 8) rfl eltByte w.heap.size _ n _ rfl O1.out (some ⟨w1.heap.size, 0, none⟩) 1 1 (Bv [90]) rfl rfl (fun h => by cases h) ?c1 (Bv_one _) ?c3 ?c4 ?c5 ?_)
  case c1 => rintro ad hh; cases hh; exact N1.out
  case c3 => simp only [maxLen]; omega
  case c4 => omega
  case c5 => simp; omega
  intro A2 c2 w2 hown2 hgrow2 _
  have R2 := Lib.hid (RowB.step R1.out (World.grownBy_alloc w1 _ none) hown2 hgrow2)
  have H2 := Lib.hid (H.out.below R2.out.2.1)
  have X2 := Lib.hid (H.out.fresh R2.out.1)
  clear hown2 hgrow2 R1 O1 N1
  have hc0 := H2.out.c0
  have O2 := Lib.hid (H2.out.o0.alloc (.cells #[.slice A2 (n + 1) c2] 22))
  have hp2 := H2.out.lt
  go_wp2_with (at_builtin; refine wpList_app rfl (.tmp 14) (.tmp 16) rfl eltSlice (p + 1) (.slice G xs.length c) xs.length _ rfl O2.out (some ⟨w2.heap.size, 0, none⟩) 1 1 [.slice A2 (n + 1) c2] rfl rfl (fun h => by cases h) (one_news' _ _ _) (slice_one _ _ _) ?d3 ?d4 ?d5 ?_)
  case d3 => simp only [maxLen]; omega
  case d4 => omega
  case d5 => simp; omega
  intro G3 c3 w3 hown3 hgrow3 hblk3
  have Q3 := H2.out.at0 (grown_two hgrow3)
  have q1 := Q3.1
  have q2 := Q3.2
  have H3 := Lib.hid (H2.out.push0 X2.out hown3 (grown_two hgrow3) hblk3 (by simp))
  have B3 : Hid (Below p w w3) := ((R2.out.2.1.mono (Nat.le_of_lt hp)).grown (grown_two hgrow3) (Nat.le_of_lt hp2) (fun b e => by have := (H2.out.o0.lt b e).1; omega))
  clear hown3 hgrow3 hblk3 Q3 O2 hc0
  go_wp2
  have B4 : Hid (Below p w (w3.setCell ⟨p, 0, none⟩ (.slice G3 (xs.length + 1) c3))) := B3.out.setCell (Nat.le_refl _) _
  clear q1 q2 B3
  generalize w3.setCell ⟨p, 0, none⟩ (.slice G3 (xs.length + 1) c3) = w4 at H3 B4 ⊢
  have H4 : Hid (∀ m, Gv (w4.drewN m) p G3 c3 G' c' (xs ++ [⟨A2, n + 1, c2, bs ++ [90]⟩]) ys) := fun m => H3.out.drew m
  have X4 := Lib.hid (H3.out.e0 ⟨A2, n + 1, c2, bs ++ [90]⟩ (List.mem_append.2 (.inr (List.mem_singleton.2 rfl))))
  have hc1 := H3.out.c1
  have FC : Hid (∀ W', (∃ m, W' = w4.drewN m) → Calls Tryd.prog 48 #[.slice A2 (n + 1) c2] W' fun e w5 => ∃ (A5 : Option Addr) (c5 : Nat), e = .returned (.slice A5 (n + 1) c5) ∧ w5.cell? ⟨p, 1, none⟩ = some (.slice G' ys.length c') ∧ p < w5.heap.size ∧
      Hid (Below p w w5 ∧ Gv w5 p G3 c3 G' c' (xs ++ [⟨A2, n + 1, c2, bs ++ [90]⟩]) ys ∧ (GR.mk A5 (n + 1) c5 (bs ++ [90])).Ok w5 p (Value.slice G3 (xs ++ [(⟨A2, n + 1, c2, bs ++ [90]⟩ : GR)]).length c3).ownBlock (Value.slice G' ys.length c').ownBlock)) := by
    rintro W' ⟨m, rfl⟩
    refine (copyBytes_any A2 (n + 1) c2 (bs ++ [90]) _ (X4.out.1.drewN (k := m)) X4.out.2.1 (by omega)).mono ?_
    rintro e w5 ⟨A5, c5, rfl, hb5, ho5⟩
    have H5 := (H4.out m).below hb5
    exact ⟨A5, c5, rfl, H5.c1, H5.lt, (Below.drewN B4.out m).trans (hb5.mono (Nat.le_of_lt (H4.out m).lt)), H5, (H4.out m).fresh ho5⟩
  have b1 : ys.length + 1 ≤ maxLen := by simp only [maxLen]; omega
  have b2 : (ys.length + 1) * 24 ≤ 140737488355328 := by omega
  have hb5 : Hid (∀ (w5 : World) o, p < w5.heap.size → p + 1 ≤ (w5.alloc o).heap.size) := fun w5 o h => by simp; omega
  have hH : Hid (∀ (w5 : World) o, w5.heap.size ≤ (w5.alloc o).heap.size) := fun w5 o => by simp
  go_region_law (first | (refine step_app rfl (.tmp 24) (.tmp 27) rfl eltSlice (p + 1) (.slice G' ys.length c') ys.length _ rfl (S5.out.2.1.o1.alloc _) (some _) 1 1 [.slice A5 (n + 1) c5] rfl rfl (fun h => by cases h) (one_news' _ _ _) (slice_one _ _ _) b1 b2 (hb5.out _ _ S5.out.2.1.lt) ?_; intro G6 c6 w6 hown6 hgrow6 hblk6; have Q6 := S5.out.2.1.at1 (grown_two hgrow6); have q1 := Q6.1; have q2 := Q6.2; have H6 := Lib.hid (S5.out.2.1.push1 S5.out.2.2 hown6 (grown_two hgrow6) hblk6 (hH.out _ _)); have B6 := Lib.hid (S5.out.1.grown (grown_two hgrow6) (Nat.le_of_lt S5.out.2.1.lt) (fun b e => Nat.le_of_lt (S5.out.2.1.o1.lt b e).1)); clear hown6 hgrow6 hblk6 Q6) | (go_simp; go_at_call 48; go_must (refine (FC.out _ ?_).mono ?_); go_must (focus (first | exact ⟨0, rfl⟩ | exact ⟨1, rfl⟩)); go_must (rintro e w5 ⟨A5, c5, rfl, hc5, hp5, S5⟩)))
  all_goals
    clear q1 q2
    have hnc2 : (n : Int) ≤ (c2 : Int) := by have := X4.out.2.2.1; simp only at this; omega
    go_wp2
    go_ret
    exact ⟨G3, c3, G6, c6, ⟨A2, n + 1, c2, bs ++ [90]⟩, ⟨A5, n + 1, c5, bs ++ [90]⟩, rfl, B6.out.setCell (Nat.le_refl _) _, H6.out, rfl, rfl, rfl, rfl⟩
end Go.Proofs.YtkdikbenheagmaaDoor
