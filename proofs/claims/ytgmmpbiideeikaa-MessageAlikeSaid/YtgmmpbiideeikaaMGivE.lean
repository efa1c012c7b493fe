/-
  Given.Entries, any number of them (extracted by gen_mbase.py).
-/
import Derived.Test.YtgmmpbiideeikaaMBase
set_option linter.unusedVariables false
set_option linter.unusedSimpArgs false
namespace Go.Proofs.Ytgmmpbiideeikaa
open Go.RowKit

structure GE where
  A : Option Addr
  n : Nat
  c : Nat
  bs : List Et
def GE.v (x : GE) : Value := .slice x.A x.n x.c
abbrev markE : Et := ⟨-77, -88, 0, 0, ByteArray.empty⟩
/-- one of the lists: it reads; its memory is none of the rows' -/
def GE.Ok (w : World) (p : Nat) (b0 b1 : Option Nat) (x : GE) : Prop :=
  RdC 5 Et.cells w x.A x.n x.bs ∧ (x.A = none → x.n = 0 ∧ x.c = 0) ∧ x.n ≤ x.c ∧ ∀ ad, x.A = some ad → p < ad.block ∧ ad.block < w.heap.size ∧ some ad.block ≠ b0 ∧ some ad.block ≠ b1
abbrev g10 (d0 d1 e0 e1 : Value) : List Value := [.slice none 0 0, .slice none 0 0, d0, d1, e0, e1, .slice none 0 0, .slice none 0 0, .slice none 0 0, .slice none 0 0]
structure GvE (w : World) (p : Nat) (d0 d1 : Value) (G : Option Addr) (c : Nat) (G' : Option Addr) (c' : Nat) (xs ys : List GE) : Prop where
  ob : Ob w p (g10 d0 d1 (.slice G xs.length c) (.slice G' ys.length c'))
  o0 : w.ownsRow (p + 1) 32 1 (.slice G xs.length c) xs.length (xs.map GE.v)
  o1 : w.ownsRow (p + 1) 32 1 (.slice G' ys.length c') ys.length (ys.map GE.v)
  ne : ∀ b, (Value.slice G xs.length c).ownBlock = some b → (Value.slice G' ys.length c').ownBlock = some b → False
  e0 : ∀ x ∈ xs, x.Ok w p (Value.slice G xs.length c).ownBlock (Value.slice G' ys.length c').ownBlock
  e1 : ∀ x ∈ ys, x.Ok w p (Value.slice G xs.length c).ownBlock (Value.slice G' ys.length c').ownBlock
theorem GvE.lt {w : World} {p : Nat} {d0 d1 : Value} {G : Option Addr} {c : Nat} {G' : Option Addr} {c' : Nat} {xs ys : List GE} (h : GvE w p d0 d1 G c G' c' xs ys) : p < w.heap.size := h.ob.lt (by simp)
theorem GE.Ok.below {w w1 : World} {p : Nat} {b0 b1 : Option Nat} {x : GE} (h : x.Ok w p b0 b1) (hb : Below w.heap.size w w1) : x.Ok w1 p b0 b1 :=
  ⟨h.1.below hb, h.2.1, h.2.2.1, fun ad e => by have h4 := h.2.2.2 ad e; have := hb.size; exact ⟨by omega, by omega, h4.2.2⟩⟩
/-- nothing of it lies in a block that was grown -/
theorem GE.Ok.grown {w w1 : World} {p : Nat} {b0 b1 : Option Nat} {x : GE} (h : x.Ok w p b0 b1) {row : Option Nat} (hg : w.grownBy w1 row) (hr : ∀ ad, x.A = some ad → some ad.block ≠ row) : x.Ok w1 p b0 b1 :=
  ⟨h.1.grown hg hr, h.2.1, h.2.2.1, fun ad e => by have h4 := h.2.2.2 ad e; have := hg.size; exact ⟨by omega, by omega, h4.2.2⟩⟩
theorem GvE.grown {w w1 : World} {p : Nat} {d0 d1 : Value} {G : Option Addr} {c : Nat} {G' : Option Addr} {c' : Nat} {xs ys : List GE} (h : GvE w p d0 d1 G c G' c' xs ys) {row : Option Nat} (hg : w.grownBy w1 row)
    (hp : some p ≠ row) (h0 : ∀ b, (Value.slice G xs.length c).ownBlock = some b → some b ≠ row) (h1 : ∀ b, (Value.slice G' ys.length c').ownBlock = some b → some b ≠ row)
    (hx : ∀ x ∈ xs, ∀ ad, x.A = some ad → some ad.block ≠ row) (hy : ∀ x ∈ ys, ∀ ad, x.A = some ad → some ad.block ≠ row) : GvE w1 p d0 d1 G c G' c' xs ys := by
  refine ⟨h.ob.kept hg hp, h.o0.kept hg ?_, h.o1.kept hg ?_, h.ne, fun x hm => (h.e0 x hm).grown hg (hx x hm), fun x hm => (h.e1 x hm).grown hg (hy x hm)⟩
  · cases h6 : (Value.slice G xs.length c).ownBlock with
    | none => exact .inl rfl
    | some b => exact .inr (fun e => h0 b h6 e)
  · cases h6 : (Value.slice G' ys.length c').ownBlock with
    | none => exact .inl rfl
    | some b => exact .inr (fun e => h1 b h6 e)
theorem GvE.below {w w1 : World} {p : Nat} {d0 d1 : Value} {G : Option Addr} {c : Nat} {G' : Option Addr} {c' : Nat} {xs ys : List GE} (h : GvE w p d0 d1 G c G' c' xs ys) (hb : Below w.heap.size w w1) : GvE w1 p d0 d1 G c G' c' xs ys :=
  h.grown (grown_of_below hb none) (by simp) (by simp) (by simp) (by simp) (by simp)
theorem GvE.drewN {w : World} {p : Nat} {d0 d1 : Value} {G : Option Addr} {c : Nat} {G' : Option Addr} {c' : Nat} {xs ys : List GE} (h : GvE w p d0 d1 G c G' c' xs ys) (m : Nat) : GvE (w.drewN m) p d0 d1 G c G' c' xs ys := h.below (Below.drewN (Below.refl _ _) m)
/-- an element behind an append to the row b0, and the store of the row's slice -/
theorem GE.Ok.step {w w1 : World} {p : Nat} {b0 b1 b2 : Option Nat} {x : GE} (h : x.Ok w p b0 b1) (hg : w.grownBy w1 b0) {H : Nat} (hb : b2 = b0 ∨ b2 = some H) (hH : w.heap.size ≤ H) (i : Nat) (u : Value) : x.Ok (w1.setCell ⟨p, i, none⟩ u) p b2 b1 := by
  refine ⟨(h.1.grown hg fun ad e => (h.2.2.2 ad e).2.2.1).grown (grown_setCell w1 ⟨p, i, none⟩ u) (fun ad e => by have := (h.2.2.2 ad e).1; simp; omega), h.2.1, h.2.2.1, fun ad e => ?_⟩
  have h4 := h.2.2.2 ad e
  refine ⟨h4.1, ?_, ?_, h4.2.2.2⟩
  · have := hg.size
    simp; omega
  · rcases hb with rfl | rfl
    · exact h4.2.2.1
    · intro e2
      cases e2
      omega
theorem GE.Ok.flip {w : World} {p : Nat} {b0 b1 : Option Nat} {x : GE} (h : x.Ok w p b0 b1) : x.Ok w p b1 b0 := ⟨h.1, h.2.1, h.2.2.1, fun ad e => by have h4 := h.2.2.2 ad e; exact ⟨h4.1, h4.2.1, h4.2.2.2, h4.2.2.1⟩⟩
theorem own_setE {w : World} {p : Nat} {e : TypeId} {size n : Nat} {v : Value} {l : List Value} (h : w.ownsRow (p + 1) e size v n l) (i : Nat) (u : Value) : (w.setCell ⟨p, i, none⟩ u).ownsRow (p + 1) e size v n l := ownsRow_setCell_below h (by show p < p + 1; omega) u
/-- one more in the first row -/
theorem GvE.push0 {w w1 : World} {p : Nat} {d0 d1 : Value} {G : Option Addr} {c : Nat} {G' : Option Addr} {c' : Nat} {xs ys : List GE} (h : GvE w p d0 d1 G c G' c' xs ys) {x : GE} (hx : x.Ok w p (Value.slice G xs.length c).ownBlock (Value.slice G' ys.length c').ownBlock)
    {G2 : Option Addr} {c2 : Nat} (ho : w1.ownsRow (p + 1) 32 1 (.slice G2 (xs.length + 1) c2) (xs.length + 1) (xs.map GE.v ++ [x.v])) (hg : w.grownBy w1 (Value.slice G xs.length c).ownBlock)
    {H : Nat} (hb : (Value.slice G2 (xs.length + 1) c2).ownBlock = (Value.slice G xs.length c).ownBlock ∨ (Value.slice G2 (xs.length + 1) c2).ownBlock = some H) (hH : w.heap.size ≤ H) :
    GvE (w1.setCell ⟨p, 4, none⟩ (.slice G2 (xs.length + 1) c2)) p d0 d1 G2 c2 G' c' (xs ++ [x]) ys := by
  have hp := h.lt
  have hpG : some p ≠ (Value.slice G xs.length c).ownBlock := fun e => by have := (h.o0.lt _ e.symm).1; omega
  have hlen : (xs ++ [x]).length = xs.length + 1 := by simp
  refine ⟨?_, ?_, ?_, ?_, ?_, ?_⟩
  · rw [hlen]; exact (h.ob.kept hg hpG).set 4 (by simp) _
  · rw [hlen, List.map_append]; exact own_setE ho 4 _
  · refine own_setE (h.o1.kept hg ?_) 4 _
    cases h6 : (Value.slice G' ys.length c').ownBlock with
    | none => exact .inl rfl
    | some b => exact .inr fun e => h.ne b e.symm h6
  · rw [hlen]
    intro b e1 e2
    rcases hb with hb | hb
    · exact h.ne b (hb ▸ e1) e2
    · rw [hb] at e1
      cases e1
      have := (h.o1.lt _ e2).2
      omega
  · rw [hlen]
    intro y hy
    rcases List.mem_append.1 hy with hy | hy
    · exact (h.e0 y hy).step hg hb hH 4 _
    · rw [List.mem_singleton.1 hy]; exact hx.step hg hb hH 4 _
  · rw [hlen]
    intro y hy
    exact (h.e1 y hy).step hg hb hH 4 _
/-- one more in the second row -/
theorem GvE.push1 {w w1 : World} {p : Nat} {d0 d1 : Value} {G : Option Addr} {c : Nat} {G' : Option Addr} {c' : Nat} {xs ys : List GE} (h : GvE w p d0 d1 G c G' c' xs ys) {x : GE} (hx : x.Ok w p (Value.slice G xs.length c).ownBlock (Value.slice G' ys.length c').ownBlock)
    {G2 : Option Addr} {c2 : Nat} (ho : w1.ownsRow (p + 1) 32 1 (.slice G2 (ys.length + 1) c2) (ys.length + 1) (ys.map GE.v ++ [x.v])) (hg : w.grownBy w1 (Value.slice G' ys.length c').ownBlock)
    {H : Nat} (hb : (Value.slice G2 (ys.length + 1) c2).ownBlock = (Value.slice G' ys.length c').ownBlock ∨ (Value.slice G2 (ys.length + 1) c2).ownBlock = some H) (hH : w.heap.size ≤ H) :
    GvE (w1.setCell ⟨p, 5, none⟩ (.slice G2 (ys.length + 1) c2)) p d0 d1 G c G2 c2 xs (ys ++ [x]) := by
  have hp := h.lt
  have hpG : some p ≠ (Value.slice G' ys.length c').ownBlock := fun e => by have := (h.o1.lt _ e.symm).1; omega
  have hlen : (ys ++ [x]).length = ys.length + 1 := by simp
  refine ⟨?_, ?_, ?_, ?_, ?_, ?_⟩
  · rw [hlen]; exact (h.ob.kept hg hpG).set 5 (by simp) _
  · refine own_setE (h.o0.kept hg ?_) 5 _
    cases h6 : (Value.slice G xs.length c).ownBlock with
    | none => exact .inl rfl
    | some b => exact .inr fun e => h.ne b h6 e.symm
  · rw [hlen, List.map_append]; exact own_setE ho 5 _
  · rw [hlen]
    intro b e1 e2
    rcases hb with hb | hb
    · exact h.ne b e1 (hb ▸ e2)
    · rw [hb] at e2
      cases e2
      have := (h.o0.lt _ e1).2
      omega
  · rw [hlen]
    intro y hy
    exact ((h.e0 y hy).flip.step hg hb hH 5 _).flip
  · rw [hlen]
    intro y hy
    rcases List.mem_append.1 hy with hy | hy
    · exact ((h.e1 y hy).flip.step hg hb hH 5 _).flip
    · rw [List.mem_singleton.1 hy]; exact (hx.flip.step hg hb hH 5 _).flip
theorem eltEnts : Elt Try.prog 39 32 (.slice none 0 0) 1 24 := ⟨Try.underlying39, by kernel_rfl, rfl, by decide⟩
set_option maxHeartbeats 1600000 in
theorem copyEntries_any (A : Option Addr) (n c : Nat) (L : List Et) (w : World) (h : RdC 5 Et.cells w A n L) (hA : A = none → n = 0 ∧ c = 0) (hsm : n * 48 ≤ 140737488355328) :
    Calls Try.prog 11 #[.slice A n c] w fun e w' => ∃ A' c', e = .returned (.slice A' n c') ∧ Below w.heap.size w w' ∧ w'.ownsRow w.heap.size 26 5 (.slice A' n c') n (CL Et.cells L) := by
  have H := Lib.hid h
  have HL := Lib.hid h.len
  have HA := Lib.hid hA
  have HSM := Lib.hid hsm
  clear h hA hsm
  go_enter Try.func11, Try.ntmps11
  go_wp2_with (at_builtin; refine wpList_app rfl (.const (.slice none 0 0)) (.tmp 3) rfl eltEntry w.heap.size (.slice none 0 0) 0 [] rfl (World.ownsRow_nil _ _ _ _) A n c (CL Et.cells L) rfl (by rw [CL_len (size := 5) (fun _ => rfl), HL.out]) HA.out (rdc_news (size := 5) (cells := Et.cells) (by decide) (fun _ => rfl) H.out) (CL_one (cells := Et.cells) Et.one L) ?a3 ?a4 ?a5 ?_)
  case a3 => have := HSM.out; simp only [maxLen]; omega
  case a4 => have := HSM.out; omega
  case a5 => exact Nat.le_refl _
  intro A5 c5 w5 ho5 hg5 _
  have B5 : Hid (Below w.heap.size w w5) := ⟨hg5.os, hg5.tape, hg5.output, hg5.size, fun z hz => hg5.block z hz (fun e => by cases e)⟩
  have O5 : Hid (w5.ownsRow w.heap.size 26 5 (.slice A5 n c5) n (CL Et.cells L)) := ho5
  clear ho5 hg5
  go_wp2_with fail
  go_ret
  exact ⟨A5, c5, rfl, B5.out, O5.out⟩
/-- a new list is none of the rows' -/
theorem GvE.fresh {w w1 : World} {p : Nat} {d0 d1 : Value} {G : Option Addr} {c : Nat} {G' : Option Addr} {c' : Nat} {xs ys : List GE} (h : GvE w p d0 d1 G c G' c' xs ys) {A : Option Addr} {n d : Nat} {L : List Et} (hl : L.length = n)
    (ho : w1.ownsRow w.heap.size 26 5 (.slice A n d) n (CL Et.cells L)) : (GE.mk A n d L).Ok w1 p (Value.slice G xs.length c).ownBlock (Value.slice G' ys.length c').ownBlock := by
  have hp := h.lt
  refine ⟨rdc_own (size := 5) (cells := Et.cells) (fun _ => rfl) ho hl, fun hA => ?_, ?_, fun ad e => ?_⟩
  · simp only at hA
    subst hA
    rcases ho.2 with ⟨hv, h0⟩ | ⟨g, cap, cur, hv, _⟩
    · cases hv; exact ⟨rfl, rfl⟩
    · cases hv
  · rcases ho.2 with ⟨hv, h0⟩ | ⟨q, cap, cur, hv, _, _, h1, _⟩
    · cases hv; exact Nat.le_refl _
    · cases hv; exact h1
  · simp only at e
    subst e
    have h3 := ho.lt ad.block rfl
    refine ⟨by omega, h3.2, fun e2 => ?_, fun e2 => ?_⟩
    · have := (h.o0.lt _ e2.symm).2; omega
    · have := (h.o1.lt _ e2.symm).2; omega
theorem sliceE_one (A : Option Addr) (n c : Nat) : ∀ u ∈ [Value.slice A n c], u.oneCell' = true := by
  intro u hu
  rw [List.mem_singleton.1 hu]; rfl
/-- what Given.Entries answers -/
def EntOut (p : Nat) (d0 d1 : Value) (b0 b1 : Option Nat) (xs ys : List GE) (n : Nat) (L : List Et) (w : World) (e : Ending) (w' : World) : Prop :=
  ∃ (G1 : Option Addr) (q1 : Nat) (G1' : Option Addr) (q1' : Nat) (x y : GE), e = .returned (.slice x.A n x.c) ∧ GvE w' p d0 d1 G1 q1 G1' q1' (xs ++ [x]) (ys ++ [y]) ∧ x.bs = L ++ [markE] ∧ y.bs = L ++ [markE] ∧ x.n = n + 1 ∧ y.n = n + 1 ∧
    Chg (fun j => j = p ∨ some j = b0 ∨ some j = b1) w w' ∧ (∀ j, (Value.slice G1 (xs ++ [x]).length q1).ownBlock = some j → b0 = some j ∨ w.heap.size ≤ j) ∧ (∀ j, (Value.slice G1' (ys ++ [y]).length q1').ownBlock = some j → b1 = some j ∨ w.heap.size ≤ j) ∧
    (∀ ad, x.A = some ad → w.heap.size ≤ ad.block) ∧ (∀ ad, y.A = some ad → w.heap.size ≤ ad.block)
theorem grown_twoE {w w1 : World} {o : Obj} {row : Option Nat} (h : (w.alloc o).grownBy w1 row) : w.grownBy w1 row := (World.grownBy_alloc w o row).trans h
theorem blk_of {b b2 : Option Nat} {H B : Nat} (h : b2 = b ∨ b2 = some H) (hB : B ≤ H) : ∀ j, b2 = some j → b = some j ∨ B ≤ j := fun j e => by
  rcases h with h | h
  · exact .inl (h ▸ e)
  · rw [h] at e; cases e; exact .inr hB
theorem GvE.at0 {w w1 : World} {p : Nat} {d0 d1 : Value} {G : Option Addr} {c : Nat} {G' : Option Addr} {c' : Nat} {xs ys : List GE} (h : GvE w p d0 d1 G c G' c' xs ys) (hg : w.grownBy w1 (Value.slice G xs.length c).ownBlock) :
    Ob w1 p (g10 d0 d1 (.slice G xs.length c) (.slice G' ys.length c')) := h.ob.kept hg (fun e => by have := (h.o0.lt _ e.symm).1; omega)
theorem GvE.at1 {w w1 : World} {p : Nat} {d0 d1 : Value} {G : Option Addr} {c : Nat} {G' : Option Addr} {c' : Nat} {xs ys : List GE} (h : GvE w p d0 d1 G c G' c' xs ys) (hg : w.grownBy w1 (Value.slice G' ys.length c').ownBlock) :
    w1.cell? ⟨p, 5, none⟩ = some (.slice G' ys.length c') ∧ w1.frozen? ⟨p, 5, none⟩ = false ∧ p < w1.heap.size := by
  have h1 : Ob w1 p (g10 d0 d1 (.slice G xs.length c) (.slice G' ys.length c')) := h.ob.kept hg (fun e => by have := (h.o1.lt _ e.symm).1; omega)
  exact ⟨h1.cell 5 rfl, h1.fr 5 (by simp), h1.lt (by simp)⟩
set_option maxRecDepth 100000 in
set_option maxHeartbeats 8000000 in
theorem gentries_any (p : Nat) (d0 d1 : Value) (G : Option Addr) (c : Nat) (G' : Option Addr) (c' : Nat) (xs ys : List GE) (w : World) (h : GvE w p d0 d1 G c G' c' xs ys) (hk : (xs.length + 2) * 24 ≤ 140737488355328) (hk' : (ys.length + 2) * 24 ≤ 140737488355328)
    (A : Option Addr) (n d : Nat) (L : List Et) (hr : RdC 5 Et.cells w A n L) (hA : A = none → n = 0 ∧ d = 0) (hn : (n + 2) * 48 ≤ 140737488355328) :
    Calls Try.prog 9 #[.pointer (some ⟨p, 0, none⟩), .slice A n d] w (EntOut p d0 d1 (Value.slice G xs.length c).ownBlock (Value.slice G' ys.length c').ownBlock xs ys n L w) := by
  have H := Lib.hid h
  have HR := Lib.hid hr
  have HA := Lib.hid hA
  have HL := Lib.hid hr.len
  have HP := Lib.hid h.lt
  have HSM := Lib.hid hn
  have HK := Lib.hid hk
  have HK' := Lib.hid hk'
  have hnb : (n : Int) ≤ 6000000000000 := by omega
  clear h hr hA hn hk hk'
  go_enter Try.func9, Try.ntmps9
  go_wp2_with fail
  refine (copyEntries_any A n d L _ HR.out HA.out (by have := HSM.out; omega)).mono ?_
  rintro e w1 ⟨A1, c1, rfl, hb1, ho1⟩
  have B1 := Lib.hid hb1
  have O1 := Lib.hid ho1
  clear hb1 ho1
  go_wp2_with (at_builtin; refine wpList_app rfl (.tmp 7) (.tmp 9) rfl eltEntry w.heap.size (.slice A1 n c1) n (CL Et.cells L) rfl (O1.out.alloc _) (some ⟨w1.heap.size, 0, none⟩) 1 1 markE.cells rfl rfl (fun h => by cases h) (fresh_news w1 markE.cells.toArray 26) (Et.one markE) ?b3 ?b4 ?b5 ?_)
  case b3 => have := HSM.out; simp only [maxLen]; omega
  case b4 => have := HSM.out; omega
  case b5 => have := B1.out.size; simp; omega
  intro A2 c2 w2 ho2 hg2 _
  have B2 : Hid (Below w.heap.size w w2) := below_own B1.out B1.out.size O1.out ((World.grownBy_alloc w1 _ _).trans hg2)
  have O2 : Hid (w2.ownsRow w.heap.size 26 5 (.slice A2 (n + 1) c2) (n + 1) (CL Et.cells (L ++ [markE]))) := by rw [CL_push]; exact ho2
  have X2 := Lib.hid (H.out.fresh (by simp [HL.out]) O2.out)
  have H2 := Lib.hid (H.out.below B2.out)
  have hcap : (n : Int) ≤ (c2 : Int) := by have := X2.out.2.2.1; simp only at this; omega
  have FX : Hid (∀ ad, A2 = some ad → w.heap.size ≤ ad.block) := fun ad e => by subst e; exact (O2.out.lt ad.block rfl).1
  clear ho2 hg2 O1 B1
  have q4 := H2.out.ob.cell 4 rfl
  have OW := Lib.hid (H2.out.o0.alloc (.cells #[.slice A2 (n + 1) c2] 32))
  have HP2 := Lib.hid H2.out.lt
  have hp2 := HP2.out
  go_wp2_with (at_builtin; refine wpList_app rfl (.tmp 15) (.tmp 17) rfl eltEnts (p + 1) (.slice G xs.length c) xs.length _ rfl OW.out (some ⟨w2.heap.size, 0, none⟩) 1 1 [.slice A2 (n + 1) c2] rfl rfl (fun h => by cases h) (fresh_news w2 #[.slice A2 (n + 1) c2] 32) (sliceE_one _ _ _) ?d3 ?d4 ?d5 ?_)
  case d3 => have := HK.out; simp only [maxLen]; omega
  case d4 => have := HK.out; omega
  case d5 => simp; omega
  intro G3 c3 w3 hown3 hgrow3 hblk3
  have OB3 := H2.out.at0 (grown_twoE hgrow3)
  have r4 := OB3.cell 4 rfl
  have s4 := OB3.fr 4 (by simp)
  have z4 := OB3.lt (by simp)
  have H3 := Lib.hid (H2.out.push0 X2.out hown3 (grown_twoE hgrow3) hblk3 (by simp))
  have C3 : Hid (Chg (fun j => j = p ∨ some j = (Value.slice G xs.length c).ownBlock ∨ some j = (Value.slice G' ys.length c').ownBlock) w (w3.setCell ⟨p, 4, none⟩ (.slice G3 (xs.length + 1) c3))) :=
    ((((Chg.refl _ w).grown (grown_of_below (B2.out.mono (Nat.le_refl _)) none) (fun j e => by cases e)).grown (grown_twoE hgrow3) (fun j e => .inl (.inr (.inl e.symm)))).grown (grown_setCell _ _ _) (fun j e => by cases e; exact .inl (.inl rfl)))
  have K3 : Hid (∀ j, (Value.slice G3 (xs.length + 1) c3).ownBlock = some j → (Value.slice G xs.length c).ownBlock = some j ∨ w.heap.size ≤ j) := blk_of hblk3 (by have := B2.out.size; simp; omega)
  clear hown3 hgrow3 hblk3 OB3 OW q4
  go_upto_region 3 with fail
  clear r4 s4 z4
  have HLX : Hid ((xs ++ [(⟨A2, n + 1, c2, L ++ [markE]⟩ : GE)]).length = xs.length + 1) := by simp [Hid]
  generalize w3.setCell ⟨p, 4, none⟩ (.slice G3 (xs.length + 1) c3) = w4 at H3 C3 ⊢
  have X4 := Lib.hid (H3.out.e0 ⟨A2, n + 1, c2, L ++ [markE]⟩ (List.mem_append.2 (.inr (List.mem_singleton.2 rfl))))
  have q5 := H3.out.ob.cell 5 rfl
  have FC : Hid (∀ W', (∃ m, W' = w4.drewN m) → Calls Try.prog 11 #[.slice A2 (n + 1) c2] W' fun e w5 => ∃ (A5 : Option Addr) (c5 : Nat), e = .returned (.slice A5 (n + 1) c5) ∧ w5.cell? ⟨p, 5, none⟩ = some (.slice G' ys.length c') ∧ p < w5.heap.size ∧
      Hid (Below w4.heap.size w4 w5 ∧ GvE w5 p d0 d1 G3 c3 G' c' (xs ++ [⟨A2, n + 1, c2, L ++ [markE]⟩]) ys ∧ (GE.mk A5 (n + 1) c5 (L ++ [markE])).Ok w5 p (Value.slice G3 (xs ++ [(⟨A2, n + 1, c2, L ++ [markE]⟩ : GE)]).length c3).ownBlock (Value.slice G' ys.length c').ownBlock ∧ ∀ ad, A5 = some ad → w4.heap.size ≤ ad.block)) := by
    rintro W' ⟨m, rfl⟩
    refine (copyEntries_any A2 (n + 1) c2 (L ++ [markE]) _ (X4.out.1.drewN m) X4.out.2.1 (by have := HSM.out; omega)).mono ?_
    rintro e w5 ⟨A5, c5, rfl, hb5, ho5⟩
    have H5 := (H3.out.drewN m).below hb5
    exact ⟨A5, c5, rfl, H5.ob.cell 5 rfl, H5.lt, (Below.drewN (Below.refl _ _) m).trans hb5, H5, (H3.out.drewN m).fresh (by simp [HL.out]) ho5, fun ad e => by subst e; exact (ho5.lt ad.block rfl).1⟩
  have b1 : ys.length + 1 ≤ maxLen := by have := HK'.out; simp only [maxLen]; omega
  have b2 : (ys.length + 1) * 24 ≤ 140737488355328 := by have := HK'.out; omega
  have hb5 : Hid (∀ (w5 : World) o, p < w5.heap.size → p + 1 ≤ (w5.alloc o).heap.size) := fun w5 o h => by simp; omega
  have hH : Hid (∀ (w5 : World) o, w5.heap.size ≤ (w5.alloc o).heap.size) := fun w5 o => by simp
  have hS : Hid (w.heap.size ≤ w4.heap.size) := C3.out.size
  go_region_law (first | (refine step_app rfl (.tmp 25) (.tmp 28) rfl eltEnts (p + 1) (.slice G' ys.length c') ys.length _ rfl (S5.out.2.1.o1.alloc _) (some _) 1 1 [.slice A5 (n + 1) c5] rfl rfl (fun h => by cases h) (fresh_news _ #[.slice A5 (n + 1) c5] 32) (sliceE_one _ _ _) b1 b2 (hb5.out _ _ S5.out.2.1.lt) ?_; intro G6 c6 w6 hown6 hgrow6 hblk6; have Q6 := S5.out.2.1.at1 (grown_twoE hgrow6); have q1 := Q6.1; have q2 := Q6.2.1; have q3 := Q6.2.2; have H6 := Lib.hid (S5.out.2.1.push1 S5.out.2.2.1 hown6 (grown_twoE hgrow6) hblk6 (hH.out _ _)); have C6 := Lib.hid ((C3.out.grown (grown_of_below S5.out.1 none) (fun j e => by cases e)).grown (grown_twoE hgrow6) (fun j e => .inl (.inr (.inr e.symm)))); have K6 := Lib.hid (blk_of hblk6 (Nat.le_trans (Nat.le_trans hS.out S5.out.1.size) (hH.out _ _))); have HA5 := Lib.hid S5.out.2.2.2; clear hown6 hgrow6 hblk6 Q6) | (go_simp; go_at_call 11; go_must (refine (FC.out _ ?_).mono ?_); go_must (focus (first | exact ⟨0, rfl⟩ | exact ⟨1, rfl⟩)); go_must (rintro e w5 ⟨A5, c5, rfl, hc5, hp5, S5⟩)))
  all_goals
    clear q1 q2 q3 hc5 hp5
    have hnc : n ≤ c2 := by omega
    go_wp2_with fail
    go_ret
    refine ⟨G3, c3, G6, c6, ⟨A2, n + 1, c2, L ++ [markE]⟩, ⟨A5, n + 1, c5, L ++ [markE]⟩, rfl, H6.out, rfl, rfl, rfl, rfl, C6.out.grown (grown_setCell _ _ _) (fun j e => by cases e; exact .inl (.inl rfl)), ?_, ?_, FX.out, fun ad e => Nat.le_trans hS.out (HA5.out ad e)⟩
    · rw [HLX.out]; exact K3.out
    · rw [List.length_append]; exact K6.out
theorem GvE.cell0 {w : World} {p : Nat} {d0 d1 : Value} {G : Option Addr} {c : Nat} {G' : Option Addr} {c' : Nat} {xs ys : List GE} (h : GvE w p d0 d1 G c G' c' xs ys) {k : Nat} {x : GE} (hk : xs[k]? = some x) : ∃ g, G = some ⟨g, 0, none⟩ ∧ w.cell? ⟨g, k, none⟩ = some x.v := by
  have hlt := (List.getElem?_eq_some_iff.1 hk).1
  obtain ⟨g, cap, hv, _, _⟩ := h.o0.form (by omega)
  cases hv
  have := h.o0.cells (g := g) rfl k _ (show (xs.map GE.v)[k]? = some x.v by rw [List.getElem?_map, hk]; rfl)
  rw [add_at] at this
  exact ⟨g, rfl, this⟩
theorem GvE.cell1 {w : World} {p : Nat} {d0 d1 : Value} {G : Option Addr} {c : Nat} {G' : Option Addr} {c' : Nat} {xs ys : List GE} (h : GvE w p d0 d1 G c G' c' xs ys) {k : Nat} {x : GE} (hk : ys[k]? = some x) : ∃ g, G' = some ⟨g, 0, none⟩ ∧ w.cell? ⟨g, k, none⟩ = some x.v := by
  have hlt := (List.getElem?_eq_some_iff.1 hk).1
  obtain ⟨g, cap, hv, _, _⟩ := h.o1.form (by omega)
  cases hv
  have := h.o1.cells (g := g) rfl k _ (show (ys.map GE.v)[k]? = some x.v by rw [List.getElem?_map, hk]; rfl)
  rw [add_at] at this
  exact ⟨g, rfl, this⟩
end Go.Proofs.Ytgmmpbiideeikaa
