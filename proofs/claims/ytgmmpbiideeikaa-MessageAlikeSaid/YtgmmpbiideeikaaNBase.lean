/-
  Words for slices of bytes in memory, and small laws on them. No program's function is walked here.
-/
import Derived.Test.YtgmmpbiideeikaaRows
import Derived.WalkKit
import Derived.WalkSpells
import Derived.WalkLawsBesides
import Derived.KernelRfl
import Derived.Deep.LoopGhost
import Derived.Deep.QuietTactic
import Derived.BigQuiet
import Derived.Deep.AppendLies
import Derived.Maps.AppendAt
import Derived.Deep.RegionLaw
import Derived.Deep.DeepCutAuto
import Derived.Deep.CutBlock
import Derived.Deep.RegionHeld3
import Derived.Lib.Hide
import Derived.Laws.BitsLemmas
import Derived.Laws.BytesArg
import Derived.Lib.ConvBytes
import Derived.Handy
import Derived.Laws.ResultCell
set_option linter.unusedVariables false
set_option linter.unusedSimpArgs false
namespace Go.Proofs.Ytgmmpbiideeikaa
open Go.RowKit

/-! ### bytes -/
/-- the byte at a place -/
def bg (bs : List UInt8) (j : Nat) : Int := ((bs.getD j 0).toNat : Int)
theorem bg_range (bs : List UInt8) (j : Nat) : 0 ≤ bg bs j ∧ bg bs j ≤ 255 := by
  unfold bg
  have := (bs.getD j 0).toNat_lt
  omega
/-- bytes as cells -/
def Bv (bs : List UInt8) : List Value := bs.map fun x => .int .u8 (x.toNat : Int)
theorem Bv_length (bs : List UInt8) : (Bv bs).length = bs.length := by simp [Bv]
theorem Bv_append (a b : List UInt8) : Bv (a ++ b) = Bv a ++ Bv b := by simp [Bv]
theorem Bv_get (bs : List UInt8) (j : Nat) (h : j < bs.length) : (Bv bs)[j]? = some (.int .u8 (bg bs j)) := by
  simp [Bv, bg, List.getElem?_eq_getElem h, List.getD_eq_getElem?_getD]
theorem Bv_one (bs : List UInt8) : ∀ u ∈ Bv bs, u.oneCell' = true := by
  intro u hu
  obtain ⟨_, _, rfl⟩ := List.mem_map.1 hu
  rfl

theorem add_block (a : Addr) (j : Nat) : (a.add j).block = a.block := by unfold Addr.add; split <;> rfl
theorem add_at (g j : Nat) : (⟨g, 0, none⟩ : Addr).add j = ⟨g, j, none⟩ := by unfold Addr.add; split <;> simp_all

/-! ### a slice that reads as bytes -/
structure Rd (w : World) (A : Option Addr) (n : Nat) (bs : List UInt8) : Prop where
  len : bs.length = n
  le : n ≤ 9223372036854775807
  cell : 0 < n → ∃ ad, A = some ad ∧ ∀ j, j < n → w.cell? (ad.add j) = some (.int .u8 (bg bs j))
theorem Rd.kept {w w1 : World} {A : Option Addr} {n : Nat} {bs : List UInt8} (h : Rd w A n bs) (hk : ∀ a v, w.cell? a = some v → (∀ ad, A = some ad → ad.block = a.block) → w1.cell? a = some v) : Rd w1 A n bs :=
  ⟨h.len, h.le, fun hn => by
    obtain ⟨ad, e, hc⟩ := h.cell hn
    refine ⟨ad, e, fun j hj => hk _ _ (hc j hj) ?_⟩
    intro ad' e'
    rw [e] at e'
    cases e'
    rw [add_block]⟩
theorem Rd.below {w w1 : World} {A : Option Addr} {n : Nat} {bs : List UInt8} (h : Rd w A n bs) (hb : Below w.heap.size w w1) : Rd w1 A n bs :=
  h.kept fun a v hc _ => (hb.cell (World.block_lt_of_cell? w a hc)).trans hc
theorem Rd.grown {w w1 : World} {A : Option Addr} {n : Nat} {bs : List UInt8} {row : Option Nat} (h : Rd w A n bs) (hg : w.grownBy w1 row) (hne : ∀ ad, A = some ad → some ad.block ≠ row) : Rd w1 A n bs := by
  rcases Nat.eq_zero_or_pos n with h0 | h0
  · exact ⟨h.len, h.le, fun hn => by omega⟩
  · obtain ⟨ad, e, hc⟩ := h.cell h0
    exact ⟨h.len, h.le, fun _ => ⟨ad, e, fun j hj => hg.cell (hc j hj) (by rw [add_block]; exact hne ad e)⟩⟩
theorem Rd.nil (w : World) : Rd w none 0 [] := ⟨rfl, by omega, fun h => by omega⟩
theorem Rd.drewN {w : World} {A : Option Addr} {n k : Nat} {bs : List UInt8} (h : Rd w A n bs) : Rd (w.drewN k) A n bs := h.kept fun _ _ hc _ => hc
theorem Rd.take {w : World} {A : Option Addr} {n : Nat} {bs : List UInt8} (h : Rd w A n bs) (k : Nat) (hk : k ≤ n) : Rd w A k (bs.take k) := by
  have := h.le
  refine ⟨by rw [List.length_take, h.len]; omega, by omega, fun h0 => ?_⟩
  obtain ⟨ad, e, hc⟩ := h.cell (by omega)
  refine ⟨ad, e, fun j hj => ?_⟩
  rw [hc j (by omega)]
  simp [bg, List.getD_eq_getElem?_getD, hj]
theorem add_add (a : Addr) (i j : Nat) : (a.add i).add j = a.add (i + j) := by
  unfold Addr.add
  by_cases h1 : i = 0 <;> by_cases h2 : j = 0 <;> simp [h1, h2, Nat.add_assoc]
theorem Rd.drop {w : World} {ad : Addr} {n : Nat} {bs : List UInt8} (h : Rd w (some ad) n bs) (k : Nat) (hk : k ≤ n) : Rd w (some (ad.add k)) (n - k) (bs.drop k) := by
  have := h.le
  refine ⟨by rw [List.length_drop, h.len], by omega, fun h0 => ⟨_, rfl, fun j hj => ?_⟩⟩
  obtain ⟨ad', e, hc⟩ := h.cell (by omega)
  cases e
  rw [add_add, hc (k + j) (by omega)]
  simp [bg, List.getD_eq_getElem?_getD, List.getElem?_drop]
/-- what the call owns reads -/
theorem own_rd {w : World} {base n : Nat} {e : TypeId} {A : Option Addr} {c : Nat} {bs : List UInt8} (h : w.ownsRow base e 1 (.slice A n c) n (Bv bs)) : Rd w A n bs := by
  have hl : bs.length = n := by have := h.1; rw [Bv_length] at this; omega
  rcases h.2 with ⟨hv, h0⟩ | ⟨g, cap, cur, hv, hb, hh, h1, h2, _⟩
  · subst h0
    exact ⟨hl, by omega, fun h => by omega⟩
  · cases hv
    refine ⟨hl, by simp only [maxLen] at h2; omega, fun _ => ⟨_, rfl, fun j hj => h.cells (g := g) rfl j _ (Bv_get bs j (by omega))⟩⟩
theorem rd_news {w : World} {ad : Addr} {n : Nat} {bs : List UInt8} (h : Rd w (some ad) n bs) : ∀ j u, (Bv bs)[j]? = some u → w.cell? (ad.add j) = some u := by
  intro j u hu
  have hj : j < bs.length := by
    have := (List.getElem?_eq_some_iff.1 hu).1
    rwa [Bv_length] at this
  obtain ⟨ad', e, hc⟩ := h.cell (by have := h.len; omega)
  cases e
  rw [hc j (by have := h.len; omega), ← hu, Bv_get bs j hj]
theorem rd_block (w : World) (bs : List UInt8) (t : TypeId) (fr : Nat × Nat) (hl : bs.length ≤ 9223372036854775807) : Rd (w.alloc (.cells (Bv bs).toArray t fr)) (some ⟨w.heap.size, 0, none⟩) bs.length bs :=
  ⟨rfl, hl, fun _ => ⟨_, rfl, fun j hj => World.news_of_block (cs := (Bv bs).toArray) (t := t) (fr := fr) (heap_alloc_new w _) j _ (by rw [List.toList_toArray]; exact Bv_get bs j hj)⟩⟩
theorem own_shape {w : World} {base n : Nat} {e : TypeId} {size : Nat} {v : Value} {xs : List Value} (h : w.ownsRow base e size v n xs) : ∃ A c, v = .slice A n c ∧ n ≤ c ∧ (A = none → n = 0 ∧ c = 0) ∧ (∀ ad, A = some ad → ad.off = 0 ∧ ad.spot = none ∧ base ≤ ad.block ∧ ad.block < w.heap.size) := by
  rcases h.2 with ⟨rfl, rfl⟩ | ⟨g, cap, cur, rfl, hb, hg, hc, _⟩
  · exact ⟨none, 0, rfl, by omega, fun _ => ⟨rfl, rfl⟩, fun _ e => by cases e⟩
  · exact ⟨_, cap, rfl, hc, (fun e => by cases e), fun ad e => by cases e; exact ⟨rfl, rfl, hb, (Array.getElem?_eq_some_iff.1 hg).1⟩⟩
/-- what a call leaves alone, in the walk's own form -/
theorem bcell {W w1 : World} (hb : Below W.heap.size W w1) : (∀ b o, b < W.heap.size → w1.cell? ⟨b, o, none⟩ = W.cell? ⟨b, o, none⟩) ∧ (∀ b o, b < W.heap.size → w1.frozen? ⟨b, o, none⟩ = W.frozen? ⟨b, o, none⟩) :=
  ⟨fun b o h => hb.cell (p := ⟨b, o, none⟩) h, fun b o h => hb.frozen (p := ⟨b, o, none⟩) h⟩
theorem Below.drewN {B : Nat} {a w : World} (h : Below B a w) (n : Nat) : Below B a (w.drewN n) := ⟨h.os, h.tape, h.output, h.size, h.block⟩
theorem grown_of_below {w w1 : World} (h : Below w.heap.size w w1) (row : Option Nat) : w.grownBy w1 row := ⟨h.os, h.tape, h.output, h.size, fun i hi _ => h.block i hi⟩
theorem grown_alloc_drew (w : World) (o : Obj) (row : Option Nat) : w.grownBy (w.alloc o).drew row := ⟨rfl, rfl, rfl, by simp, fun k hk _ => Below.heap_alloc w o k hk⟩
theorem ret_int {k : IntKind} {a b : Int} (h : a = b) : Ending.returned (.int k a) = .returned (.int k b) := by rw [h]
theorem ret_bool {a b : Bool} (h : a = b) : Ending.returned (.bool a) = .returned (.bool b) := by rw [h]

/-! ### append, whatever is appended: nil, empty or not -/
section
variable {P : Program}
/-- the facts on an element type, one row of the table -/
def Elt (P : Program) (t e : TypeId) (z : Value) (size bytes : Nat) : Prop :=
  P.underlying t = some (.slice e) ∧ (P.info? e).map (fun i => (i.zero, i.size, i.bytes)) = some (some z, size, bytes) ∧ z.cells.size = size ∧ 0 < size
theorem run_app {w : World} {t e : TypeId} {z : Value} {size bytes : Nat} (he : Elt P t e z size bytes) (ty : TypeId) (base : Nat) (v : Value) (n : Nat) (xs : List Value) (hown : w.ownsRow base e size v n xs)
    (A : Option Addr) (m c : Nat) (news : List Value) (hl : news.length = m * size) (hA : A = none → m = 0 ∧ c = 0) (hnews : ∀ ad, A = some ad → ∀ j u, news[j]? = some u → w.cell? (ad.add j) = some u) (h1 : ∀ u ∈ news, u.oneCell' = true)
    (h63 : n + m ≤ maxLen) (hbytes : (n + m) * bytes ≤ 140737488355328) (hbase : base ≤ w.heap.size) :
    ∃ A' c' w', (Builtin.append_ #[t, t] ty #[v, .slice A m c]).run P w = .ok (.slice A' (n + m) c') w' ∧ w'.ownsRow base e size (.slice A' (n + m) c') (n + m) (xs ++ news) ∧ w.grownBy w' v.ownBlock ∧
      ((Value.slice A' (n + m) c').ownBlock = v.ownBlock ∨ (Value.slice A' (n + m) c').ownBlock = some w.heap.size) := by
  obtain ⟨ht, hinfo, hzs, hsz⟩ := he
  obtain ⟨i, hi, hz0, hz1, hz2⟩ := info_parts hinfo
  rcases A with _ | ad
  · obtain ⟨rfl, rfl⟩ := hA rfl
    obtain rfl : news = [] := List.eq_nil_of_length_eq_zero (by simpa using hl)
    obtain ⟨A', c', rfl, _⟩ := own_shape hown
    exact ⟨A', c', w, run_append_owned_none w base t ty e i size ht hi _ n xs hown, by simpa using hown, World.grownBy.refl _ _, .inl rfl⟩
  · obtain ⟨v', w', hr, h2, h3, _, h5⟩ := run_append_own_at (P := P) w base t ty e i z size bytes ht hi hz0 hz1 hz2 hzs hsz v n xs hown ad m c news hl (hnews ad rfl) h1 h63 hbytes hbase
    obtain ⟨A', c', rfl, _⟩ := own_shape h2
    exact ⟨A', c', w', hr, h2, h3, h5⟩
theorem wp_app {w : World} {o : Oper} {a : Act} {K : Act → World → Prop} {Q : Exit → Act → World → Prop} (s x : Operand) {t e : TypeId} (ho : o.op = .call { callee := .builtin .append, args := #[s, x], argTypes := #[t, t] })
    {z : Value} {size bytes : Nat} (he : Elt P t e z size bytes) (base : Nat) (v : Value) (n : Nat) (xs : List Value) (hs : a.eval s = v) (hown : w.ownsRow base e size v n xs)
    (A : Option Addr) (m c : Nat) (news : List Value) (hx : a.eval x = .slice A m c) (hl : news.length = m * size) (hA : A = none → m = 0 ∧ c = 0) (hnews : ∀ ad, A = some ad → ∀ j u, news[j]? = some u → w.cell? (ad.add j) = some u) (h1 : ∀ u ∈ news, u.oneCell' = true)
    (h63 : n + m ≤ maxLen) (hbytes : (n + m) * bytes ≤ 140737488355328) (hbase : base ≤ w.heap.size)
    (h : ∀ A' c' w', w'.ownsRow base e size (.slice A' (n + m) c') (n + m) (xs ++ news) → w.grownBy w' v.ownBlock → ((Value.slice A' (n + m) c').ownBlock = v.ownBlock ∨ (Value.slice A' (n + m) c').ownBlock = some w.heap.size) → K (a.put o.dst (.slice A' (n + m) c')) w') : o.wp P a w K Q := by
  obtain ⟨A', c', w', hr, h2, h3, h4⟩ := run_app (P := P) he o.type base v n xs hown A m c news hl hA hnews h1 h63 hbytes hbase
  unfold Oper.wp execOp
  simp only [ho, resolve, invoke, builtin, Sem.run_bind, Sem.run_pure, Result.andThen_ok, List.map_toArray, List.map_cons, List.map_nil, hs, hx, hr]
  exact h A' c' w' h2 h3 h4
theorem wpList_app {w : World} {ops : Array Oper} {rest : List Oper} {o : Oper} {a : Act} {Q : Exit → Act → World → Prop} (hgd : o.guard = none) (s x : Operand) {t e : TypeId} (ho : o.op = .call { callee := .builtin .append, args := #[s, x], argTypes := #[t, t] })
    {z : Value} {size bytes : Nat} (he : Elt P t e z size bytes) (base : Nat) (v : Value) (n : Nat) (xs : List Value) (hs : a.eval s = v) (hown : w.ownsRow base e size v n xs)
    (A : Option Addr) (m c : Nat) (news : List Value) (hx : a.eval x = .slice A m c) (hl : news.length = m * size) (hA : A = none → m = 0 ∧ c = 0) (hnews : ∀ ad, A = some ad → ∀ j u, news[j]? = some u → w.cell? (ad.add j) = some u) (h1 : ∀ u ∈ news, u.oneCell' = true)
    (h63 : n + m ≤ maxLen) (hbytes : (n + m) * bytes ≤ 140737488355328) (hbase : base ≤ w.heap.size)
    (h : ∀ A' c' w', w'.ownsRow base e size (.slice A' (n + m) c') (n + m) (xs ++ news) → w.grownBy w' v.ownBlock → ((Value.slice A' (n + m) c').ownBlock = v.ownBlock ∨ (Value.slice A' (n + m) c').ownBlock = some w.heap.size) → wpList P ops Q rest (a.put o.dst (.slice A' (n + m) c')) w') : wpList P ops Q (o :: rest) a w :=
  wpList_plain hgd fun _ hK => wp_app s x ho he base v n xs hs hown A m c news hx hl hA hnews h1 h63 hbytes hbase fun A' c' w' h2 h3 h4 => hK _ _ (h A' c' w' h2 h3 h4)
theorem step_app {w : World} {ops : Array Oper} {o : Oper} {a : Act} {K : Act → World → Prop} {Q : Exit → Act → World → Prop} {E : Prop} (hgd : o.guard = none) (s x : Operand) {t e : TypeId} (ho : o.op = .call { callee := .builtin .append, args := #[s, x], argTypes := #[t, t] })
    {z : Value} {size bytes : Nat} (he : Elt P t e z size bytes) (base : Nat) (v : Value) (n : Nat) (xs : List Value) (hs : a.eval s = v) (hown : w.ownsRow base e size v n xs)
    (A : Option Addr) (m c : Nat) (news : List Value) (hx : a.eval x = .slice A m c) (hl : news.length = m * size) (hA : A = none → m = 0 ∧ c = 0) (hnews : ∀ ad, A = some ad → ∀ j u, news[j]? = some u → w.cell? (ad.add j) = some u) (h1 : ∀ u ∈ news, u.oneCell' = true)
    (h63 : n + m ≤ maxLen) (hbytes : (n + m) * bytes ≤ 140737488355328) (hbase : base ≤ w.heap.size)
    (h : ∀ A' c' w', w'.ownsRow base e size (.slice A' (n + m) c') (n + m) (xs ++ news) → w.grownBy w' v.ownBlock → ((Value.slice A' (n + m) c').ownBlock = v.ownBlock ∨ (Value.slice A' (n + m) c').ownBlock = some w.heap.size) → K (a.put o.dst (.slice A' (n + m) c')) w') :
    if Region.wanted o (yielded ops a.tmps) = true then Oper.wp P o a w K Q else E := by
  have hw : Region.wanted o (yielded ops a.tmps) = true := by simp [Region.wanted, hgd]
  rw [if_pos hw]
  exact wp_app s x ho he base v n xs hs hown A m c news hx hl hA hnews h1 h63 hbytes hbase h
end
theorem Rd.none_zero {w : World} {A : Option Addr} {n : Nat} {bs : List UInt8} (h : Rd w A n bs) : A = none → n = 0 := by
  rintro rfl
  rcases Nat.eq_zero_or_pos n with h0 | h0
  · exact h0
  · obtain ⟨_, e, _⟩ := h.cell h0
    cases e
/-- the cells of a slice that reads, as append wants them -/
theorem Rd.news {w : World} {A : Option Addr} {n : Nat} {bs : List UInt8} (h : Rd w A n bs) : ∀ ad, A = some ad → ∀ j u, (Bv bs)[j]? = some u → w.cell? (ad.add j) = some u := by
  rintro ad rfl
  exact rd_news h
theorem Rd.lenBv {w : World} {A : Option Addr} {n : Nat} {bs : List UInt8} (h : Rd w A n bs) : (Bv bs).length = n * 1 := by rw [Bv_length, h.len]; omega

/-! ### bits -/
theorem x32 (a b : Nat) (ha : a < 4294967296) (hb : b < 4294967296) : bits .xor .u32 (a : Int) (b : Int) = ((a ^^^ b : Nat) : Int) := u32_xor_nat a b ha hb
theorem x8 (a b : Nat) (ha : a < 256) (hb : b < 256) : bits .xor .u8 (a : Int) (b : Int) = ((a ^^^ b : Nat) : Int) := u8_xor_nat a b ha hb
theorem bits_u32_range (op : BinOp) (a b : Int) : 0 ≤ bits op .u32 a b ∧ bits op .u32 a b < 4294967296 := by
  unfold bits
  rw [IntKind.wrap_u32]; omega

theorem grown_setCell (w : World) (a : Addr) (v : Value) : w.grownBy (w.setCell a v) (some a.block) :=
  ⟨rfl, rfl, rfl, by simp, fun k _ hne => Below.heap_setCell _ _ _ _ (fun e => hne (by rw [e]))⟩
theorem grown_drewN {w w' : World} {row : Option Nat} (h : w.grownBy w' row) (n : Nat) : w.grownBy (w'.drewN n) row := ⟨h.os, h.tape, h.output, h.size, h.block⟩

/-! ### a struct of the program in a block of its own, cell by cell -/
def Ob (w : World) (b : Nat) (cs : List Value) : Prop := ∀ j v, cs[j]? = some v → w.cell? ⟨b, j, none⟩ = some v ∧ w.frozen? ⟨b, j, none⟩ = false
theorem Ob.cell {w : World} {b : Nat} {cs : List Value} (h : Ob w b cs) (j : Nat) {v : Value} (hv : cs[j]? = some v) : w.cell? ⟨b, j, none⟩ = some v := (h j v hv).1
theorem Ob.fr {w : World} {b : Nat} {cs : List Value} (h : Ob w b cs) (j : Nat) (hj : j < cs.length) : w.frozen? ⟨b, j, none⟩ = false := (h j _ (List.getElem?_eq_getElem hj)).2
theorem Ob.lt {w : World} {b : Nat} {cs : List Value} (h : Ob w b cs) (hn : 0 < cs.length) : b < w.heap.size := World.block_lt_of_cell? w _ (h.cell 0 (List.getElem?_eq_getElem hn))
theorem Ob.kept {w w' : World} {b : Nat} {cs : List Value} (h : Ob w b cs) {row : Option Nat} (hg : w.grownBy w' row) (hne : some b ≠ row) : Ob w' b cs := fun j v hv => by
  have h1 := h j v hv
  have hb : w'.heap[b]? = w.heap[b]? := hg.block b (World.block_lt_of_cell? w _ h1.1) hne
  exact ⟨(World.cell?_of_block (a := ⟨b, j, none⟩) hb).trans h1.1, (World.frozen?_of_block (a := ⟨b, j, none⟩) hb).trans h1.2⟩
theorem Ob.below {w w' : World} {b : Nat} {cs : List Value} (h : Ob w b cs) (hb : Below w.heap.size w w') : Ob w' b cs := h.kept (grown_of_below hb none) (by simp)
theorem Ob.alloc {w : World} {b : Nat} {cs : List Value} (h : Ob w b cs) (o : Obj) : Ob (w.alloc o) b cs := h.kept (World.grownBy_alloc w o none) (by simp)
theorem Ob.drewN {w : World} {b : Nat} {cs : List Value} (h : Ob w b cs) (n : Nat) : Ob (w.drewN n) b cs := fun j v hv => h j v hv
theorem Ob.set {w : World} {b : Nat} {cs : List Value} (h : Ob w b cs) (j : Nat) (hj : j < cs.length) (v : Value) : Ob (w.setCell ⟨b, j, none⟩ v) b (cs.set j v) := fun i u hu => by
  by_cases e : i = j
  · subst e
    rw [List.getElem?_set_self hj] at hu
    cases hu
    exact ⟨World.cell?_setCell_same _ _ _ (h.cell i (List.getElem?_eq_getElem hj)), by rw [World.frozen?_setCell]; exact h.fr i hj⟩
  · rw [List.getElem?_set_ne (Ne.symm e)] at hu
    have h1 := h i u hu
    refine ⟨?_, by rw [World.frozen?_setCell]; exact h1.2⟩
    rw [World.cell?_setCell_other _ _ _ _ (fun e2 => e (by injection e2 with _ e2 _; exact e2.symm))]
    exact h1.1
theorem Ob.setOther {w : World} {b : Nat} {cs : List Value} (h : Ob w b cs) {a : Addr} (v : Value) (hne : b ≠ a.block) : Ob (w.setCell a v) b cs := h.kept (grown_setCell w a v) (by simp [hne])
theorem Ob.fresh (w : World) (C : Array Value) (t : TypeId) : Ob (w.alloc (.cells C t)) w.heap.size C.toList := fun j v hv => by
  have hj : j < C.size := by
    have := (List.getElem?_eq_some_iff.1 hv).1
    simpa using this
  refine ⟨?_, by simp⟩
  have := World.news_of_block (cs := C) (t := t) (fr := (0, 0)) (heap_alloc_new w (.cells C t)) j v hv
  rwa [add_at] at this
theorem Below.of_grown {b B : Nat} {w w' : World} (h : w.grownBy w' (some b)) (hB : B ≤ b) (hB2 : B ≤ w.heap.size) : Below B w w' := ⟨h.os, h.tape, h.output, h.size, fun k hk => h.block k (by omega) (by simp; omega)⟩
theorem grown_below_drop {b : Nat} {w w' : World} (h : w.grownBy w' none) (hb : b ≤ w.heap.size) : Below b w w' := ⟨h.os, h.tape, h.output, h.size, fun k hk => h.block k (by omega) (by simp)⟩
theorem gb_alloc {w w1 : World} {row : Option Nat} (h : w.grownBy w1 row) (o : Obj) : w.grownBy (w1.alloc o) row := h.trans (World.grownBy_alloc w1 o row)
theorem gb_set {w w1 : World} {row : Option Nat} (h : w.grownBy w1 row) (a : Addr) (v : Value) (ha : row = some a.block ∨ w.heap.size ≤ a.block) : w.grownBy (w1.setCell a v) row :=
  ⟨h.os, h.tape, h.output, by simpa using h.size, fun k hk hne => by
    rw [Below.heap_setCell _ _ _ _ (by rcases ha with e | e; { intro e2; exact hne (by rw [e, e2]) }; { omega })]
    exact h.block k hk hne⟩
/-! ### structs loaded cell by cell -/
section
variable {P : Program}
theorem run_loadVar_cells (w : World) (a : Addr) (ty : TypeId) (cs : List Value) (d : TypeDesc) (hc : ∀ j v, cs[j]? = some v → w.cell? (a.add j) = some v)
    (hu : P.underlying ty = some d) (hd : (match d with | .struct _ | .array _ _ => true | _ => false) = true) (hi : (P.info? ty).map (·.size) = some cs.length) :
    (loadVar ty a).run P w = .ok (.agg cs.toArray) w := by
  have hl := run_loadCells_list (P := P) w a cs hc
  cases hq : P.info? ty with
  | none => simp [hq] at hi
  | some i =>
    have hs : i.size = cs.length := by simpa [hq] using hi
    have hagg : (isAgg ty).run P w = .ok true w := by
      unfold isAgg
      rw [Sem.run_bind, run_underlying hu w]
      cases d <;> simp_all
    simp [loadVar, Sem.run_bind, hagg, sizeOf, typeInfo, hq, hs, hl]
theorem wp_load_cells {o : Oper} {a : Act} {w : World} {K : Act → World → Prop} {Q : Exit → Act → World → Prop} (ty : TypeId) (x : Operand) (ho : o.op = .load ty x)
    (ad : Addr) (hx : a.eval x = .pointer (some ad)) (cs : List Value) (d : TypeDesc) (hc : ∀ j v, cs[j]? = some v → w.cell? (ad.add j) = some v)
    (hu : P.underlying ty = some d) (hd : (match d with | .struct _ | .array _ _ => true | _ => false) = true) (hi : (P.info? ty).map (·.size) = some cs.length)
    (h : K (a.put o.dst (.agg cs.toArray)) w) : o.wp P a w K Q := by
  unfold Oper.wp execOp
  simp only [ho, hx, Instr.loadAt, Instr.sureAddr, Sem.run_bind, Sem.run_pure, Result.andThen_ok, run_loadVar_cells w ad ty cs d hc hu hd hi]
  exact h
theorem wpList_load_cells {ops : Array Oper} {rest : List Oper} {o : Oper} {a : Act} {w : World} {Q : Exit → Act → World → Prop} (hgd : o.guard = none) (ty : TypeId) (x : Operand) (ho : o.op = .load ty x)
    (ad : Addr) (hx : a.eval x = .pointer (some ad)) (cs : List Value) (d : TypeDesc) (hc : ∀ j v, cs[j]? = some v → w.cell? (ad.add j) = some v)
    (hu : P.underlying ty = some d) (hd : (match d with | .struct _ | .array _ _ => true | _ => false) = true) (hi : (P.info? ty).map (·.size) = some cs.length)
    (h : wpList P ops Q rest (a.put o.dst (.agg cs.toArray)) w) : wpList P ops Q (o :: rest) a w :=
  wpList_plain hgd fun _ hK => wp_load_cells ty x ho ad hx cs d hc hu hd hi (hK _ _ h)
theorem step_load_cells {ops : Array Oper} {o : Oper} {a : Act} {w : World} {K : Act → World → Prop} {Q : Exit → Act → World → Prop} {E : Prop} (hgd : o.guard = none) (ty : TypeId) (x : Operand) (ho : o.op = .load ty x)
    (ad : Addr) (hx : a.eval x = .pointer (some ad)) (cs : List Value) (d : TypeDesc) (hc : ∀ j v, cs[j]? = some v → w.cell? (ad.add j) = some v)
    (hu : P.underlying ty = some d) (hd : (match d with | .struct _ | .array _ _ => true | _ => false) = true) (hi : (P.info? ty).map (·.size) = some cs.length)
    (h : K (a.put o.dst (.agg cs.toArray)) w) : if Region.wanted o (yielded ops a.tmps) = true then Oper.wp P o a w K Q else E := by
  have hw : Region.wanted o (yielded ops a.tmps) = true := by simp [Region.wanted, hgd]
  rw [if_pos hw]
  exact wp_load_cells ty x ho ad hx cs d hc hu hd hi h
theorem wpList_load5 {ops : Array Oper} {rest : List Oper} {dst : Option Nat} {T : TypeId} {pos : String} {af} {a : Act} {w : World} {Q : Exit → Act → World → Prop} (ty : TypeId) (x : Operand)
    (ad : Addr) (c0 c1 c2 c3 c4 : Value) {fs} (hc : ∀ j v, [c0, c1, c2, c3, c4][j]? = some v → w.cell? (ad.add j) = some v)
    (hu : P.underlying ty = some (.struct fs)) (hi : (P.info? ty).map (·.size) = some 5) (hx : a.eval x = .pointer (some ad))
    (h : wpList P ops Q rest (a.put dst (.agg #[c0, c1, c2, c3, c4])) w) : wpList P ops Q ({ dst := dst, op := .load ty x, type := T, pos := pos, after := af, guard := none } :: rest) a w :=
  wpList_load_cells rfl ty x rfl ad hx [c0, c1, c2, c3, c4] _ hc hu rfl hi h
end
theorem Ob.adds {w : World} {b : Nat} {cs : List Value} (h : Ob w b cs) : ∀ j v, cs[j]? = some v → w.cell? ((⟨b, 0, none⟩ : Addr).add j) = some v := fun j v hv => by rw [add_at]; exact h.cell j hv
theorem ret_cells {P : Program} {fn : Func} {p u : Tmp} {ty : TypeId} (h : fn.results = #[.cell p ty, .tmp u]) {R : Ending → World → Prop} {a : Act} {w : World} {b : Nat} {cs : List Value} {e : Value} {fs : Array Field}
    (hu : P.underlying ty = some (.struct fs)) (hi : (P.info? ty).map (·.size) = some cs.length) (ht : a.tmps.getD p undef = .pointer (some ⟨b, 0, none⟩)) (he : a.tmps.getD u undef = e) (hc : Ob w b cs) (hd : a.defers = [])
    (hR : R (.returned (.tuple #[.agg cs.toArray, e])) w) : bodyPost P fn R .ret a w := by
  refine bodyPost_ret (v := .tuple #[.agg cs.toArray, e]) ?_ hd hR
  rw [results_cell_tmp h, ht, he]
  have h1 : (asAddr (.pointer (some ⟨b, 0, none⟩))).run P w = .ok ⟨b, 0, none⟩ w := rfl
  rw [h1, Result.andThen_ok, run_loadVar_cells w ⟨b, 0, none⟩ ty cs _ hc.adds hu rfl hi, Result.andThen_ok]
end Go.Proofs.Ytgmmpbiideeikaa
