/-
  Given.Msg and CopyMsg (printed by gen_mmsg.py out of mmsg.txt).
-/
import Derived.Test.YtgmmpbiideeikaaMVec
import Derived.Test.YtgmmpbiideeikaaMOpen
set_option linter.unusedVariables false
set_option linter.unusedSimpArgs false
namespace Go.Proofs.Ytgmmpbiideeikaa
open Go.RowKit

theorem ob_row {w : World} {g : Nat} {old cs : Array Value} {t : TypeId} (hg : w.heap[g]? = some (.cells old t (0, 0))) : Ob (w.setRow g cs) g cs.toList := fun j v hv => by
  refine ⟨?_, ?_⟩
  · rw [cell_setRow_same w g j old cs t (0, 0) hg, ← hv]; simp
  · simp [World.frozen?, setRow_heap w g old cs t (0, 0) hg]
theorem grown_setRow (w : World) (g : Nat) (cs : Array Value) : w.grownBy (w.setRow g cs) (some g) :=
  ⟨rfl, rfl, rfl, by simp, fun k _ hne => setRow_other w g k cs (fun e => hne (by rw [e]))⟩
theorem below_row {B g : Nat} {w0 w : World} (hb : Below B w0 w) (hB : B ≤ g) (cs : Array Value) : Below B w0 (w.setRow g cs) := hb.trans ⟨rfl, rfl, rfl, by simp, fun k hk => setRow_other w g k cs (by omega)⟩
theorem GvA.row {X : Nat → Prop} {w : World} {p : Nat} {us vs : List GD} {xs ys : List GE} (h : GvA X w p us vs xs ys) {r : Nat} (hr : X r) (cs : Array Value) : GvA X (w.setRow r cs) p us vs xs ys := by
  obtain ⟨G, c, G', c', K, d, K', d', h1, h2, h3, h4⟩ := h
  have hg := grown_setRow w r cs
  exact ⟨G, c, G', c', K, d, K', d',
    h1.grown hg (fun e => h4.p r hr (by injection e)) (fun j e h9 => h4.a0 r hr (by rw [e]; exact h9)) (fun j e h9 => h4.a1 r hr (by rw [e]; exact h9)) (fun z hz ad e h9 => h4.u r hr z hz ad e (by injection h9)) (fun z hz ad e h9 => h4.v r hr z hz ad e (by injection h9)),
    h2.grown hg (fun e => h4.p r hr (by injection e)) (fun j e h9 => h4.b0 r hr (by rw [e]; exact h9)) (fun j e h9 => h4.b1 r hr (by rw [e]; exact h9)) (fun z hz ad e h9 => h4.x r hr z hz ad e (by injection h9)) (fun z hz ad e h9 => h4.y r hr z hz ad e (by injection h9)), h3, h4⟩
/-- Given: its lists and what they were -/
def Gw (w : World) (p : Nat) (us vs : List GD) (xs ys : List GE) : Prop := GvB w p us vs xs ys ∧ us.map GD.bs = vs.map GD.bs ∧ xs.map GE.bs = ys.map GE.bs
theorem Gw.below {w w1 : World} {p : Nat} {us vs : List GD} {xs ys : List GE} (h : Gw w p us vs xs ys) (hb : Below w.heap.size w w1) : Gw w1 p us vs xs ys := ⟨h.1.below hb, h.2⟩
theorem Gw.start {w : World} {p : Nat} (h : Ob w p nil10) : Gw w p [] [] [] [] := ⟨GvB.start h, rfl, rfl⟩
theorem Gw.lenx {w : World} {p : Nat} {us vs : List GD} {xs ys : List GE} (h : Gw w p us vs xs ys) : xs.length = ys.length := by have := congrArg List.length h.2.2; simpa using this
theorem Gw.lenu {w : World} {p : Nat} {us vs : List GD} {xs ys : List GE} (h : Gw w p us vs xs ys) : us.length = vs.length := by have := congrArg List.length h.2.1; simpa using this
theorem map_at {α β : Type} {f : α → β} {l l' : List α} (h : l.map f = l'.map f) {k : Nat} {x y : α} (hx : l[k]? = some x) (hy : l'[k]? = some y) : f x = f y := by
  have h1 : (l.map f)[k]? = some (f x) := by rw [List.getElem?_map, hx]; rfl
  rw [h, List.getElem?_map, hy] at h1
  exact (Option.some.inj h1).symm
theorem intactG_any {g : Nat} {us vs : List GD} {xs ys : List GE} {w : World} (h : Gw w g us vs xs ys) (hk : (xs.length : Int) ≤ 6000000000000) (hkd : (us.length : Int) ≤ 6000000000000) :
    Calls Try.prog 8 #[.pointer (some ⟨g, 0, none⟩)] w fun e w' => e = .returned (.bool true) ∧ ∃ q, w' = w.drewN q :=
  intactB_any g us vs xs ys w h.1 h.lenx hk (fun k x y hx hy => map_at h.2.2 hx hy) h.lenu hkd (fun k x y hx hy => map_at h.2.1 hx hy)
/-- a message whose lists Given handed out -/
structure Lent (y : Mp) (us : List GD) (xs : List GE) : Prop where
  lg : ∃ a ∈ xs, a.A = y.A ∧ a.n = y.n + 1 ∧ a.bs = y.m.lg ++ [markE]
  vc : ∃ u ∈ us, u.A = y.B ∧ u.n = y.k + 1 ∧ u.bs = y.m.vc ++ [markD]
theorem Lent.more {y : Mp} {us : List GD} {xs : List GE} (h : Lent y us xs) (u : List GD) (x : List GE) : Lent y (us ++ u) (xs ++ x) := by
  obtain ⟨⟨a, h1, h2⟩, b, h3, h4⟩ := h
  exact ⟨⟨a, List.mem_append.2 (.inl h1), h2⟩, b, List.mem_append.2 (.inl h3), h4⟩
theorem rdc_snoc {α : Type} {size : Nat} {cells : α → List Value} {w : World} {A : Option Addr} {n : Nat} {L : List α} {z : α} (h : RdC size cells w A (n + 1) (L ++ [z])) : RdC size cells w A n L := by
  have h1 := h.take n (by omega)
  have hl := h.len
  rw [List.length_append] at hl
  simp at hl
  rwa [List.take_left' hl] at h1
theorem Lent.rd {y : Mp} {w : World} {p : Nat} {us vs : List GD} {xs ys : List GE} (h : Lent y us xs) (hg : Gw w p us vs xs ys) : y.Rd w := by
  obtain ⟨⟨a, h1, h2, h3, h4⟩, b, g1, g2, g3, g4⟩ := h
  obtain ⟨⟨G, c, G', c', K, d, K', d', hD, hE, _⟩, _⟩ := hg
  have e1 := (hE.e0 a h1).1
  have e2 := (hD.e0 b g1).1
  rw [h2, h3, h4] at e1
  rw [g2, g3, g4] at e2
  exact ⟨rdc_snoc e1, rdc_snoc e2⟩
theorem msgBelow (w : World) (a b : Obj) : Below w.heap.size w ((w.alloc a).alloc b) := ((Below.refl _ w).alloc (Nat.le_refl _) a).alloc (by show w.heap.size ≤ (w.alloc a).heap.size; simp) b
theorem msgNew0 (w : World) (a b : Obj) : ((w.alloc a).alloc b).heap[w.heap.size]? = some a := (Below.heap_alloc _ _ _ (by show w.heap.size < (w.alloc _).heap.size; simp)).trans (heap_alloc_new w _)
theorem msgNew1 (w : World) (a b : Obj) : ((w.alloc a).alloc b).heap[w.heap.size + 1]? = some b := by
  have := heap_alloc_new (w.alloc a) b
  rwa [World.size_alloc] at this
theorem ob_heap {w : World} {g : Nat} {cs : Array Value} {t : TypeId} (hg : w.heap[g]? = some (.cells cs t (0, 0))) : Ob w g cs.toList := by
  have := ob_row (cs := cs) hg
  rwa [setRow_self w g cs t (0, 0) hg] at this
/-- Given, apart from some blocks -/
def Gx (X : Nat → Prop) (w : World) (p : Nat) (us vs : List GD) (xs ys : List GE) : Prop := GvA X w p us vs xs ys ∧ us.map GD.bs = vs.map GD.bs ∧ xs.map GE.bs = ys.map GE.bs
theorem Gx.toW {X : Nat → Prop} {w : World} {p : Nat} {us vs : List GD} {xs ys : List GE} (h : Gx X w p us vs xs ys) : Gw w p us vs xs ys := ⟨h.1.toB, h.2⟩
theorem Gw.toX {X : Nat → Prop} {w : World} {p : Nat} {us vs : List GD} {xs ys : List GE} (h : Gw w p us vs xs ys) (hX : ∀ j, X j → w.heap.size ≤ j) : Gx X w p us vs xs ys := ⟨h.1.toA hX, h.2⟩
theorem Gx.below {X : Nat → Prop} {w w1 : World} {p : Nat} {us vs : List GD} {xs ys : List GE} (h : Gx X w p us vs xs ys) (hb : Below w.heap.size w w1) : Gx X w1 p us vs xs ys := ⟨h.1.below hb, h.2⟩
theorem GvA.mono {X Y : Nat → Prop} {w : World} {p : Nat} {us vs : List GD} {xs ys : List GE} (h : GvA X w p us vs xs ys) (hY : ∀ j, Y j → X j) : GvA Y w p us vs xs ys := by
  obtain ⟨G, c, G', c', K, d, K', d', h1, h2, h3, h4⟩ := h
  exact ⟨G, c, G', c', K, d, K', d', h1, h2, h3, ⟨fun j e => h4.p j (hY j e), fun j e => h4.a0 j (hY j e), fun j e => h4.a1 j (hY j e), fun j e => h4.b0 j (hY j e), fun j e => h4.b1 j (hY j e), fun j e => h4.u j (hY j e), fun j e => h4.v j (hY j e), fun j e => h4.x j (hY j e), fun j e => h4.y j (hY j e)⟩⟩
theorem GvA.join {X Y : Nat → Prop} {w : World} {p : Nat} {us vs : List GD} {xs ys : List GE} (h : GvA X w p us vs xs ys) (hY : ∀ j, Y j → w.heap.size ≤ j) : GvA (fun j => X j ∨ Y j) w p us vs xs ys := by
  have h9 := h.toB.toA hY
  obtain ⟨G, c, G', c', K, d, K', d', h1, h2, h3, h4⟩ := h
  refine ⟨G, c, G', c', K, d, K', d', h1, h2, h3, ⟨fun j hj e => ?_, fun j hj e => ?_, fun j hj e => ?_, fun j hj e => ?_, fun j hj e => ?_, fun j hj z hz ad e => ?_, fun j hj z hz ad e => ?_, fun j hj z hz ad e => ?_, fun j hj z hz ad e => ?_⟩⟩ <;> rcases hj with hj | hj
  · exact h4.p j hj e
  · have := hY j hj; have := h1.lt; omega
  · exact h4.a0 j hj e
  · have := hY j hj; have := (h1.o0.lt _ e).2; omega
  · exact h4.a1 j hj e
  · have := hY j hj; have := (h1.o1.lt _ e).2; omega
  · exact h4.b0 j hj e
  · have := hY j hj; have := (h2.o0.lt _ e).2; omega
  · exact h4.b1 j hj e
  · have := hY j hj; have := (h2.o1.lt _ e).2; omega
  · exact h4.u j hj z hz ad e
  · have := hY j hj; have := ((h1.e0 z hz).2.2.2 ad e).2.1; omega
  · exact h4.v j hj z hz ad e
  · have := hY j hj; have := ((h1.e1 z hz).2.2.2 ad e).2.1; omega
  · exact h4.x j hj z hz ad e
  · have := hY j hj; have := ((h2.e0 z hz).2.2.2 ad e).2.1; omega
  · exact h4.y j hj z hz ad e
  · have := hY j hj; have := ((h2.e1 z hz).2.2.2 ad e).2.1; omega
/-- what Given.Msg answers -/
def MsgOut (X : Nat → Prop) (p : Nat) (us vs : List GD) (xs ys : List GE) (x : Mp) (w : World) (e : Ending) (w' : World) : Prop :=
  ∃ (y : Mp) (u v : GD) (a b : GE), e = .returned y.agg ∧ Gx X w' p (us ++ [u]) (vs ++ [v]) (xs ++ [a]) (ys ++ [b]) ∧ y.m = x.m ∧ y.n = x.n ∧ y.k = x.k ∧ Lent y (us ++ [u]) (xs ++ [a]) ∧ Below p w w' ∧ ∀ j, X j → w'.heap[j]? = w.heap[j]?
set_option maxHeartbeats 8000000 in
set_option maxRecDepth 100000 in
theorem gmsg_any (X : Nat → Prop) (p : Nat) (us vs : List GD) (xs ys : List GE) (w : World) (h : Gx X w p us vs xs ys) (hX : ∀ j, X j → j < w.heap.size) (hk : (xs.length + 2) * 24 ≤ 140737488355328) (hk' : (us.length + 2) * 24 ≤ 140737488355328) (x : Mp) (hln : x.A = none → x.n = 0 ∧ x.c = 0) (hvn : x.B = none → x.k = 0 ∧ x.d = 0) (hx : ∀ w', Below p w w' → x.Rd w') (hs : x.Sm) :
    Calls Try.prog 4 #[.pointer (some ⟨p, 0, none⟩), x.agg] w (MsgOut X p us vs xs ys x w) := by
  obtain ⟨m, A, n, c, B, k, d⟩ := x
  have HSL := Lib.hid hs.lg
  have HSV := Lib.hid hs.vc
  have HLN := Lib.hid hln
  have HVN := Lib.hid hvn
  have HRD := Lib.hid hx
  have HEX := Lib.hid h.2.2
  have HEU := Lib.hid h.2.1
  have HK := Lib.hid (And.intro hk (h.toW.lenx ▸ hk))
  have HKU := Lib.hid (And.intro hk' (h.toW.lenu ▸ hk'))
  have HX := Lib.hid hX
  have HP := Lib.hid h.1.lt
  have HG := Lib.hid (h.1.join (Y := fun j => j = w.heap.size ∨ j = w.heap.size + 1) (fun j e => by rcases e with e | e <;> omega))
  simp only at HSL HSV HLN HVN HRD
  clear hs hx h hk hk' hln hvn hX
  have B2 := Lib.hid (msgBelow w (.cells #[.int .i64 m.kd, .int .i64 m.nd, .int .i64 m.vw, .int .i64 m.en.c, .int .i64 m.en.n, .int .i64 m.en.kd, .int .i64 m.en.sl, .string m.en.v, .int .i64 m.rc, .int .i64 m.rs, .string m.rv, .int .i64 m.pl, .int .i64 m.cm, .int .i64 m.la, .int .u64 (m.h : Nat), .int .u64 (m.l : Nat), .slice A n c, .slice B k d] 36) (.cells #[.int .i64 0, .int .i64 0, .int .i64 0, .int .i64 0, .int .i64 0, .int .i64 0, .int .i64 0, .string ByteArray.empty, .int .i64 0, .int .i64 0, .string ByteArray.empty, .int .i64 0, .int .i64 0, .int .i64 0, .int .u64 0, .int .u64 0, .slice none 0 0, .slice none 0 0] 36))
  have N0 := Lib.hid (msgNew0 w (.cells #[.int .i64 m.kd, .int .i64 m.nd, .int .i64 m.vw, .int .i64 m.en.c, .int .i64 m.en.n, .int .i64 m.en.kd, .int .i64 m.en.sl, .string m.en.v, .int .i64 m.rc, .int .i64 m.rs, .string m.rv, .int .i64 m.pl, .int .i64 m.cm, .int .i64 m.la, .int .u64 (m.h : Nat), .int .u64 (m.l : Nat), .slice A n c, .slice B k d] 36) (.cells #[.int .i64 0, .int .i64 0, .int .i64 0, .int .i64 0, .int .i64 0, .int .i64 0, .int .i64 0, .string ByteArray.empty, .int .i64 0, .int .i64 0, .string ByteArray.empty, .int .i64 0, .int .i64 0, .int .i64 0, .int .u64 0, .int .u64 0, .slice none 0 0, .slice none 0 0] 36))
  have N1 := Lib.hid (msgNew1 w (.cells #[.int .i64 m.kd, .int .i64 m.nd, .int .i64 m.vw, .int .i64 m.en.c, .int .i64 m.en.n, .int .i64 m.en.kd, .int .i64 m.en.sl, .string m.en.v, .int .i64 m.rc, .int .i64 m.rs, .string m.rv, .int .i64 m.pl, .int .i64 m.cm, .int .i64 m.la, .int .u64 (m.h : Nat), .int .u64 (m.l : Nat), .slice A n c, .slice B k d] 36) (.cells #[.int .i64 0, .int .i64 0, .int .i64 0, .int .i64 0, .int .i64 0, .int .i64 0, .int .i64 0, .string ByteArray.empty, .int .i64 0, .int .i64 0, .string ByteArray.empty, .int .i64 0, .int .i64 0, .int .i64 0, .int .u64 0, .int .u64 0, .slice none 0 0, .slice none 0 0] 36))
  have S2 : Hid (((w.alloc (.cells #[.int .i64 m.kd, .int .i64 m.nd, .int .i64 m.vw, .int .i64 m.en.c, .int .i64 m.en.n, .int .i64 m.en.kd, .int .i64 m.en.sl, .string m.en.v, .int .i64 m.rc, .int .i64 m.rs, .string m.rv, .int .i64 m.pl, .int .i64 m.cm, .int .i64 m.la, .int .u64 (m.h : Nat), .int .u64 (m.l : Nat), .slice A n c, .slice B k d] 36)).alloc (.cells #[.int .i64 0, .int .i64 0, .int .i64 0, .int .i64 0, .int .i64 0, .int .i64 0, .int .i64 0, .string ByteArray.empty, .int .i64 0, .int .i64 0, .string ByteArray.empty, .int .i64 0, .int .i64 0, .int .i64 0, .int .u64 0, .int .u64 0, .slice none 0 0, .slice none 0 0] 36)).heap.size = w.heap.size + 2) := by show _ = _; simp
  go_enter Try.func4, Try.ntmps4
  go_wp2_with fail
  refine (gentries_A (HG.out.below B2.out) (fun j e => by have := S2.out; rcases e with e | e; { have := HX.out j e; omega }; { rcases e with e | e <;> omega }) HK.out.1 HK.out.2 A n c m.lg (HRD.out _ (Below.mono B2.out (Nat.le_of_lt HP.out))).lg HLN.out (by have := HSL.out; omega)).mono ?_
  rintro e w3 ⟨a, b, rfl, hg3, ha, hb, hna, hnb, hb3, hx3⟩
  have F3 := Lib.hid (And.intro ha (And.intro hb (And.intro hna hnb)))
  have G3 := Lib.hid hg3
  have B3 := Lib.hid hb3
  have M0 := Lib.hid ((hx3 _ (.inr (.inl rfl))).trans N0.out)
  have M1 := Lib.hid ((hx3 _ (.inr (.inr rfl))).trans N1.out)
  have T3 : Hid (∀ j, X j → w3.heap[j]? = w.heap[j]?) := fun j hj => (hx3 j (.inl hj)).trans (B2.out.block j (HX.out j hj))
  clear hg3 ha hb hna hnb hb3 hx3
  have O3 := Lib.hid (ob_heap M0.out)
  have q16 := O3.out.cell 16 rfl
  have q17 := O3.out.cell 17 rfl
  have f16 := O3.out.fr 16 (by simp)
  have L3 := O3.out.lt (by simp)
  have BW3 : Hid (Below p w w3) := Below.trans (Below.mono B2.out (Nat.le_of_lt HP.out)) B3.out
  go_wp2_with fail
  clear q16 q17 f16 L3
  have G4 := Lib.hid (G3.out.store (r := w.heap.size) (.inr (.inl rfl)) 16 (.slice a.A n a.c))
  refine (gvector_A G4.out (fun j e => ?j1) HKU.out.1 HKU.out.2 B k d m.vc ?j2 HVN.out (by have := HSV.out; omega)).mono ?_
  case j1 => have := S2.out; have := B3.out.size; simp; rcases e with e | e; { have := HX.out j e; omega }; { rcases e with e | e <;> omega }
  case j2 => exact (HRD.out _ (BW3.out.setCell (Nat.le_of_lt HP.out) _)).vc
  rintro e w4 ⟨u, v, rfl, hg4, hu, hv, hnu, hnv, hb4, hx4⟩
  have F4 := Lib.hid (And.intro hu (And.intro hv (And.intro hnu hnv)))
  have G5 := Lib.hid (hg4.store (r := w.heap.size) (.inr (.inl rfl)) 17 (.slice u.A k u.c))
  have O5 : Hid (Ob (w4.setCell ⟨w.heap.size, 17, none⟩ (.slice u.A k u.c)) w.heap.size [.int .i64 m.kd, .int .i64 m.nd, .int .i64 m.vw, .int .i64 m.en.c, .int .i64 m.en.n, .int .i64 m.en.kd, .int .i64 m.en.sl, .string m.en.v, .int .i64 m.rc, .int .i64 m.rs, .string m.rv, .int .i64 m.pl, .int .i64 m.cm, .int .i64 m.la, .int .u64 (m.h : Nat), .int .u64 (m.l : Nat), .slice a.A n a.c, .slice u.A k u.c]) := (((O3.out.set 16 (by simp) (.slice a.A n a.c)).heap (hx4 _ (.inr (.inl rfl)))).set 17 (by simp) (.slice u.A k u.c))
  have O4 := Lib.hid ((O3.out.set 16 (by simp) (.slice a.A n a.c)).heap (hx4 _ (.inr (.inl rfl))))
  have M5 : Hid ((w4.setCell ⟨w.heap.size, 17, none⟩ (.slice u.A k u.c)).heap[w.heap.size + 1]? = some (.cells #[.int .i64 0, .int .i64 0, .int .i64 0, .int .i64 0, .int .i64 0, .int .i64 0, .int .i64 0, .string ByteArray.empty, .int .i64 0, .int .i64 0, .string ByteArray.empty, .int .i64 0, .int .i64 0, .int .i64 0, .int .u64 0, .int .u64 0, .slice none 0 0, .slice none 0 0] 36 (0, 0))) := by
    refine (Below.heap_setCell _ _ _ _ (by simp)).trans ((hx4 _ (.inr (.inr rfl))).trans ((Below.heap_setCell _ _ _ _ (by simp)).trans M1.out))
  have BW5 : Hid (Below p w (w4.setCell ⟨w.heap.size, 17, none⟩ (.slice u.A k u.c))) := ((BW3.out.setCell (Nat.le_of_lt HP.out) _).trans hb4).setCell (Nat.le_of_lt HP.out) _
  have q17 := O4.out.cell 17 rfl
  have f17 := O4.out.fr 17 (by simp)
  have L4 := O4.out.lt (by simp)
  have T5 : Hid (∀ j, X j → w4.heap[j]? = w.heap[j]?) := fun j hj => (hx4 j (.inl hj)).trans ((Below.heap_setCell _ _ _ _ (by have := HX.out j hj; simp; omega)).trans (T3.out j hj))
  clear hg4 hu hv hnu hnv hb4 hx4
  go_wp2_with (first | (refine wpList_load_cells rfl 36 (.tmp 3) rfl ⟨w.heap.size, 0, none⟩ rfl [.int .i64 m.kd, .int .i64 m.nd, .int .i64 m.vw, .int .i64 m.en.c, .int .i64 m.en.n, .int .i64 m.en.kd, .int .i64 m.en.sl, .string m.en.v, .int .i64 m.rc, .int .i64 m.rs, .string m.rv, .int .i64 m.pl, .int .i64 m.cm, .int .i64 m.la, .int .u64 (m.h : Nat), .int .u64 (m.l : Nat), .slice a.A n a.c, .slice u.A k u.c] _ O5.out.adds Try.underlying36 rfl (by kernel_rfl) ?_) | (refine wpList_store_row rfl 36 (.tmp 4) (.tmp 15) rfl (w.heap.size + 1) #[.int .i64 m.kd, .int .i64 m.nd, .int .i64 m.vw, .int .i64 m.en.c, .int .i64 m.en.n, .int .i64 m.en.kd, .int .i64 m.en.sl, .string m.en.v, .int .i64 m.rc, .int .i64 m.rs, .string m.rv, .int .i64 m.pl, .int .i64 m.cm, .int .i64 m.la, .int .u64 (m.h : Nat), .int .u64 (m.l : Nat), .slice a.A n a.c, .slice u.A k u.c] rfl rfl _ _ M5.out (by kernel_rfl) rfl (by simp [Value.oneCell']) ?_))
  have O6 := ob_row (cs := #[.int .i64 m.kd, .int .i64 m.nd, .int .i64 m.vw, .int .i64 m.en.c, .int .i64 m.en.n, .int .i64 m.en.kd, .int .i64 m.en.sl, .string m.en.v, .int .i64 m.rc, .int .i64 m.rs, .string m.rv, .int .i64 m.pl, .int .i64 m.cm, .int .i64 m.la, .int .u64 (m.h : Nat), .int .u64 (m.l : Nat), .slice a.A n a.c, .slice u.A k u.c]) M5.out
  refine ret_cells1 Try.results4 (b := w.heap.size + 1) Try.underlying36 (by kernel_rfl) rfl O6 rfl ?_
  refine ⟨⟨m, a.A, n, a.c, u.A, k, u.c⟩, u, v, a, b, rfl, ⟨(G5.out.row (.inr (.inr rfl)) _).mono (fun j hj => .inl hj), ?_, ?_⟩, rfl, rfl, rfl, ⟨⟨a, by simp, rfl, F3.out.2.2.1, F3.out.1⟩, ⟨u, by simp, rfl, F4.out.2.2.1, F4.out.1⟩⟩, below_row BW5.out (Nat.le_of_lt (Nat.lt_succ_of_lt HP.out)) _, fun j hj => ?_⟩
  · rw [List.map_append, List.map_append, HEU.out]; simp [F4.out.1, F4.out.2.1]
  · rw [List.map_append, List.map_append, HEX.out]; simp [F3.out.1, F3.out.2.1]
  · have := HX.out j hj
    rw [setRow_other _ _ _ _ (by omega)]
    exact (Below.heap_setCell _ _ _ _ (by simp; omega)).trans (T5.out j hj)
/-- what CopyMsg answers -/
def CopyOut (x : Mp) (w : World) (e : Ending) (w' : World) : Prop := ∃ y : Mp, e = .returned y.agg ∧ y.m = x.m ∧ y.n = x.n ∧ y.k = x.k ∧ y.Rd w' ∧ Below w.heap.size w w'
set_option maxHeartbeats 8000000 in
set_option maxRecDepth 100000 in
theorem copyMsg_any (x : Mp) (w : World) (hx : x.Rd w) (hln : x.A = none → x.n = 0 ∧ x.c = 0) (hvn : x.B = none → x.k = 0 ∧ x.d = 0) (hs : x.Sm) :
    Calls Try.prog 5 #[x.agg] w (CopyOut x w) := by
  obtain ⟨m, A, n, c, B, k, d⟩ := x
  have HSL := Lib.hid hs.lg
  have HSV := Lib.hid hs.vc
  have HLN := Lib.hid hln
  have HVN := Lib.hid hvn
  have HRL := Lib.hid hx.lg
  have HRV := Lib.hid hx.vc
  simp only at HSL HSV HLN HVN HRL HRV
  clear hs hx hln hvn
  have B2 := Lib.hid (msgBelow w (.cells #[.int .i64 m.kd, .int .i64 m.nd, .int .i64 m.vw, .int .i64 m.en.c, .int .i64 m.en.n, .int .i64 m.en.kd, .int .i64 m.en.sl, .string m.en.v, .int .i64 m.rc, .int .i64 m.rs, .string m.rv, .int .i64 m.pl, .int .i64 m.cm, .int .i64 m.la, .int .u64 (m.h : Nat), .int .u64 (m.l : Nat), .slice A n c, .slice B k d] 36) (.cells #[.int .i64 0, .int .i64 0, .int .i64 0, .int .i64 0, .int .i64 0, .int .i64 0, .int .i64 0, .string ByteArray.empty, .int .i64 0, .int .i64 0, .string ByteArray.empty, .int .i64 0, .int .i64 0, .int .i64 0, .int .u64 0, .int .u64 0, .slice none 0 0, .slice none 0 0] 36))
  have N0 := Lib.hid (msgNew0 w (.cells #[.int .i64 m.kd, .int .i64 m.nd, .int .i64 m.vw, .int .i64 m.en.c, .int .i64 m.en.n, .int .i64 m.en.kd, .int .i64 m.en.sl, .string m.en.v, .int .i64 m.rc, .int .i64 m.rs, .string m.rv, .int .i64 m.pl, .int .i64 m.cm, .int .i64 m.la, .int .u64 (m.h : Nat), .int .u64 (m.l : Nat), .slice A n c, .slice B k d] 36) (.cells #[.int .i64 0, .int .i64 0, .int .i64 0, .int .i64 0, .int .i64 0, .int .i64 0, .int .i64 0, .string ByteArray.empty, .int .i64 0, .int .i64 0, .string ByteArray.empty, .int .i64 0, .int .i64 0, .int .i64 0, .int .u64 0, .int .u64 0, .slice none 0 0, .slice none 0 0] 36))
  have N1 := Lib.hid (msgNew1 w (.cells #[.int .i64 m.kd, .int .i64 m.nd, .int .i64 m.vw, .int .i64 m.en.c, .int .i64 m.en.n, .int .i64 m.en.kd, .int .i64 m.en.sl, .string m.en.v, .int .i64 m.rc, .int .i64 m.rs, .string m.rv, .int .i64 m.pl, .int .i64 m.cm, .int .i64 m.la, .int .u64 (m.h : Nat), .int .u64 (m.l : Nat), .slice A n c, .slice B k d] 36) (.cells #[.int .i64 0, .int .i64 0, .int .i64 0, .int .i64 0, .int .i64 0, .int .i64 0, .int .i64 0, .string ByteArray.empty, .int .i64 0, .int .i64 0, .string ByteArray.empty, .int .i64 0, .int .i64 0, .int .i64 0, .int .u64 0, .int .u64 0, .slice none 0 0, .slice none 0 0] 36))
  have S2 : Hid (((w.alloc (.cells #[.int .i64 m.kd, .int .i64 m.nd, .int .i64 m.vw, .int .i64 m.en.c, .int .i64 m.en.n, .int .i64 m.en.kd, .int .i64 m.en.sl, .string m.en.v, .int .i64 m.rc, .int .i64 m.rs, .string m.rv, .int .i64 m.pl, .int .i64 m.cm, .int .i64 m.la, .int .u64 (m.h : Nat), .int .u64 (m.l : Nat), .slice A n c, .slice B k d] 36)).alloc (.cells #[.int .i64 0, .int .i64 0, .int .i64 0, .int .i64 0, .int .i64 0, .int .i64 0, .int .i64 0, .string ByteArray.empty, .int .i64 0, .int .i64 0, .string ByteArray.empty, .int .i64 0, .int .i64 0, .int .i64 0, .int .u64 0, .int .u64 0, .slice none 0 0, .slice none 0 0] 36)).heap.size = w.heap.size + 2) := by show _ = _; simp
  go_enter Try.func5, Try.ntmps5
  go_wp2_with fail
  refine (copyEntries_any A n c m.lg _ (HRL.out.below B2.out) HLN.out (by have := HSL.out; omega)).mono ?_
  rintro e w3 ⟨A3, c3, rfl, hb3, ho3⟩
  have hl3 : m.lg.length = n := HRL.out.len
  have R3 := Lib.hid (rdc_own (size := 5) (cells := Et.cells) (fun _ => rfl) ho3 hl3)
  have B3 := Lib.hid hb3
  have M0 := Lib.hid ((hb3.block w.heap.size (by rw [S2.out]; omega)).trans N0.out)
  have M1 := Lib.hid ((hb3.block (w.heap.size + 1) (by rw [S2.out]; omega)).trans N1.out)
  have X3 : Hid (∀ ad, A3 = some ad → w.heap.size + 2 ≤ ad.block) := fun ad e => by subst e; have := (ho3.lt ad.block rfl).1; rw [S2.out] at this; exact this
  clear ho3 hb3 hl3
  have O3 := Lib.hid (ob_heap M0.out)
  have q16 := O3.out.cell 16 rfl
  have q17 := O3.out.cell 17 rfl
  have f16 := O3.out.fr 16 (by simp)
  have L3 := O3.out.lt (by simp)
  have BW3 : Hid (Below w.heap.size w w3) := B2.out.trans (Below.mono B3.out (by rw [S2.out]; omega))
  have S3 : Hid (w.heap.size + 2 ≤ w3.heap.size) := by have := B3.out.size; rw [S2.out] at this; exact this
  go_wp2_with fail
  clear q16 q17 f16 L3
  have BW4 : Hid (Below w.heap.size w (w3.setCell ⟨w.heap.size, 16, none⟩ (.slice A3 n c3))) := BW3.out.setCell (Nat.le_refl _) _
  refine (copyVector_e B k d m.vc _ (HRV.out.below BW4.out) HVN.out (by have := HSV.out; omega)).mono ?_
  rintro e w4 ⟨A4, c4, rfl, hb4, ho4⟩
  have hl4 : m.vc.length = k := HRV.out.len
  have R4 := Lib.hid (rdc_own (size := 2) (cells := Dw.cells) (fun _ => rfl) ho4 hl4)
  have B4 := Lib.hid hb4
  have X4 : Hid (∀ ad, A4 = some ad → w.heap.size + 2 ≤ ad.block) := fun ad e => by subst e; have := (ho4.lt ad.block rfl).1; simp at this; have := S3.out; omega
  have E0 : Hid (w4.heap[w.heap.size]? = (w3.setCell ⟨w.heap.size, 16, none⟩ (.slice A3 n c3)).heap[w.heap.size]?) := hb4.block _ (by have := S3.out; simp; omega)
  have E1 : Hid (w4.heap[w.heap.size + 1]? = (w3.setCell ⟨w.heap.size, 16, none⟩ (.slice A3 n c3)).heap[w.heap.size + 1]?) := hb4.block _ (by have := S3.out; simp; omega)
  have R3' : Hid (RdC 5 Et.cells w4 A3 n m.lg) := (R3.out.grown (grown_setCell w3 ⟨w.heap.size, 16, none⟩ (.slice A3 n c3)) (fun ad e h => by have := X3.out ad e; simp at h; omega)).below hb4
  clear hl4 ho4 hb4
  have O4 := Lib.hid ((O3.out.set 16 (by simp) (.slice A3 n c3)).heap E0.out)
  have O5 : Hid (Ob (w4.setCell ⟨w.heap.size, 17, none⟩ (.slice A4 k c4)) w.heap.size [.int .i64 m.kd, .int .i64 m.nd, .int .i64 m.vw, .int .i64 m.en.c, .int .i64 m.en.n, .int .i64 m.en.kd, .int .i64 m.en.sl, .string m.en.v, .int .i64 m.rc, .int .i64 m.rs, .string m.rv, .int .i64 m.pl, .int .i64 m.cm, .int .i64 m.la, .int .u64 (m.h : Nat), .int .u64 (m.l : Nat), .slice A3 n c3, .slice A4 k c4]) := O4.out.set 17 (by simp) (.slice A4 k c4)
  have M5 : Hid ((w4.setCell ⟨w.heap.size, 17, none⟩ (.slice A4 k c4)).heap[w.heap.size + 1]? = some (.cells #[.int .i64 0, .int .i64 0, .int .i64 0, .int .i64 0, .int .i64 0, .int .i64 0, .int .i64 0, .string ByteArray.empty, .int .i64 0, .int .i64 0, .string ByteArray.empty, .int .i64 0, .int .i64 0, .int .i64 0, .int .u64 0, .int .u64 0, .slice none 0 0, .slice none 0 0] 36 (0, 0))) := by
    refine (Below.heap_setCell _ _ _ _ (by simp)).trans (E1.out.trans ((Below.heap_setCell _ _ _ _ (by simp)).trans M1.out))
  have BW5 : Hid (Below w.heap.size w (w4.setCell ⟨w.heap.size, 17, none⟩ (.slice A4 k c4))) := (BW4.out.trans (Below.mono B4.out (by have := BW4.out.size; omega))).setCell (Nat.le_refl _) _
  have q17 := O4.out.cell 17 rfl
  have f17 := O4.out.fr 17 (by simp)
  have L4 := O4.out.lt (by simp)
  go_wp2_with (first | (refine wpList_load_cells rfl 36 (.tmp 1) rfl ⟨w.heap.size, 0, none⟩ rfl [.int .i64 m.kd, .int .i64 m.nd, .int .i64 m.vw, .int .i64 m.en.c, .int .i64 m.en.n, .int .i64 m.en.kd, .int .i64 m.en.sl, .string m.en.v, .int .i64 m.rc, .int .i64 m.rs, .string m.rv, .int .i64 m.pl, .int .i64 m.cm, .int .i64 m.la, .int .u64 (m.h : Nat), .int .u64 (m.l : Nat), .slice A3 n c3, .slice A4 k c4] _ O5.out.adds Try.underlying36 rfl (by kernel_rfl) ?_) | (refine wpList_store_row rfl 36 (.tmp 2) (.tmp 11) rfl (w.heap.size + 1) #[.int .i64 m.kd, .int .i64 m.nd, .int .i64 m.vw, .int .i64 m.en.c, .int .i64 m.en.n, .int .i64 m.en.kd, .int .i64 m.en.sl, .string m.en.v, .int .i64 m.rc, .int .i64 m.rs, .string m.rv, .int .i64 m.pl, .int .i64 m.cm, .int .i64 m.la, .int .u64 (m.h : Nat), .int .u64 (m.l : Nat), .slice A3 n c3, .slice A4 k c4] rfl rfl _ _ M5.out (by kernel_rfl) rfl (by simp [Value.oneCell']) ?_))
  have O6 := ob_row (cs := #[.int .i64 m.kd, .int .i64 m.nd, .int .i64 m.vw, .int .i64 m.en.c, .int .i64 m.en.n, .int .i64 m.en.kd, .int .i64 m.en.sl, .string m.en.v, .int .i64 m.rc, .int .i64 m.rs, .string m.rv, .int .i64 m.pl, .int .i64 m.cm, .int .i64 m.la, .int .u64 (m.h : Nat), .int .u64 (m.l : Nat), .slice A3 n c3, .slice A4 k c4]) M5.out
  refine ret_cells1 Try.results5 (b := w.heap.size + 1) Try.underlying36 (by kernel_rfl) rfl O6 rfl ?_
  have N3 : ∀ {A : Option Addr}, (∀ ad, A = some ad → w.heap.size + 2 ≤ ad.block) → ∀ i, i < w.heap.size + 2 → ∀ ad, A = some ad → some ad.block ≠ some i := fun h i hi ad e h9 => by have := h ad e; injection h9 with h9; omega
  refine ⟨⟨m, A3, n, c3, A4, k, c4⟩, rfl, rfl, rfl, rfl, ⟨?_, ?_⟩, below_row BW5.out (by omega) _⟩
  · exact (R3'.out.grown (grown_setCell _ _ _) (N3 X3.out _ (by simp))).grown (grown_setRow _ _ _) (N3 X3.out _ (by omega))
  · exact (R4.out.grown (grown_setCell _ _ _) (N3 X4.out _ (by simp))).grown (grown_setRow _ _ _) (N3 X4.out _ (by omega))
end Go.Proofs.Ytgmmpbiideeikaa
