/-
  The walks of nonce's Stream and Take.
-/
import Derived.Test.YtgbjfmokfkdglaaNSame
set_option linter.unusedVariables false
set_option linter.unusedSimpArgs false
namespace Go.Proofs.Ytgbjfmokfkdglaa
open Go.RowKit

/-- a Stream at block s: the draws that are left, in a row of its own at block g -/
structure Ss (w : World) (s g : Nat) (A : Option Addr) (c : Nat) (R : List (Nat × Nat)) : Prop where
  ob : Ob w s [.slice A R.length c]
  rd : RdC 2 dv w A R.length R
  cap : R.length ≤ c
  at_ : ∀ ad, A = some ad → ad.spot = none ∧ ad.block = g
  ne : ∀ ad, A = some ad → g ≠ s ∧ g < w.heap.size
theorem Ss.kept {w w' : World} {s g : Nat} {A : Option Addr} {c : Nat} {R : List (Nat × Nat)} (h : Ss w s g A c R) {row : Option Nat} (hg : w.grownBy w' row) (h1 : some s ≠ row) (h2 : ∀ ad, A = some ad → some g ≠ row) : Ss w' s g A c R :=
  ⟨h.ob.kept hg h1, h.rd.grown hg (fun ad e => by rw [(h.at_ ad e).2]; exact h2 ad e), h.cap, h.at_, fun ad e => ⟨(h.ne ad e).1, Nat.lt_of_lt_of_le (h.ne ad e).2 hg.size⟩⟩
theorem Ss.below {w w' : World} {s g : Nat} {A : Option Addr} {c : Nat} {R : List (Nat × Nat)} (h : Ss w s g A c R) (hb : Below w.heap.size w w') : Ss w' s g A c R := h.kept (grown_of_below hb none) (by simp) (fun _ _ => by simp)
theorem rdc_news {w : World} {A : Option Addr} {n : Nat} {L : List (Nat × Nat)} (h : RdC 2 dv w A n L) : ∀ ad, A = some ad → ∀ (j : Nat) (u : Value), (DV L)[j]? = some u → w.cell? (ad.add j) = some u := by
  rintro ad rfl j u hu
  have hj : j < L.length * 2 := by
    have := (List.getElem?_eq_some_iff.1 hu).1
    rwa [DV_len] at this
  obtain ⟨x, hx⟩ : ∃ x, L[j / 2]? = some x := ⟨_, List.getElem?_eq_getElem (by omega)⟩
  obtain ⟨ad', e, hc⟩ := h.cell _ x hx
  cases e
  have h2 : (dv x)[j % 2]? = some u := by
    obtain ⟨v, hv⟩ : ∃ v, (dv x)[j % 2]? = some v := ⟨_, List.getElem?_eq_getElem (by simp [dv]; omega)⟩
    have := DV_get L _ x hx _ v hv
    rw [show j / 2 * 2 + j % 2 = j by omega, hu] at this
    rw [hv, this]
  have := hc _ u h2
  rwa [show j / 2 * 2 + j % 2 = j by omega] at this
set_option maxHeartbeats 400000 in
theorem newStream_any (A : Option Addr) (n c : Nat) (L : List (Nat × Nat)) (w : World) (h : RdC 2 dv w A n L) (hA : A = none → n = 0 ∧ c = 0) (hsm : n * 16 ≤ 140737488351232) :
    Calls Try.prog 30 #[.slice A n c] w fun e w' => ∃ s g A' c', e = .returned (.pointer (some ⟨s, 0, none⟩)) ∧ Below w.heap.size w w' ∧ w.heap.size ≤ s ∧ w.heap.size ≤ g ∧ Ss w' s g A' c' L := by
  have H := Lib.hid h
  have HA := Lib.hid hA
  have HSM := Lib.hid hsm
  clear h hA hsm
  go_enter Try.func30, Try.ntmps30
  go_wp2_with (at_builtin; refine wpList_app rfl (.const (.slice none 0 0)) (.tmp 3) rfl eltDraw w.heap.size (.slice none 0 0) 0 [] rfl (World.ownsRow_nil _ _ _ _) A n c (DV L) rfl (by rw [DV_len, H.out.len]) HA.out (rdc_news H.out) (DV_one L) ?d3 ?d4 ?d5 ?_)
  case d3 => have := HSM.out; simp only [maxLen]; omega
  case d4 => have := HSM.out; omega
  case d5 => omega
  intro A' c' w1 ho hg hblk
  have hb1 : Below w.heap.size w w1 := grown_below_drop hg (Nat.le_refl _)
  have hrd := rdc_own (L := L) (by simpa using ho) H.out.len
  obtain ⟨A'', c'', hv, hcap, hnone, hsome⟩ := own_shape ho
  cases hv
  have HO := Lib.hid ho
  have HB1 := Lib.hid hb1
  have HR := Lib.hid hrd
  have HC := Lib.hid (And.intro hcap hsome)
  clear ho hg hblk hb1 hrd hcap hnone hsome
  go_wp2
  go_ret
  have hl := H.out.len
  refine ⟨w1.heap.size, (match A' with | some ad => ad.block | none => w1.heap.size + 1), A', c', rfl, HB1.out.alloc HB1.out.size _, HB1.out.size, ?_, ?_⟩
  · cases A' with
    | none => have := HB1.out.size; simp only; omega
    | some ad => exact (HC.out.2 ad rfl).2.2.1
  · refine ⟨by rw [hl]; exact Ob.fresh w1 _ _, by rw [hl]; exact HR.out.below (by go_grown), by rw [hl]; exact HC.out.1, ?_, ?_⟩
    · intro ad e
      subst e
      exact ⟨(HC.out.2 ad rfl).2.1, rfl⟩
    · intro ad e
      subst e
      have := (HC.out.2 ad rfl).2.2.2
      simp only [World.size_alloc]
      omega
theorem streamLeft_any (s g : Nat) (A : Option Addr) (c : Nat) (R : List (Nat × Nat)) (w : World) (h : Ss w s g A c R) :
    Calls Try.prog 35 #[.pointer (some ⟨s, 0, none⟩)] w fun e w' => e = .returned (.int .i64 (R.length : Nat)) ∧ w = w' := by
  have c0 := h.ob.cell 0 rfl
  clear h
  go_enter Try.func35, Try.ntmps35
  go_wp2
  go_ret
  exact ⟨rfl, rfl⟩
theorem streamDraw_nil' (s g : Nat) (A : Option Addr) (c : Nat) (w : World) (h : Ss w s g A c []) :
    Calls Try.prog 47 #[.pointer (some ⟨s, 0, none⟩)] w fun e w' => e = .returned (.tuple #[.agg #[.int .u64 0, .int .u64 0], .int .i64 20]) ∧ Below w.heap.size w w' := by
  have c0 : w.cell? ⟨s, 0, none⟩ = some (.slice A 0 c) := h.ob.cell 0 rfl
  have ls := h.ob.lt (by simp)
  clear h
  go_enter Try.func47, Try.ntmps47
  go_wp2
  go_returns
  exact ⟨rfl, by go_grown⟩
set_option maxRecDepth 100000 in
set_option maxHeartbeats 400000 in
theorem streamDraw_cons (s g : Nat) (A : Option Addr) (c : Nat) (x : Nat × Nat) (R : List (Nat × Nat)) (w : World) (h : Ss w s g A c (x :: R)) :
    Calls Try.prog 47 #[.pointer (some ⟨s, 0, none⟩)] w fun e w' => e = .returned (.tuple #[.agg #[.int .u64 (x.1 : Nat), .int .u64 (x.2 : Nat)], .int .i64 0]) ∧ w.grownBy w' (some s) ∧ ∃ A' c', Ss w' s g A' c' R := by
  obtain ⟨x1, x2⟩ := x
  have HS := Lib.hid h
  have ls := h.ob.lt (by simp)
  have c0 : w.cell? ⟨s, 0, none⟩ = some (.slice A (R.length + 1) c) := h.ob.cell 0 rfl
  have f0 := h.ob.fr 0 (by simp)
  obtain ⟨ad, e, hc⟩ := h.rd.cell 0 (x1, x2) rfl
  obtain ⟨h1, h2⟩ := h.at_ ad e
  obtain ⟨b, o, sp⟩ := ad
  simp only at h1 h2
  subst h1 h2 e
  have d0 : w.cell? ⟨b, o, none⟩ = some (.int .u64 (x1 : Nat)) := hc 0 _ rfl
  have d1 : w.cell? ⟨b, o + 1, none⟩ = some (.int .u64 (x2 : Nat)) := hc 1 _ rfl
  have lb : b < w.heap.size := World.block_lt_of_cell? w _ d0
  have hcap := h.cap
  obtain ⟨A', hA'⟩ : ∃ A', cutA (some ⟨b, o, none⟩) c 1 = A' := ⟨_, rfl⟩
  have hcut : ∀ W : World, (Instr.slice 39 (.slice (some ⟨b, o, none⟩) (R.length + 1) c) (some (.int .i64 1)) none none).run Try.prog W = .ok (.slice A' R.length (c - 1)) W := fun W => by
    have := run_cut2 (some ⟨b, o, none⟩) (R.length + 1) c 1 (by omega) W
    rw [hA'] at this
    exact this
  have HA' := Lib.hid hA'
  have hn0 : (((R.length : Int) + 1) == 0) = false := beq_eq_false_iff_ne.2 (by omega)
  have hp0 : (0 : Int) < (R.length : Int) + 1 := by omega
  clear h hc hcap hA'
  simp only
  go_enter Try.func47, Try.ntmps47
  go_wp2
  go_returns
  have hl := HS.out.cap
  have hrd := cutA_rd HS.out.rd hl (m := 1) (by simp)
  rw [HA'.out] at hrd
  have hrd' : RdC 2 dv w A' R.length R := by simpa using hrd
  have hat := cutA_at (c := c) (m := 1) HS.out.at_
  rw [HA'.out] at hat
  have hg : w.grownBy (((w.setCell ⟨s, 0, none⟩ (.slice A' R.length (c - 1))).alloc (.cells #[.int .u64 x1, .int .u64 x2] 25)).alloc (.cells #[.int .u64 x1, .int .u64 x2] 25)) (some s) :=
    gb_alloc (gb_alloc (gb_set (World.grownBy.refl _ _) _ _ (.inl rfl)) _) _
  have hne := HS.out.ne _ rfl
  refine ⟨rfl, hg, A', c - 1, ?_, ?_, ?_, hat, fun _ _ => ⟨hne.1, Nat.lt_of_lt_of_le hne.2 hg.size⟩⟩
  · exact ((HS.out.ob.set 0 (by simp) (.slice A' R.length (c - 1))).alloc _).alloc _
  · exact hrd'.grown hg (fun ad e => by rw [(hat ad e).2]; simpa using hne.1)
  · simp at hl; omega

/-! ### Take -/
theorem news2 (w : World) (x y : Value) (t : TypeId) : ∀ ad, some (⟨w.heap.size, 0, none⟩ : Addr) = some ad → ∀ (j : Nat) (u : Value), [x, y][j]? = some u → (w.alloc (.cells #[x, y] t)).cell? (ad.add j) = some u := by
  intro ad e
  cases e
  exact World.news_of_block (cs := #[x, y]) (t := t) (fr := (0, 0)) (heap_alloc_new w _)
set_option maxRecDepth 100000 in
theorem take_bad (n : Int) (t : TypeId) (v : Value) (w : World) (hn : n < 0 ∨ 65535 < n) :
    Calls Try.prog 33 #[.iface t v, .int .i64 n] w fun e w' => e = .returned (.tuple #[.slice none 0 0, .int .i64 3]) ∧ w = w' := by
  rcases hn with h | h
  · go_enter Try.func33, Try.ntmps33
    go_wp2
    go_ret2
    exact ⟨rfl, rfl⟩
  · have h2 : ¬ n < 0 := by omega
    go_enter Try.func33, Try.ntmps33
    go_wp2
    go_ret2
    exact ⟨rfl, rfl⟩
def TakeOut (s g n : Nat) (R : List (Nat × Nat)) (w : World) (e : Ending) (w' : World) : Prop :=
  ∃ (G : Option Addr) (m cg : Nat) (A' : Option Addr) (c' : Nat) (er : Nat), m = (R.take n).length ∧ er = (if R.length < n then 20 else 0) ∧ e = .returned (.tuple #[.slice G m cg, .int .i64 er]) ∧ w.grownBy w' (some s) ∧ Ss w' s g A' c' (R.drop n) ∧ w'.ownsRow w.heap.size 25 2 (.slice G m cg) m (DV (R.take n)) ∧ (∀ ad, A' = some ad → g < w.heap.size)
set_option maxRecDepth 100000 in
set_option maxHeartbeats 1600000 in
theorem take_any (s g : Nat) (A : Option Addr) (c n : Nat) (R : List (Nat × Nat)) (w : World) (h : Ss w s g A c R) (hn : n ≤ 65535) :
    Calls Try.prog 33 #[.iface 64 (.pointer (some ⟨s, 0, none⟩)), .int .i64 n] w fun e w' => TakeOut s g n R w e w' := by
  have HS := Lib.hid h
  have HN := Lib.hid hn
  have hn0 : ¬ (n : Int) < 0 := by omega
  have hn1 : ¬ (65535 : Int) < n := by omega
  clear h hn
  go_enter Try.func33, Try.ntmps33
  go_wp2_with fail
  go_loopw [6, 20] (fun lv iv wr => ∃ (k : Nat) (G : Option Addr) (cg : Nat) (A' : Option Addr) (c' : Nat), k ≤ n ∧ k ≤ R.length ∧ lv = .slice G k cg ∧ iv = .int .i64 k ∧
    Hid (w.grownBy wr (some s) ∧ Ss wr s g A' c' (R.drop k) ∧ wr.ownsRow w.heap.size 25 2 (.slice G k cg) k (DV (R.take k)) ∧ (∀ ad, A' = some ad → g < w.heap.size))) (fun _ i _ => n - (intOf i).toNat)
  case atStart => exact ⟨0, none, 0, A, c, by omega, by omega, rfl, rfl, World.grownBy.refl _ _, HS.out, World.ownsRow_nil _ _ _ _, fun ad e => (HS.out.ne ad e).2⟩
  case round =>
    obtain ⟨k, G, cg, A', c', hk, hkR, rfl, rfl, HR⟩ := hrel
    have HLS : Hid (s < w.heap.size) := HS.out.ob.lt (by simp)
    by_cases hkn : k < n
    · cases hd : R.drop k with
      | nil =>
        have hkl : R.length = k := by
          have := congrArg List.length hd
          simp at this
          omega
        have hS : Ss wr s g A' c' [] := hd ▸ HR.out.2.1
        have HSS := Lib.hid hS
        have HKL : Hid (R.length ≤ k ∧ k ≤ R.length) := ⟨Nat.le_of_eq hkl, hkR⟩
        have HD := Lib.hid hd
        clear hS hkl hd
        go_wp2_with fail
        refine (streamDraw_nil' s g A' c' wr HSS.out).mono ?_
        rintro e v1 ⟨rfl, hb⟩
        have HB := Lib.hid hb
        clear hb
        go_wp2
        go_ret2
        have h1 : R.take n = R := List.take_of_length_le (by have := HKL.out; omega)
        have h2 : R.drop n = [] := List.drop_eq_nil_of_le (by have := HKL.out; omega)
        have h3 : R.length = k := by have := HKL.out; omega
        have h4 : R.take k = R := List.take_of_length_le (by omega)
        have hg2 : wr.grownBy (v1.alloc (.cells #[.int .u64 0, .int .u64 0] 25)) none := gb_alloc (grown_of_below HB.out none) _
        refine ⟨G, k, cg, A', c', 20, by rw [h1, h3], by rw [if_pos (by omega)], rfl, HR.out.1.trans (hg2.but _), ?_, ?_⟩
        · rw [h2]; exact HSS.out.kept hg2 (by simp) (fun _ _ => by simp)
        · refine ⟨?_, HR.out.2.2.2⟩
          rw [h1]
          have := HR.out.2.2.1
          rw [h4] at this
          exact this.kept hg2 (by cases (Value.slice G k cg).ownBlock <;> simp)
      | cons x R' =>
        have hS : Ss wr s g A' c' (x :: R') := hd ▸ HR.out.2.1
        have HSS := Lib.hid hS
        have HD := Lib.hid hd
        have hkl : k < R.length := by
          have := congrArg List.length hd
          simp at this
          omega
        have HKL := Lib.hid hkl
        have e1 : IntKind.i64.wrap ((k : Int) + 1) = (k : Int) + 1 := by have := HN.out; rw [IntKind.wrap_i64]; omega
        have E1 := Lib.hid e1
        clear hS hd hkl e1
        obtain ⟨x1, x2⟩ := x
        have HGL : Hid (g < w.heap.size) := by
          obtain ⟨ad, ea, _⟩ := HSS.out.rd.cell 0 (x1, x2) rfl
          exact HR.out.2.2.2 ad ea
        go_wp2_with fail
        refine (streamDraw_cons s g A' c' (x1, x2) R' wr HSS.out).mono ?_
        rintro e v1 ⟨rfl, g1, A1, c1, S1⟩
        have G1 := Lib.hid g1
        have O1 : Hid (v1.ownsRow w.heap.size 25 2 (.slice G k cg) k (DV (R.take k))) := HR.out.2.2.1.kept g1 (.inr (fun e => by have := (HR.out.2.2.1.lt _ e).1; have := HLS.out; omega))
        have HS1 := Lib.hid S1
        have Z1 : Hid (w.heap.size ≤ v1.heap.size) := Nat.le_trans HR.out.1.size g1.size
        clear g1 S1
        go_wp2_with (at_builtin; refine wpList_app rfl (.tmp 31) (.tmp 33) rfl eltDraw w.heap.size (.slice G k cg) k (DV (R.take k)) rfl ((O1.out.alloc _).alloc _) (some ⟨v1.heap.size + 1, 0, none⟩) 1 1 [.int .u64 (x1 : Nat), .int .u64 (x2 : Nat)] rfl rfl (fun h => by cases h) ?d2 (DV_one [(x1, x2)]) ?d3 ?d4 ?d5 ?_)
        case d2 =>
          have := news2 (v1.alloc (.cells #[.int .u64 (x1 : Nat), .int .u64 (x2 : Nat)] 25)) (.int .u64 (x1 : Nat)) (.int .u64 (x2 : Nat)) 25
          rw [World.size_alloc] at this
          exact this
        case d3 => have := HN.out; simp only [maxLen]; omega
        case d4 => have := HN.out; omega
        case d5 => have := Z1.out; simp; omega
        intro G' cg' v9 ho9 hg9 _
        have g9 : v1.grownBy v9 (Value.slice G k cg).ownBlock := ((World.grownBy_alloc v1 _ _).trans (World.grownBy_alloc _ _ _)).trans hg9
        have hgt : w.grownBy v1 (some s) := HR.out.1.trans G1.out
        have hgw : w.grownBy v9 (some s) := hgt.andThen g9 (fun j e => .inl ((HR.out.2.2.1.lt j e).1))
        have hS9 : Ss v9 s g A1 c1 R' := HS1.out.kept g9 (fun e => by have := (HR.out.2.2.1.lt _ e.symm).1; have := HLS.out; omega) (fun ad ea e => by
          have h1 := (HR.out.2.2.1.lt _ e.symm).1
          have := HGL.out
          omega)
        have hd9 : R.drop (k + 1) = R' := by rw [← List.drop_drop, HD.out]; rfl
        have ht9 : R.take (k + 1) = R.take k ++ [(x1, x2)] := by
          rw [List.take_add_one]
          have : R[k]? = some (x1, x2) := by
            have := congrArg List.head? HD.out
            rwa [List.head?_drop] at this
          rw [this]; rfl
        have HS9 := Lib.hid hS9
        have HO9 := Lib.hid ho9
        have HG9 := Lib.hid hgw
        have HT9 := Lib.hid (And.intro hd9 ht9)
        clear hS9 ho9 hg9 g9 hgt hgw hd9 ht9
        have e1 := E1.out
        go_wp2
        go_roundw
        case rel =>
          refine ⟨k + 1, G', cg', A1, c1, by omega, HKL.out, rfl, by go_num, HG9.out, ?_, ?_⟩
          · rw [HT9.out.1]; exact HS9.out
          · refine ⟨?_, fun _ _ => HGL.out⟩
            rw [HT9.out.2, DV_append]; exact HO9.out
        case measure => simp [intOf]; omega
    · obtain rfl : k = n := by omega
      go_wp2
      go_ret2
      exact ⟨G, k, cg, A', c', 0, by rw [List.length_take]; omega, by rw [if_neg (by omega)], rfl, HR.out.1, HR.out.2.1, HR.out.2.2.1, HR.out.2.2.2⟩
end Go.Proofs.Ytgbjfmokfkdglaa
