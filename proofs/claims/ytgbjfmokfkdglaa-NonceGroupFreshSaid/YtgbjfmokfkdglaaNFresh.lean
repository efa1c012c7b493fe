/-
  The walk of nonce.Fresh.
-/
import Derived.Test.YtgbjfmokfkdglaaNFreshP
import Derived.Maps.OwnOps
import Derived.Maps.Views
set_option linter.unusedVariables false
set_option linter.unusedSimpArgs false
namespace Go.Proofs.Ytgbjfmokfkdglaa
open Go.RowKit Go.Maps

/-- how a draw reads that a map holds -/
def RdrawL (l : List Value) : Option (DataW Unit × List MemPlace) := match l with
  | [.int .u64 a, .int .u64 b] => some (.agg [.lit (.int .u64 a), .lit (.int .u64 b)], [])
  | _ => none
def Rdraw (v : Value) : Option (DataW Unit × List MemPlace) := match v with
  | .agg cs => RdrawL cs.toList
  | _ => none
def dd (x : Nat × Nat) : DataW Unit := .agg [.lit (.int .u64 (x.1 : Nat)), .lit (.int .u64 (x.2 : Nat))]
theorem Rdraw_inv {v : Value} {x : Nat × Nat} {ps : List MemPlace} (h : Rdraw v = some (dd x, ps)) : v = .agg #[.int .u64 (x.1 : Nat), .int .u64 (x.2 : Nat)] := by
  unfold Rdraw at h
  split at h
  · rename_i cs
    unfold RdrawL at h
    split at h
    · rename_i a b hl
      simp [dd] at h
      obtain ⟨⟨h1, h2⟩, _⟩ := h
      have : cs = #[.int .u64 a, .int .u64 b] := by rw [← Array.toArray_toList (xs := cs), hl]
      rw [this, h1, h2]
    · cases h
  · cases h
theorem intKeyed : Keyed Try.prog 3 := int_keyed Try.underlying3
theorem zeroDraw (w : World) : (zeroValue 25).run Try.prog w = .ok (.agg #[.int .u64 0, .int .u64 0]) w := by kernel_rfl
theorem RdC.three {w : World} {A : Option Addr} {n : Nat} {L : List St} (h : RdC 3 sv w A n L) {k : Nat} {x : St} (hx : L[k]? = some x) :
    ∃ ad, A = some ad ∧ w.cell? (ad.add (k * 3)) = some (.int .i64 x.1) ∧ w.cell? ⟨(ad.add (k * 3)).block, (ad.add (k * 3)).off + 1, none⟩ = some (.int .u64 (x.2.1 : Nat)) ∧ w.cell? ⟨(ad.add (k * 3)).block, (ad.add (k * 3)).off + 2, none⟩ = some (.int .u64 (x.2.2 : Nat)) := by
  obtain ⟨ad, e, hc⟩ := h.cell k x hx
  refine ⟨ad, e, hc 0 _ rfl, ?_, ?_⟩
  · have := hc 1 _ rfl
    rw [← add_add] at this
    exact this
  · have := hc 2 _ rfl
    rw [← add_add] at this
    exact this
/-- the map's state behind k stamps -/
def Mp (w : World) (b n : Nat) (f : Int → Nat × Nat) : Prop := ∃ D, w.ownsMap Try.prog 3 Rdraw b n D ∧ ∀ i : Int, D.atKey (.int .i64 i) (dd (0, 0)) = dd (f i)
theorem Mp.kept {w w' : World} {b n : Nat} {f : Int → Nat × Nat} (h : Mp w b n f) {row : Option Nat} (hg : w.grownBy w' row) (hne : some b ≠ row) : Mp w' b n f := by
  obtain ⟨D, h1, h2⟩ := h
  exact ⟨D, h1.kept hg hne, h2⟩
theorem Mp.look {w : World} {b n : Nat} {f : Int → Nat × Nat} (h : Mp w b n f) (i : Int) (hw : (Lit.int .i64 i).wf = true) :
    (Instr.lookup 105 (.map (some b)) (.int .i64 i) false).run Try.prog w = .ok (.agg #[.int .u64 ((f i).1 : Nat), .int .u64 ((f i).2 : Nat)]) w := by
  obtain ⟨D, h1, h2⟩ := h
  obtain ⟨v, ps, hr, hv⟩ := h1.lookup (e := 25) intKeyed Try.underlying105 (zeroDraw w) (show Rdraw (.agg #[.int .u64 0, .int .u64 0]) = some (dd (0, 0), []) from rfl) (keyOf_int_mk Try.underlying3 hw)
  rw [h2] at hv
  rw [Rdraw_inv hv] at hr
  exact hr
set_option maxRecDepth 100000 in
set_option maxHeartbeats 1600000 in
theorem fresh_any (A : Option Addr) (n c : Nat) (L : List St) (w : World) (h : RdC 3 sv w A n L) (hok : ∀ x ∈ L, (Lit.int .i64 x.1).wf = true) (hsm : n * 24 ≤ 140737488351232) :
    Calls Try.prog 13 #[.slice A n c] w fun e w' => (∃ b k, FirstBad L b k ∧ e = .returned (.tuple #[.bool b, .int .i64 (k : Nat)])) ∧ Below w.heap.size w w' := by
  have H := Lib.hid h
  have HOK := Lib.hid hok
  have hsm1 : (n : Int) ≤ 140737488351232 := by omega
  have HSM := Lib.hid hsm
  clear h hok hsm
  have hmm := @run_makeMap Try.prog
  go_enter Try.func13, Try.ntmps13
  go_wp2
  go_loopw [10] (fun i wr => ∃ (k : Nat), k ≤ n ∧ i = .int .i64 k ∧ Hid (∃ f, Mp wr w.heap.size k f ∧ Lasts L k f ∧ Below w.heap.size w wr)) (fun i _ => n - (intOf i).toNat)
  case atStart => exact ⟨0, by omega, rfl, fun _ => (0, 0), ⟨_, World.ownsMap_made _ _ _ _, fun _ => rfl⟩, Lasts.start L, by go_grown⟩
  case round =>
    obtain ⟨k, hk, rfl, HR⟩ := hrel
    by_cases hkn : k < n
    · obtain ⟨x, hx⟩ : ∃ x, L[k]? = some x := ⟨_, List.getElem?_eq_getElem (by have := H.out.len; omega)⟩
      obtain ⟨f, hm, hl, hb⟩ := HR.out
      have HM := Lib.hid hm
      have HL := Lib.hid hl
      have HB := Lib.hid hb
      have HXX := Lib.hid hx
      obtain ⟨ad, rfl, g0, g1, g2⟩ := H.out.three hx
      have hw0 := HOK.out x (List.mem_of_getElem? hx)
      obtain ⟨x0, x1, x2⟩ := x
      have kp : ∀ a v, w.cell? a = some v → wr.cell? a = some v := fun a v ha => (hb.cell (World.block_lt_of_cell? w a ha)).trans ha
      have q0 := kp _ _ g0
      have q1 := kp _ _ g1
      have q2 := kp _ _ g2
      have e1 : IntKind.i64.wrap ((k : Int) + 1) = (k : Int) + 1 := by rw [IntKind.wrap_i64]; omega
      have E1 := Lib.hid e1
      obtain ⟨y1, hy1⟩ : ∃ y, (f x0).1 = y := ⟨_, rfl⟩
      obtain ⟨y2, hy2⟩ : ∃ y, (f x0).2 = y := ⟨_, rfl⟩
      have M1 := (HM.out.kept (World.grownBy_alloc wr (.cells #[.int .i64 x0, .int .u64 (x1 : Nat), .int .u64 (x2 : Nat)] 27) none) (by simp)).look x0 hw0
      rw [hy1, hy2] at M1
      have HY := Lib.hid (And.intro hy1 hy2)
      have HW0 := Lib.hid hw0
      simp only at q0 q1 q2
      clear hx g0 g1 g2 kp hm hl hb e1 hy1 hy2 hw0
      go_wp2_with fail
      refine (compare_any x1 x2 y1 y2 _).mono ?_
      rintro e v1 ⟨rfl, hb1⟩
      have M2 : Hid (Mp v1 w.heap.size k f) := HM.out.kept ((World.grownBy_alloc wr _ none).trans (grown_of_below hb1 none)) (by simp)
      have O2 := Lib.hid ((Ob.fresh wr #[.int .i64 x0, .int .u64 (x1 : Nat), .int .u64 (x2 : Nat)] 27).below hb1)
      have B2 : Hid (Below w.heap.size w v1) := (HB.out.alloc HB.out.size _).trans (hb1.mono (by have := HB.out.size; simp; omega))
      have WL : Hid (w.heap.size ≤ wr.heap.size) := HB.out.size
      have hbad := HL.out.bad HXX.out
      have hnext := HL.out.next HXX.out
      simp only [HY.out.1, HY.out.2] at hbad hnext
      have HBAD := Lib.hid hbad
      have HNEXT := Lib.hid hnext
      obtain ⟨dc, hdc⟩ : ∃ dc, dCmp x1 x2 y1 y2 = dc := ⟨_, rfl⟩
      rw [hdc]
      have HDC := Lib.hid hdc
      clear hb1 HM M1 hbad hnext hdc HB
      by_cases hd : dc ≤ 0
      · go_wp2
        go_ret2
        refine ⟨⟨false, k, .inr ⟨rfl, by have := H.out.len; omega, HBAD.out.1 (HDC.out ▸ hd), HL.out.good⟩, rfl⟩, B2.out⟩
      · obtain ⟨D, hown, hat⟩ := M2.out
        have HAT := Lib.hid hat
        have HOWN := Lib.hid hown
        have hkey : keyOf Try.prog 3 (.int .i64 x0) = some (.int .i64 x0) := keyOf_int_mk Try.underlying3 HW0.out
        have z0 := O2.out.cell 0 rfl
        have z1 := O2.out.cell 1 rfl
        have z2 := O2.out.cell 2 rfl
        have zl := O2.out.lt (by simp)
        have e1 := E1.out
        clear hat hown M2
        go_wp2_with (at_mapUpdate; refine wpList_mapUpdate_own _ rfl _ _ _ 105 rfl 3 25 intKeyed Try.underlying105 Rdraw w.heap.size k D rfl HOWN.out ?d1 _ _ (.int .i64 x0) rfl rfl hkey (dd (x1, x2)) [] rfl ?_)
        case d1 => have := HSM.out; simp only [maxLen]; omega
        intro w5 hown5 hgrow5
        have HO5 := Lib.hid hown5
        have HB5 : Hid (Below w.heap.size w w5) := B2.out.trans (Below.of_grown hgrow5 (Nat.le_refl _) B2.out.size)
        clear hown5 hgrow5 hkey z0 z1 z2 zl
        go_wp2
        go_roundw
        case rel =>
          refine ⟨k + 1, by omega, by go_num, _, ⟨_, HO5.out, fun i => ?_⟩, HNEXT.out (by rw [HDC.out]; exact hd), HB5.out⟩
          by_cases hi : i = x0
          · rw [hi, if_pos rfl]
            exact atKey_put_same HOWN.out.isMap (intKeyed.key (keyOf_int_mk Try.underlying3 HW0.out)) _ _
          · rw [if_neg hi]
            rw [atKey_put_other (by intro e; cases e; exact hi rfl)]
            exact HAT.out i
        case measure => simp [intOf]; omega
    · obtain rfl : k = n := by omega
      obtain ⟨f, hm, hl, hb⟩ := HR.out
      have HL := Lib.hid hl
      have HB := Lib.hid hb
      clear hm hl hb HR
      go_wp2
      go_ret2
      exact ⟨⟨true, 0, .inl ⟨rfl, rfl, fun j hj => HL.out.good j (by have := H.out.len; omega)⟩, rfl⟩, HB.out⟩
end Go.Proofs.Ytgbjfmokfkdglaa
