/-
  The walk of the document's one.
-/
import Derived.Test.YtkdikbenheagmaaDoorForm
set_option linter.unusedVariables false
set_option linter.unusedSimpArgs false
namespace Go.Proofs.YtkdikbenheagmaaDoor
open Go.RowKit

theorem Told.err {w w' : World} {e : Ending} {err : Int} (hb : Below w.heap.size w w') (h : e = .returned (.tuple #[.slice none 0 0, .int .i64 err])) : Told 5 w e w' [] err :=
  ⟨none, 0, h, hb, World.ownsRow_nil _ _ _ _⟩
theorem RowB.told {w w' : World} {A : Option Addr} {c : Nat} {L : List UInt8} (h : RowB w w' A L.length c L) : Told 5 w (.returned (.tuple #[.slice A L.length c, .int .i64 0])) w' L 0 := ⟨A, c, rfl, h.2.1, h.1⟩
theorem RowB.under {w w1 w2 : World} {A : Option Addr} {l c : Nat} {L : List UInt8} (h : RowB w1 w2 A l c L) (hb : Below w.heap.size w w1) : RowB w w2 A l c L := by
  obtain ⟨h1, h2, h3⟩ := h
  refine ⟨?_, hb.trans (h2.mono hb.size), Nat.le_trans hb.size h3⟩
  rcases h1.2 with hn | ⟨g, cap, cur, hv, hbs, rest⟩
  · exact ⟨h1.1, .inl hn⟩
  · have := hb.size
    exact ⟨h1.1, .inr ⟨g, cap, cur, hv, by omega, rest⟩⟩

/-- a text's bytes, in new memory -/
theorem bytes_of (s : ByteArray) (hs : s.size ≤ 9223372036854775807) : ∃ (cap : World → Nat) (nxt : World → World), (∀ W, (convert 9 22 (.string s)).run Tryd.prog W = .ok (.slice (some ⟨W.heap.size, 0, none⟩) s.size (cap W)) (nxt W)) ∧
    ∀ W, Below W.heap.size W (nxt W) ∧ Rd (nxt W) (some ⟨W.heap.size, 0, none⟩) s.size s.data.toList := by
  refine ⟨fun W => grownCap W s.size 0 5, _, fun W => run_bytes_of_string W 9 22 5 s Tryd.underlying9 Tryd.underlying22 Tryd.underlying5, fun W => ⟨?_, ?_⟩⟩
  · refine (Below.drewN (Below.refl _ _) 1).alloc ?_ _
    simp
  · refine ⟨by rw [Array.length_toList]; rfl, by omega, fun hn => ⟨_, rfl, fun j hj => ?_⟩⟩
    rw [add_at]
    have hjs : j < s.data.size := hj
    have h := cell_of_row _ _ j _ _ _ (heap_alloc_new W.drew (.cells (bytesRow s (grownCap W s.size 0 5)) 5 ((bytesRow s (grownCap W s.size 0 5)).size, (bytesRow s (grownCap W s.size 0 5)).size + 1)))
    refine h.trans ?_
    rw [bytesRow_at s _ j hjs]
    simp [bg, List.getD_eq_getElem?_getD]
    rw [Array.getElem?_eq_getElem hjs]
    rfl

set_option maxRecDepth 100000 in
set_option maxHeartbeats 1600000 in
theorem one_any (x : PutV) (w : World) (hx : x.Ok) (hb : x.s.size ≤ 140737488300000) :
    Calls Tryd.prog 54 #[.agg #[.int .i64 x.kind, .int .u64 x.v, .int .i64 x.n, .int .i64 x.most, .string x.s]] w fun e w' => Told 5 w e w' (wLay ([], 0) x).1 (wLay ([], 0) x).2 := by
  have HX := Lib.hid hx
  have B : Hid (Below w.heap.size w (w.alloc (.cells #[.int .i64 x.kind, .int .u64 x.v, .int .i64 x.n, .int .i64 x.most, .string x.s] 50))) := (Below.refl _ w).alloc (Nat.le_refl _) _
  clear hx
  by_cases k0 : x.kind = 0
  · have HE : Hid (wLay ([], 0) x = (Wire.form x.v.toNat, 0)) := by show _ = _; unfold wLay; rw [if_pos k0]; rfl
    have hk : (x.kind == 0) = true := beq_iff_eq.2 k0
    have hv := Int.toNat_of_nonneg HX.out.v0
    have F := form_any x.v.toNat (by have := HX.out.v1; have := HX.out.v0; omega) (w.alloc (.cells #[.int .i64 x.kind, .int .u64 x.v, .int .i64 x.n, .int .i64 x.most, .string x.s] 50))
    rw [hv] at F
    have F := Lib.hid F
    clear k0 hv
    go_enter Tryd.func54, Tryd.ntmps54
    go_wp2_with fail
    refine F.out.mono ?_
    rintro e w' ⟨A, c, rfl, h1⟩
    have h1 := Lib.hid h1
    go_wp2
    go_ret2
    rw [HE.out]
    exact (h1.out.under B.out).told
  · have hk0 : (x.kind == 0) = false := beq_eq_false_iff_ne.2 k0
    by_cases k1 : x.kind = 1
    · have hk : (x.kind == 1) = true := beq_iff_eq.2 k1
      by_cases hn : x.n < 0
      · have HE : Hid (wLay ([], 0) x = ([], 3)) := by show _ = _; unfold wLay wInt; rw [if_neg k0, if_pos k1, if_pos rfl, if_pos hn]
        clear k0 k1
        go_enter Tryd.func54, Tryd.ntmps54
        go_wp2
        go_ret2
        rw [HE.out]
        exact Told.err B.out rfl
      · have HE : Hid (wLay ([], 0) x = (Wire.form x.n.toNat, 0)) := by show _ = _; unfold wLay wInt; rw [if_neg k0, if_pos k1, if_pos rfl, if_neg hn]; rfl
        have hv := Int.toNat_of_nonneg (show 0 ≤ x.n by omega)
        have hn1 := HX.out.n1
        have F := form_any x.n.toNat (by have := HX.out.n1; omega) (w.alloc (.cells #[.int .i64 x.kind, .int .u64 x.v, .int .i64 x.n, .int .i64 x.most, .string x.s] 50))
        rw [hv] at F
        have F := Lib.hid F
        clear k0 k1 hv
        go_enter Tryd.func54, Tryd.ntmps54
        go_wp2_with fail
        refine F.out.mono ?_
        rintro e w' ⟨A, c, rfl, h1⟩
        have h1 := Lib.hid h1
        go_wp2
        go_ret2
        rw [HE.out]
        exact (h1.out.under B.out).told
    · have hk1 : (x.kind == 1) = false := beq_eq_false_iff_ne.2 k1
      by_cases k2 : x.kind = 2
      · have hk : (x.kind == 2) = true := beq_iff_eq.2 k2
        by_cases hn : x.n < 0
        · have HE : Hid (wLay ([], 0) x = ([], 3)) := by show _ = _; unfold wLay wCount; rw [if_neg k0, if_neg k1, if_pos k2, if_pos rfl, if_pos (.inl hn)]
          clear k0 k1 k2
          go_enter Tryd.func54, Tryd.ntmps54
          go_wp2
          go_ret2
          rw [HE.out]
          exact Told.err B.out rfl
        · by_cases hm : x.most < 0
          · have HE : Hid (wLay ([], 0) x = ([], 3)) := by show _ = _; unfold wLay wCount; rw [if_neg k0, if_neg k1, if_pos k2, if_pos rfl, if_pos (.inr hm)]
            clear k0 k1 k2
            go_enter Tryd.func54, Tryd.ntmps54
            go_wp2
            go_ret2
            rw [HE.out]
            exact Told.err B.out rfl
          · by_cases hl : x.most < x.n
            · have HE : Hid (wLay ([], 0) x = ([], 11)) := by show _ = _; unfold wLay wCount; rw [if_neg k0, if_neg k1, if_pos k2, if_pos rfl, if_neg (by omega), if_pos hl]
              clear k0 k1 k2
              go_enter Tryd.func54, Tryd.ntmps54
              go_wp2
              go_ret2
              rw [HE.out]
              exact Told.err B.out rfl
            · have HE : Hid (wLay ([], 0) x = (Wire.form x.n.toNat, 0)) := by show _ = _; unfold wLay wCount; rw [if_neg k0, if_neg k1, if_pos k2, if_pos rfl, if_neg (by omega), if_neg hl]; rfl
              have hv := Int.toNat_of_nonneg (show 0 ≤ x.n by omega)
              have hn1 := HX.out.n1
              have F := form_any x.n.toNat (by have := HX.out.n1; omega) (w.alloc (.cells #[.int .i64 x.kind, .int .u64 x.v, .int .i64 x.n, .int .i64 x.most, .string x.s] 50))
              rw [hv] at F
              have F := Lib.hid F
              clear k0 k1 k2 hv
              go_enter Tryd.func54, Tryd.ntmps54
              go_wp2_with fail
              refine F.out.mono ?_
              rintro e w' ⟨A, c, rfl, h1⟩
              have h1 := Lib.hid h1
              go_wp2
              go_ret2
              rw [HE.out]
              exact (h1.out.under B.out).told
      · have hk2 : (x.kind == 2) = false := beq_eq_false_iff_ne.2 k2
        have hdl : x.s.data.toList.length = x.s.size := by rw [Array.length_toList]; rfl
        by_cases hm : x.most < 0
        · have HE : Hid (wLay ([], 0) x = ([], 3)) := by
            show _ = _
            have hc : wCount ([], 0) (x.s.data.toList.length : Int) x.most = ([], 3) := by unfold wCount; rw [if_pos rfl, if_pos (.inr hm)]
            unfold wLay wText; rw [if_neg k0, if_neg k1, if_neg k2, hc]; rfl
          clear k0 k1 k2 hdl
          go_enter Tryd.func54, Tryd.ntmps54
          go_wp2
          go_ret2
          rw [HE.out]
          exact Told.err B.out rfl
        · by_cases hl : x.most < (x.s.size : Int)
          · have HE : Hid (wLay ([], 0) x = ([], 11)) := by
              show _ = _
              have hc : wCount ([], 0) (x.s.data.toList.length : Int) x.most = ([], 11) := by rw [hdl]; unfold wCount; rw [if_pos rfl, if_neg (by omega), if_pos hl]
              unfold wLay wText; rw [if_neg k0, if_neg k1, if_neg k2, hc]; rfl
            clear k0 k1 k2 hdl
            go_enter Tryd.func54, Tryd.ntmps54
            go_wp2
            go_ret2
            rw [HE.out]
            exact Told.err B.out rfl
          · have HE : Hid (wLay ([], 0) x = (Wire.form x.s.size ++ x.s.data.toList, 0)) := by
              show _ = _
              have hc : wCount ([], 0) (x.s.data.toList.length : Int) x.most = (Wire.form x.s.size, 0) := by rw [hdl]; unfold wCount; rw [if_pos rfl, if_neg (by omega), if_neg hl]; rfl
              unfold wLay wText; rw [if_neg k0, if_neg k1, if_neg k2, hc]; rfl
            have FC : Hid (∀ W', Below w.heap.size w W' → W'.cell? ⟨w.heap.size, 4, none⟩ = some (.string x.s) → w.heap.size < W'.heap.size → Calls Tryd.prog 75 #[.int .u64 (x.s.size : Int)] W' fun e w5 => ∃ (A5 : Option Addr) (c5 : Nat), e = .returned (.slice A5 (Wire.form x.s.size).length c5) ∧ w5.cell? ⟨w.heap.size, 4, none⟩ = some (.string x.s) ∧ w.heap.size < w5.heap.size ∧
                Hid (RowB w w5 A5 (Wire.form x.s.size).length c5 (Wire.form x.s.size) ∧ Below W'.heap.size W' w5)) := by
              intro W' hB hc hz
              refine (form_any x.s.size (by omega) _).mono ?_
              rintro e w5 ⟨A5, c5, rfl, h5⟩
              refine ⟨A5, c5, rfl, ?_, ?_, h5.under hB, h5.2.1⟩
              · exact (h5.2.1.cell hz).trans hc
              · have := h5.2.2; omega
            obtain ⟨cap, nxt, hconv, hfacts⟩ := bytes_of x.s (by omega)
            have HF := Lib.hid hfacts
            have hn4 : (nxt ((w.alloc (.cells #[.int .i64 x.kind, .int .u64 x.v, .int .i64 x.n, .int .i64 x.most, .string x.s] 50)).drew)).cell? ⟨w.heap.size, 4, none⟩ = some (.string x.s) := ((hfacts _).1.cell (by simp)).trans (by simp)
            have F1 := Lib.hid (FC.out ((w.alloc (.cells #[.int .i64 x.kind, .int .u64 x.v, .int .i64 x.n, .int .i64 x.most, .string x.s] 50)).drew) (Below.drewN B.out 1) (by simp) (by simp))
            have F2 := Lib.hid (FC.out (nxt ((w.alloc (.cells #[.int .i64 x.kind, .int .u64 x.v, .int .i64 x.n, .int .i64 x.most, .string x.s] 50)).drew)) ((Below.drewN B.out 1).trans ((hfacts _).1.mono (by simp))) hn4 (by have := (hfacts ((w.alloc (.cells #[.int .i64 x.kind, .int .u64 x.v, .int .i64 x.n, .int .i64 x.most, .string x.s] 50)).drew)).1.size; simp at this; omega))
            have RD2 : Hid (Rd (nxt ((w.alloc (.cells #[.int .i64 x.kind, .int .u64 x.v, .int .i64 x.n, .int .i64 x.most, .string x.s] 50)).drew)) (some ⟨w.heap.size + 1, 0, none⟩) x.s.size x.s.data.toList) := by
              have hsz1 : ((w.alloc (.cells #[.int .i64 x.kind, .int .u64 x.v, .int .i64 x.n, .int .i64 x.most, .string x.s] 50)).drew).heap.size = w.heap.size + 1 := by simp
              have := (hfacts ((w.alloc (.cells #[.int .i64 x.kind, .int .u64 x.v, .int .i64 x.n, .int .i64 x.most, .string x.s] 50)).drew)).2
              rw [hsz1] at this
              exact this
            have hsz : (x.s.size : Int) < 18446744073709551616 := by omega
            have hw64 : IntKind.u64.wrap (x.s.size : Int) = (x.s.size : Int) := by rw [IntKind.wrap_u64]; omega
            have hfl := Wire.form_length x.s.size
            have hfl8 := Wire.nby_le8 (v := x.s.size) (by omega)
            have b1 : (Wire.form x.s.size).length + x.s.size ≤ maxLen := by simp only [maxLen]; omega
            have b2 : ((Wire.form x.s.size).length + x.s.size) * 1 ≤ 140737488355328 := by omega
            have hbl : Hid ((Bv x.s.data.toList).length = x.s.size * 1) := by show _ = _; rw [Bv_length, hdl]; omega
            have hdl' := hdl
            clear k0 k1 k2 hdl hfacts hfl hfl8
            go_enter Tryd.func54, Tryd.ntmps54
            go_wp2
            go_region_law (first | (refine step_app rfl (.tmp 52) (.tmp 55) rfl eltByte w.heap.size _ _ _ rfl O.out.1 _ _ _ (Bv x.s.data.toList) rfl hbl.out (fun h => by cases h) N.out (Bv_one _) b1 b2 O.out.2.2 ?_; intro A7 c7 w7 hown7 hgrow7 _; have R7 := Lib.hid (RowB.step O.out (World.grownBy.refl _ _) hown7 hgrow7); clear hown7 hgrow7) | (go_simp; go_at_call 75; go_must (first | (with_reducible refine (F1.out).mono ?_; rintro e w5 ⟨A5, c5, rfl, hc5, hp5, S5⟩; have O := Lib.hid (S5.out.1.kept (HF.out w5).1); have N := Lib.hid (HF.out w5).2.news) | (with_reducible refine (F2.out).mono ?_; rintro e w5 ⟨A5, c5, rfl, hc5, hp5, S5⟩; have O := Lib.hid S5.out.1; have N := Lib.hid (RD2.out.below S5.out.2).news))))
            all_goals
              go_wp2
              go_ret2
              rw [HE.out]
              refine ⟨A7, c7, by rw [List.length_append, hdl']; rfl, R7.out.2.1, ?_⟩
              rw [List.length_append, hdl']
              exact R7.out.1
end Go.Proofs.YtkdikbenheagmaaDoor
