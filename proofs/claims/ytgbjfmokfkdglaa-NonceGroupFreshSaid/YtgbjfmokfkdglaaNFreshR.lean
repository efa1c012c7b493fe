/-
  The walk of the document's Fresh.
-/
import Derived.Test.YtgbjfmokfkdglaaNFresh
set_option linter.unusedVariables false
set_option linter.unusedSimpArgs false
namespace Go.Proofs.Ytgbjfmokfkdglaa
open Go.RowKit

theorem kept_one {w w' : World} (hb : Below w.heap.size w w') {a : Addr} {x : Value} (h : w.cell? a = some x) : w'.cell? a = some x := (hb.cell (World.block_lt_of_cell? w _ h)).trans h
set_option maxRecDepth 100000 in
set_option maxHeartbeats 3200000 in
theorem refFresh_any (A : Option Addr) (n c : Nat) (L : List St) (w : World) (h : RdC 3 sv w A n L) :
    Calls Try.prog 14 #[.slice A n c] w fun e w' => (∃ b k, FirstBad L b k ∧ e = .returned (.tuple #[.bool b, .int .i64 (k : Nat)])) ∧ Below w.heap.size w w' := by
  have H := Lib.hid h
  have hn : (n : Int) ≤ 9223372036854775807 := by have := h.le; omega
  clear h
  go_enter Try.func14, Try.ntmps14
  go_wp2_with fail
  go_loopw [4] (fun i wr => ∃ (k : Nat), k ≤ n ∧ i = .int .i64 k ∧ Hid ((∀ j, j < k → ¬ Bad L j) ∧ Below w.heap.size w wr)) (fun i _ => n - (intOf i).toNat)
  case atStart => exact ⟨0, by omega, rfl, fun j h => by omega, Below.refl _ _⟩
  case round =>
    obtain ⟨k, hk, rfl, HR⟩ := hrel
    by_cases hkn : k < n
    · obtain ⟨x, hx⟩ : ∃ x, L[k]? = some x := ⟨_, List.getElem?_eq_getElem (by have := H.out.len; omega)⟩
      have HXX := Lib.hid hx
      obtain ⟨ad, rfl, g0, g1, g2⟩ := H.out.three hx
      obtain ⟨x0, x1, x2⟩ := x
      have kp : ∀ a v, w.cell? a = some v → wr.cell? a = some v := fun a v ha => kept_one (by exact ⟨HR.out.2.os, HR.out.2.tape, HR.out.2.output, HR.out.2.size, HR.out.2.block⟩) ha
      have q0 := kp _ _ g0
      have q1 := kp _ _ g1
      have q2 : wr.cell? ⟨(ad.add (k * 3)).block, (ad.add (k * 3)).off + 1 + 1, none⟩ = some (.int .u64 (x2 : Nat)) := kp _ _ g2
      have e1 : IntKind.i64.wrap ((k : Int) + 1) = (k : Int) + 1 := by rw [IntKind.wrap_i64]; omega
      have E1 := Lib.hid e1
      simp only at q0 q1 q2
      clear hx g0 g1 g2 kp e1
      go_wp2_with fail
      refine (refCompare_any x1 x2 0 0 _).mono ?_
      rintro e v1 ⟨rfl, hb1⟩
      have B2 : Hid (Below w.heap.size w v1) := HR.out.2.trans (hb1.mono HR.out.2.size)
      obtain ⟨dc, hdc⟩ : ∃ dc, dCmp x1 x2 0 0 = dc := ⟨_, rfl⟩
      rw [hdc]
      have HDC := Lib.hid hdc
      have G := Lib.hid HR.out.1
      clear hb1 hdc HR q0 q1 q2
      by_cases hd : dc ≤ 0
      · go_wp2
        go_ret2
        refine ⟨⟨false, k, .inr ⟨rfl, by have := H.out.len; omega, ⟨_, HXX.out, .inl (HDC.out ▸ hd)⟩, G.out⟩, rfl⟩, B2.out⟩
      · have HD := Lib.hid hd
        go_wp2_with fail
        go_loopw [5] (fun j wy => ∃ (m : Nat), m ≤ k ∧ j = .int .i64 m ∧ Hid ((∀ i y, i < m → L[i]? = some y → y.1 = x0 → dCmp y.2.1 y.2.2 x1 x2 < 0) ∧ Below w.heap.size w wy)) (fun j _ => k - (intOf j).toNat)
        case atStart => exact ⟨0, by omega, rfl, fun i y h => by omega, B2.out⟩
        case round =>
          obtain ⟨m, hm, rfl, HY⟩ := hrel
          clear B2
          by_cases hmk : m < k
          · obtain ⟨y, hy⟩ : ∃ y, L[m]? = some y := ⟨_, List.getElem?_eq_getElem (by have := H.out.len; omega)⟩
            have HYY := Lib.hid hy
            obtain ⟨ad', hae, p0, p1, p2⟩ := H.out.three hy
            obtain rfl : ad = ad' := by cases hae; rfl
            obtain ⟨ad', hae', g0, g1, g2⟩ := H.out.three HXX.out
            obtain rfl : ad = ad' := by cases hae'; rfl
            obtain ⟨y0, y1, y2⟩ := y
            have kp : ∀ a v, w.cell? a = some v → wr.cell? a = some v := fun a v ha => kept_one (by exact ⟨HY.out.2.os, HY.out.2.tape, HY.out.2.output, HY.out.2.size, HY.out.2.block⟩) ha
            have q0 := kp _ _ g0
            have q1 := kp _ _ g1
            have q2 : wr.cell? ⟨(ad.add (k * 3)).block, (ad.add (k * 3)).off + 1 + 1, none⟩ = some (.int .u64 (x2 : Nat)) := kp _ _ g2
            have r0 := kp _ _ p0
            have r1 := kp _ _ p1
            have r2 : wr.cell? ⟨(ad.add (m * 3)).block, (ad.add (m * 3)).off + 1 + 1, none⟩ = some (.int .u64 (y2 : Nat)) := kp _ _ p2
            have e1 : IntKind.i64.wrap ((m : Int) + 1) = (m : Int) + 1 := by rw [IntKind.wrap_i64]; omega
            have EM := Lib.hid e1
            have hmn : (m : Int) < (n : Int) := by omega
            have hkn' : (k : Int) < (n : Int) := by omega
            have hmk' : (m : Int) < (k : Int) := by omega
            simp only at q0 q1 q2 r0 r1 r2
            clear hy p0 p1 p2 g0 g1 g2 kp e1 hae hae'
            by_cases hnode : y0 = x0
            · subst hnode
              obtain ⟨de, hde⟩ : ∃ de, dCmp y1 y2 x1 x2 = de := ⟨_, rfl⟩
              have HDE := Lib.hid hde
              have F : Hid (∀ z, ((z.cell? (ad.add (k * 3)) = some (.int .i64 y0) ∧ z.cell? ⟨(ad.add (k * 3)).block, (ad.add (k * 3)).off + 1, none⟩ = some (.int .u64 (x1 : Nat)) ∧ z.cell? ⟨(ad.add (k * 3)).block, (ad.add (k * 3)).off + 1 + 1, none⟩ = some (.int .u64 (x2 : Nat))) ∧ (z.cell? (ad.add (m * 3)) = some (.int .i64 y0) ∧ z.cell? ⟨(ad.add (m * 3)).block, (ad.add (m * 3)).off + 1, none⟩ = some (.int .u64 (y1 : Nat)) ∧ z.cell? ⟨(ad.add (m * 3)).block, (ad.add (m * 3)).off + 1 + 1, none⟩ = some (.int .u64 (y2 : Nat))) ∧ Below w.heap.size w z) → Calls Try.prog 28 #[.agg #[.int .u64 (y1 : Nat), .int .u64 (y2 : Nat)], .agg #[.int .u64 (x1 : Nat), .int .u64 (x2 : Nat)]] z fun e z' => e = .returned (.int .i64 de) ∧ ((z'.cell? (ad.add (k * 3)) = some (.int .i64 y0) ∧ z'.cell? ⟨(ad.add (k * 3)).block, (ad.add (k * 3)).off + 1, none⟩ = some (.int .u64 (x1 : Nat)) ∧ z'.cell? ⟨(ad.add (k * 3)).block, (ad.add (k * 3)).off + 1 + 1, none⟩ = some (.int .u64 (x2 : Nat))) ∧ (z'.cell? (ad.add (m * 3)) = some (.int .i64 y0) ∧ z'.cell? ⟨(ad.add (m * 3)).block, (ad.add (m * 3)).off + 1, none⟩ = some (.int .u64 (y1 : Nat)) ∧ z'.cell? ⟨(ad.add (m * 3)).block, (ad.add (m * 3)).off + 1 + 1, none⟩ = some (.int .u64 (y2 : Nat))) ∧ Below w.heap.size w z')) := fun z hz => by
                refine (refCompare_any y1 y2 x1 x2 z).mono ?_
                rintro e z' ⟨rfl, hb⟩
                exact ⟨by rw [hde], ⟨kept_one hb hz.1.1, kept_one hb hz.1.2.1, kept_one hb hz.1.2.2⟩, ⟨kept_one hb hz.2.1.1, kept_one hb hz.2.1.2.1, kept_one hb hz.2.1.2.2⟩, hz.2.2.trans (hb.mono hz.2.2.size)⟩
              have z3 := HY.out.2
              clear hde
              by_cases hge : 0 ≤ de
              · go_wp2_with fail
                go_region_held3 (fun x' => ((x'.cell? (ad.add (k * 3)) = some (.int .i64 y0) ∧ x'.cell? ⟨(ad.add (k * 3)).block, (ad.add (k * 3)).off + 1, none⟩ = some (.int .u64 (x1 : Nat)) ∧ x'.cell? ⟨(ad.add (k * 3)).block, (ad.add (k * 3)).off + 1 + 1, none⟩ = some (.int .u64 (x2 : Nat))) ∧ (x'.cell? (ad.add (m * 3)) = some (.int .i64 y0) ∧ x'.cell? ⟨(ad.add (m * 3)).block, (ad.add (m * 3)).off + 1, none⟩ = some (.int .u64 (y1 : Nat)) ∧ x'.cell? ⟨(ad.add (m * 3)).block, (ad.add (m * 3)).off + 1 + 1, none⟩ = some (.int .u64 (y2 : Nat))) ∧ Below w.heap.size w x')) (first | exact ⟨⟨q0, q1, q2⟩, ⟨r0, r1, r2⟩, Below.drew z3⟩ | assumption | go_keep)
                  (first | (go_at_call 28; refine (F.out _ (by first | assumption | (simp [*]))).mono ?_; rintro e x' ⟨rfl, hx'⟩))
                have HX5 := Lib.hid hx'.2.2
                clear hx' q0 q1 q2 r0 r1 r2 z3 F
                go_wp2
                go_ret2
                refine ⟨⟨false, k, .inr ⟨rfl, by have := H.out.len; omega, ⟨_, HXX.out, .inr ⟨m, _, hmk, HYY.out, rfl, ?_⟩⟩, G.out⟩, rfl⟩, HX5.out⟩
                have := HDE.out
                simp only
                omega
              · go_wp2_with fail
                go_region_held3 (fun x' => ((x'.cell? (ad.add (k * 3)) = some (.int .i64 y0) ∧ x'.cell? ⟨(ad.add (k * 3)).block, (ad.add (k * 3)).off + 1, none⟩ = some (.int .u64 (x1 : Nat)) ∧ x'.cell? ⟨(ad.add (k * 3)).block, (ad.add (k * 3)).off + 1 + 1, none⟩ = some (.int .u64 (x2 : Nat))) ∧ (x'.cell? (ad.add (m * 3)) = some (.int .i64 y0) ∧ x'.cell? ⟨(ad.add (m * 3)).block, (ad.add (m * 3)).off + 1, none⟩ = some (.int .u64 (y1 : Nat)) ∧ x'.cell? ⟨(ad.add (m * 3)).block, (ad.add (m * 3)).off + 1 + 1, none⟩ = some (.int .u64 (y2 : Nat))) ∧ Below w.heap.size w x')) (first | exact ⟨⟨q0, q1, q2⟩, ⟨r0, r1, r2⟩, Below.drew z3⟩ | assumption | go_keep)
                  (first | (go_at_call 28; refine (F.out _ (by first | assumption | (simp [*]))).mono ?_; rintro e x' ⟨rfl, hx'⟩))
                have HX5 := Lib.hid hx'.2.2
                clear hx' q0 q1 q2 r0 r1 r2 z3 F
                have e1 := EM.out
                go_wp2
                go_roundw
                case rel =>
                  refine ⟨m + 1, by omega, by go_num, fun i y hi hl hn => ?_, HX5.out⟩
                  by_cases him : i < m
                  · exact HY.out.1 i y him hl hn
                  · obtain rfl : i = m := by omega
                    rw [HYY.out] at hl
                    cases hl
                    have := HDE.out
                    simp only
                    omega
                case measure => simp [intOf]; omega
            · have hb0 : (y0 == x0) = false := beq_eq_false_iff_ne.2 hnode
              have HNODE := Lib.hid hnode
              clear hnode
              go_wp2_with fail
              go_quiet (fail)
              have e1 := EM.out
              go_wp2
              go_roundw
              case rel =>
                refine ⟨m + 1, by omega, by go_num, fun i y hi hl hn => ?_, Below.drewN HY.out.2 _⟩
                by_cases him : i < m
                · exact HY.out.1 i y him hl hn
                · obtain rfl : i = m := by omega
                  rw [HYY.out] at hl
                  cases hl
                  exact absurd hn HNODE.out
              case measure => simp [intOf]; omega
          · obtain rfl : m = k := by omega
            have e1 := E1.out
            go_wp2
            go_roundw
            case rel =>
              refine ⟨m + 1, by omega, by go_num, fun j hj => ?_, HY.out.2⟩
              by_cases hjm : j < m
              · exact G.out j hjm
              · obtain rfl : j = m := by omega
                rintro ⟨x, hx, hb⟩
                rw [HXX.out] at hx
                cases hx
                rcases hb with hb | ⟨i, y, hi, hl, hn, hb⟩
                · have h6 : dc ≤ 0 := HDC.out ▸ hb
                  have := HD.out
                  omega
                · have := HY.out.1 i y hi hl hn
                  simp only at hb
                  omega
            case measure => simp [intOf]; omega
    · obtain rfl : k = n := by omega
      go_wp2
      go_ret2
      exact ⟨⟨true, 0, .inl ⟨rfl, rfl, fun j hj => HR.out.1 j (by have := H.out.len; omega)⟩, rfl⟩, HR.out.2⟩
end Go.Proofs.Ytgbjfmokfkdglaa
