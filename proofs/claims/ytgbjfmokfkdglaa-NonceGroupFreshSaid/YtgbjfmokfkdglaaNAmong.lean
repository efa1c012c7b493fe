/-
  Lists of draws in memory; the walks of 'among', 'sameDraws' and Wipe.
-/
import Derived.Test.YtgbjfmokfkdglaaNWorks
import Derived.Test.YtgbjfmokfkdglaaNOpen
set_option linter.unusedVariables false
set_option linter.unusedSimpArgs false
namespace Go.Proofs.Ytgbjfmokfkdglaa
open Go.RowKit

theorem wipe_any (p c : Nat) (x y : Value) (w : World) (h : Ob w p [.pointer (some ⟨c, 0, none⟩), x, y]) :
    Calls Try.prog 19 #[.pointer (some ⟨p, 0, none⟩)] w fun e w' => e = .returned (.tuple #[]) ∧ w.grownBy w' (some p) ∧ w'.heap.size = w.heap.size ∧ Ob w' p [.pointer (some ⟨c, 0, none⟩), .int .u64 (0 : Nat), .int .u64 (0 : Nat)] := by
  have c1 := h.cell 1 rfl
  have c2 := h.cell 2 rfl
  have f1 := h.fr 1 (by simp)
  have f2 := h.fr 2 (by simp)
  have H := Lib.hid h
  clear h
  go_enter Try.func19, Try.ntmps19
  go_wp2
  go_end0
  refine ⟨rfl, ?_, by simp, ?_⟩
  · repeat (first | (with_reducible exact World.grownBy.refl _ _) | (with_reducible refine gb_set ?_ _ _ (.inl rfl)))
  · have h3 := (H.out.set 1 (by simp) (.int .u64 0)).set 2 (by simp) (.int .u64 0)
    exact h3

/-! ### lists of draws -/
def dv (x : Nat × Nat) : List Value := [.int .u64 x.1, .int .u64 x.2]
def DV (L : List (Nat × Nat)) : List Value := L.flatMap dv
theorem DV_len (L : List (Nat × Nat)) : (DV L).length = L.length * 2 := by
  induction L with
  | nil => rfl
  | cons x L ih => simp only [DV, List.flatMap_cons, List.length_append, List.length_cons] at ih ⊢; rw [ih]; simp [dv]; omega
theorem DV_get (L : List (Nat × Nat)) : ∀ (j : Nat) (x : Nat × Nat), L[j]? = some x → ∀ i u, (dv x)[i]? = some u → (DV L)[j * 2 + i]? = some u := by
  induction L with
  | nil => intro j x h; simp at h
  | cons y L ih =>
    intro j x h i u hu
    have hi : i < 2 := by have := (List.getElem?_eq_some_iff.1 hu).1; simpa [dv] using this
    cases j with
    | zero =>
      simp at h
      subst h
      simp only [DV, List.flatMap_cons]
      rw [List.getElem?_append_left (by simp [dv]; omega)]
      simpa using hu
    | succ j =>
      simp at h
      simp only [DV, List.flatMap_cons]
      rw [List.getElem?_append_right (by simp [dv]; omega)]
      have h2 : (j + 1) * 2 + i - (dv y).length = j * 2 + i := by simp [dv]; omega
      rw [h2]
      exact ih j x h i u hu
theorem DV_append (L M : List (Nat × Nat)) : DV (L ++ M) = DV L ++ DV M := by simp [DV]
theorem DV_one (L : List (Nat × Nat)) : ∀ u ∈ DV L, u.oneCell' = true := by
  intro u hu
  obtain ⟨x, _, hx⟩ := List.mem_flatMap.1 hu
  simp [dv] at hx
  rcases hx with rfl | rfl <;> rfl
theorem rdc_own {w : World} {base n : Nat} {e : TypeId} {A : Option Addr} {c : Nat} {L : List (Nat × Nat)} (h : w.ownsRow base e 2 (.slice A n c) n (DV L)) (hl : L.length = n) : RdC 2 dv w A n L := by
  rcases h.2 with ⟨hv, h0⟩ | ⟨g, cap, cur, hv, hb, hh, h1, h2, _⟩
  · subst h0
    exact ⟨hl, by omega, fun j x hj => by have := (List.getElem?_eq_some_iff.1 hj).1; omega⟩
  · cases hv
    refine ⟨hl, by simp only [maxLen] at h2; omega, fun j x hj => ⟨_, rfl, fun i u hu => h.cells (g := g) rfl _ _ (DV_get L j x hj i u hu)⟩⟩
theorem eltDraw : Elt Try.prog 39 25 (.agg #[.int .u64 0, .int .u64 0]) 2 16 := ⟨Try.underlying39, by kernel_rfl, rfl, by decide⟩

/-- the cells of an owned list of draws -/
theorem own_draw {w : World} {base n : Nat} {e : TypeId} {A : Option Addr} {c : Nat} {L : List (Nat × Nat)} (h : w.ownsRow base e 2 (.slice A n c) n (DV L)) (hl : L.length = n) {k : Nat} {x : Nat × Nat} (hx : L[k]? = some x) :
    ∃ g, A = some ⟨g, 0, none⟩ ∧ base ≤ g ∧ g < w.heap.size ∧ w.cell? ⟨g, k * 2, none⟩ = some (.int .u64 x.1) ∧ w.cell? ⟨g, k * 2 + 1, none⟩ = some (.int .u64 x.2) := by
  have hk := (List.getElem?_eq_some_iff.1 hx).1
  obtain ⟨ad, e1, hc⟩ := (rdc_own h hl).cell k x hx
  obtain ⟨g, cap, hv, h1, h2⟩ := h.form (by omega)
  cases hv
  cases e1
  refine ⟨g, rfl, h1, h2, ?_, ?_⟩
  · have := hc 0 _ rfl; rwa [add_at] at this
  · have := hc 1 _ rfl; rwa [add_at] at this
set_option maxHeartbeats 800000 in
/-- a draw that stands in an owned list is found -/
theorem among_any (base : Nat) (e : TypeId) (A : Option Addr) (n c : Nat) (L : List (Nat × Nat)) (d1 d2 : Nat) (w : World) (h : w.ownsRow base e 2 (.slice A n c) n (DV L)) (hl : L.length = n) (hd : (d1, d2) ∈ L) :
    Calls Try.prog 22 #[.slice A n c, .agg #[.int .u64 d1, .int .u64 d2]] w fun e w' => e = .returned (.bool true) ∧ Below w.heap.size w w' := by
  have H := Lib.hid h
  have HL := Lib.hid hl
  have HD := Lib.hid hd
  obtain ⟨k0, hk0⟩ := List.getElem?_of_mem hd
  obtain ⟨g, rfl, _, _, _, _⟩ := own_draw h hl hk0
  have HN := Lib.hid (rdc_own h hl).le
  have HK := Lib.hid hk0
  clear h hd hl hk0
  go_enter Try.func22, Try.ntmps22
  go_wp2
  go_loopw [5] (fun i wr => ∃ (k : Nat), k ≤ n ∧ i = .int .i64 k ∧ Hid ((∀ j, j < k → L[j]? ≠ some (d1, d2)) ∧ Below w.heap.size w wr ∧ Ob wr w.heap.size [.int .u64 d1, .int .u64 d2])) (fun i _ => n - (intOf i).toNat)
  case atStart => exact ⟨0, by omega, rfl, (fun j hj => by omega), by go_grown, Ob.fresh w _ _⟩
  case round =>
    obtain ⟨k, hk, rfl, HR⟩ := hrel
    have hn : (n : Int) ≤ 9223372036854775807 := by have := HN.out; omega
    by_cases hkn : k < n
    · obtain ⟨x, hx⟩ : ∃ x, L[k]? = some x := ⟨_, List.getElem?_eq_getElem (by have := HL.out; omega)⟩
      obtain ⟨g', e', _, hlt, hc0, hc1⟩ := own_draw H.out HL.out hx
      obtain rfl : g = g' := by cases e'; rfl
      obtain ⟨x1, x2⟩ := x
      have g0 : wr.cell? ⟨g, k * 2, none⟩ = some (.int .u64 x1) := (HR.out.2.1.cell (p := ⟨g, k * 2, none⟩) hlt).trans hc0
      have g1 : wr.cell? ⟨g, k * 2 + 1, none⟩ = some (.int .u64 x2) := (HR.out.2.1.cell (p := ⟨g, k * 2 + 1, none⟩) hlt).trans hc1
      have y0 := HR.out.2.2.cell 0 rfl
      have y1 := HR.out.2.2.cell 1 rfl
      have e1 : IntKind.i64.wrap ((k : Int) + 1) = (k : Int) + 1 := by rw [IntKind.wrap_i64]; omega
      have HX := Lib.hid hx
      have E1 := Lib.hid e1
      clear hx e' hc0 hc1 hlt e1
      by_cases h1 : x1 = d1
      · subst h1
        by_cases h2 : x2 = d2
        · subst h2
          go_wp2
          go_quiet (fail)
          go_wp2
          go_ret
          exact ⟨rfl, Below.drewN HR.out.2.1 _⟩
        · have hb : ((x2 : Int) == d2) = false := beq_eq_false_iff_ne.2 (by omega)
          have H2 := Lib.hid h2
          clear h2
          go_wp2
          go_quiet (fail)
          go_wp2
          go_roundw
          case rel =>
            refine ⟨k + 1, by omega, by go_num, fun j hj => ?_, Below.drewN HR.out.2.1 _, HR.out.2.2.drewN _⟩
            rcases Nat.lt_or_ge j k with h3 | h3
            · exact HR.out.1 j h3
            · obtain rfl : j = k := by omega
              rw [HX.out]
              intro e
              cases e
              exact H2.out rfl
          case measure => simp [intOf]; omega
      · have hb : ((x1 : Int) == d1) = false := beq_eq_false_iff_ne.2 (by omega)
        have H1 := Lib.hid h1
        clear h1
        go_wp2
        go_quiet (fail)
        go_wp2
        go_roundw
        case rel =>
          refine ⟨k + 1, by omega, by go_num, fun j hj => ?_, Below.drewN HR.out.2.1 _, HR.out.2.2.drewN _⟩
          rcases Nat.lt_or_ge j k with h3 | h3
          · exact HR.out.1 j h3
          · obtain rfl : j = k := by omega
            rw [HX.out]
            intro e
            cases e
            exact H1.out rfl
        case measure => simp [intOf]; omega
    · exfalso
      obtain rfl : k = n := by omega
      have h1 := (List.getElem?_eq_some_iff.1 HK.out).1
      exact HR.out.1 k0 (by have := HL.out; omega) HK.out
end Go.Proofs.Ytgbjfmokfkdglaa
