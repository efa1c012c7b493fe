/-
  Lists of draws compared; cutting a list of draws.
-/
import Derived.Test.YtgbjfmokfkdglaaNAmong
set_option linter.unusedVariables false
set_option linter.unusedSimpArgs false
namespace Go.Proofs.Ytgbjfmokfkdglaa
open Go.RowKit

theorem RdC.grown {α : Type} {size : Nat} {cells : α → List Value} {w w1 : World} {A : Option Addr} {n : Nat} {l : List α} {row : Option Nat} (h : RdC size cells w A n l) (hg : w.grownBy w1 row) (hne : ∀ ad, A = some ad → some ad.block ≠ row) : RdC size cells w1 A n l :=
  ⟨h.len, h.le, fun j x hj => by
    obtain ⟨ad, e, hc⟩ := h.cell j x hj
    exact ⟨ad, e, fun i u hu => hg.cell (hc i u hu) (by rw [add_block]; exact hne ad e)⟩⟩
theorem RdC.drewN {α : Type} {size : Nat} {cells : α → List Value} {w : World} {A : Option Addr} {n : Nat} {l : List α} (h : RdC size cells w A n l) (k : Nat) : RdC size cells (w.drewN k) A n l :=
  ⟨h.len, h.le, fun j x hj => h.cell j x hj⟩
/-- the two cells of a place, in the walk's form -/
theorem RdC.two {w : World} {A : Option Addr} {n : Nat} {L : List (Nat × Nat)} (h : RdC 2 dv w A n L) {k : Nat} {x : Nat × Nat} (hx : L[k]? = some x) :
    ∃ ad, A = some ad ∧ w.cell? (ad.add (k * 2)) = some (.int .u64 x.1) ∧ w.cell? ⟨(ad.add (k * 2)).block, (ad.add (k * 2)).off + 1, none⟩ = some (.int .u64 x.2) := by
  obtain ⟨ad, e, hc⟩ := h.cell k x hx
  refine ⟨ad, e, hc 0 _ rfl, ?_⟩
  have := hc 1 _ rfl
  rw [← add_add] at this
  exact this
set_option maxHeartbeats 800000 in
theorem sameDraws_any (A B : Option Addr) (n c d : Nat) (L : List (Nat × Nat)) (w : World) (ha : RdC 2 dv w A n L) (hb : RdC 2 dv w B n L) :
    Calls Try.prog 34 #[.slice A n c, .slice B n d] w fun e w' => e = .returned (.bool true) ∧ ∃ m, w' = w.drewN m := by
  have HA := Lib.hid ha
  have HB := Lib.hid hb
  have hn : (n : Int) ≤ 9223372036854775807 := by have := ha.le; omega
  clear ha hb
  go_enter Try.func34, Try.ntmps34
  go_wp2
  go_loopw [5] (fun i wr => ∃ (k m : Nat), k ≤ n ∧ i = .int .i64 k ∧ Hid (wr = w.drewN m)) (fun i _ => n - (intOf i).toNat)
  case atStart => exact ⟨0, 0, by omega, rfl, rfl⟩
  case round =>
    obtain ⟨k, m, hk, rfl, HR⟩ := hrel
    by_cases hkn : k < n
    · obtain ⟨x, hx⟩ : ∃ x, L[k]? = some x := ⟨_, List.getElem?_eq_getElem (by have := HA.out.len; omega)⟩
      obtain ⟨ad, rfl, g0, g1⟩ := HA.out.two hx
      obtain ⟨bd, rfl, g2, g3⟩ := HB.out.two hx
      obtain ⟨x1, x2⟩ := x
      have q0 : wr.cell? (ad.add (k * 2)) = some (.int .u64 x1) := HR.out ▸ g0
      have q1 : wr.cell? ⟨(ad.add (k * 2)).block, (ad.add (k * 2)).off + 1, none⟩ = some (.int .u64 x2) := HR.out ▸ g1
      have q2 : wr.cell? (bd.add (k * 2)) = some (.int .u64 x1) := HR.out ▸ g2
      have q3 : wr.cell? ⟨(bd.add (k * 2)).block, (bd.add (k * 2)).off + 1, none⟩ = some (.int .u64 x2) := HR.out ▸ g3
      have e1 : IntKind.i64.wrap ((k : Int) + 1) = (k : Int) + 1 := by rw [IntKind.wrap_i64]; omega
      have E1 := Lib.hid e1
      clear hx g0 g1 g2 g3 e1
      go_wp2
      go_quiet (fail)
      go_wp2
      go_roundw
      case rel => exact ⟨k + 1, m + nq, by omega, by go_num, by rw [HR.out, World.drewN_drewN]; exact rfl⟩
      case measure => simp [intOf]; omega
    · obtain rfl : k = n := by omega
      go_wp2
      go_ret
      exact ⟨rfl, m, HR.out⟩
theorem RdC.drop {w : World} {ad : Addr} {n : Nat} {L : List (Nat × Nat)} (h : RdC 2 dv w (some ad) n L) (k : Nat) : RdC 2 dv w (some (ad.add (k * 2))) (n - k) (L.drop k) := by
  have := h.le
  refine ⟨by rw [List.length_drop, h.len], by omega, fun j x hj => ⟨_, rfl, fun i u hu => ?_⟩⟩
  rw [List.getElem?_drop] at hj
  obtain ⟨ad', e, hc⟩ := h.cell _ _ hj
  cases e
  rw [add_add, show k * 2 + (j * 2 + i) = (k + j) * 2 + i by omega]
  exact hc i u hu
theorem RdC.take {w : World} {A : Option Addr} {n : Nat} {L : List (Nat × Nat)} (h : RdC 2 dv w A n L) (k : Nat) (hk : k ≤ n) : RdC 2 dv w A k (L.take k) := by
  have := h.le
  refine ⟨by rw [List.length_take, h.len]; omega, by omega, fun j x hj => ?_⟩
  have hjk : j < k := by
    have := (List.getElem?_eq_some_iff.1 hj).1
    rw [List.length_take] at this
    omega
  rw [List.getElem?_take, if_pos hjk] at hj
  exact h.cell j x hj
/-- a list of draws cut from a place on -/
def cutA (A : Option Addr) (c m : Nat) : Option Addr := if c = m then A else A.map (·.add (m * 2))
theorem run_cut2 (A : Option Addr) (n c m : Nat) (hm : m ≤ n) (W : World) : (Instr.slice 39 (.slice A n c) (some (.int .i64 (m : Int))) none none).run Try.prog W = .ok (.slice (cutA A c m) (n - m) (c - m)) W := by
  obtain ⟨i0, hi, hz0, hz1, hz2⟩ := info_parts (show (Try.prog.info? 25).map (fun i => (i.zero, i.size, i.bytes)) = some (some (.agg #[.int .u64 0, .int .u64 0]), 2, 16) by kernel_rfl)
  have hel : Try.prog.elem 39 = 25 := by simp [Program.elem, Try.underlying39]
  have hu : Try.prog.underlying 39 = some (.slice (Try.prog.elem 39)) := by rw [hel]; exact Try.underlying39
  rw [run_slice_l W 39 A n c hu .i64 (m : Int) (Int.natCast_nonneg _) (by omega), hel]
  simp [sizeOf, typeInfo, hi, hz1, sliced, Result.andThen, cutA]
theorem cutA_rd {w : World} {A : Option Addr} {n c m : Nat} {L : List (Nat × Nat)} (h : RdC 2 dv w A n L) (hc : n ≤ c) (hm : m ≤ n) : RdC 2 dv w (cutA A c m) (n - m) (L.drop m) := by
  have hle := h.le
  unfold cutA
  by_cases h0 : c = m
  · rw [if_pos h0]
    refine ⟨by rw [List.length_drop, h.len], by omega, fun j x hj => ?_⟩
    have := (List.getElem?_eq_some_iff.1 hj).1
    rw [List.length_drop, h.len] at this
    omega
  · rw [if_neg h0]
    rcases A with _ | ad
    · refine ⟨by rw [List.length_drop, h.len], by omega, fun j x hj => ?_⟩
      rw [List.getElem?_drop] at hj
      obtain ⟨_, e, _⟩ := h.cell _ _ hj
      cases e
    · exact h.drop m
theorem cutA_at {A : Option Addr} {c m g : Nat} (h : ∀ ad, A = some ad → ad.spot = none ∧ ad.block = g) : ∀ ad, cutA A c m = some ad → ad.spot = none ∧ ad.block = g := by
  intro ad e
  unfold cutA at e
  by_cases h0 : c = m
  · rw [if_pos h0] at e; exact h ad e
  · rw [if_neg h0] at e
    rcases A with _ | a
    · cases e
    · cases e
      obtain ⟨h1, h2⟩ := h a rfl
      refine ⟨?_, by rw [add_block]; exact h2⟩
      unfold Addr.add
      split
      · exact h1
      · rfl
end Go.Proofs.Ytgbjfmokfkdglaa
