/-
  The walk of NonceFreshes.
-/
import Derived.Test.YtgbjfmokfkdglaaNFreshR
import Derived.Test.YtgbjfmokfkdglaaNNilF
import Derived.Test.YtgbjfmokfkdglaaNOpen
set_option linter.unusedVariables false
set_option linter.unusedSimpArgs false
namespace Go.Proofs.Ytgbjfmokfkdglaa
open Go.RowKit

def SVx (L : List St) : List Value := L.flatMap sv
theorem SVx_len (L : List St) : (SVx L).length = L.length * 3 := by
  induction L with
  | nil => rfl
  | cons x L ih => simp only [SVx, List.flatMap_cons, List.length_append, List.length_cons] at ih ⊢; rw [ih]; simp [sv]; omega
theorem SVx_get (L : List St) : ∀ (j : Nat) (x : St), L[j]? = some x → ∀ i u, (sv x)[i]? = some u → (SVx L)[j * 3 + i]? = some u := by
  induction L with
  | nil => intro j x h; simp at h
  | cons y L ih =>
    intro j x h i u hu
    have hi : i < 3 := by have := (List.getElem?_eq_some_iff.1 hu).1; simpa [sv] using this
    cases j with
    | zero =>
      simp at h
      subst h
      simp only [SVx, List.flatMap_cons]
      rw [List.getElem?_append_left (by simp [sv]; omega)]
      simpa using hu
    | succ j =>
      simp at h
      simp only [SVx, List.flatMap_cons]
      rw [List.getElem?_append_right (by simp [sv]; omega)]
      have h2 : (j + 1) * 3 + i - (sv y).length = j * 3 + i := by simp [sv]; omega
      rw [h2]
      exact ih j x h i u hu
theorem SVx_append (L M : List St) : SVx (L ++ M) = SVx L ++ SVx M := by simp [SVx]
theorem SVx_one (L : List St) : ∀ u ∈ SVx L, u.oneCell' = true := by
  intro u hu
  obtain ⟨x, _, hx⟩ := List.mem_flatMap.1 hu
  simp [sv] at hx
  rcases hx with rfl | rfl | rfl <;> rfl
theorem rds_own {w : World} {base n : Nat} {e : TypeId} {A : Option Addr} {c : Nat} {L : List St} (h : w.ownsRow base e 3 (.slice A n c) n (SVx L)) (hl : L.length = n) : RdC 3 sv w A n L := by
  rcases h.2 with ⟨hv, h0⟩ | ⟨g, cap, cur, hv, hb, hh, h1, h2, _⟩
  · subst h0
    exact ⟨hl, by omega, fun j x hj => by have := (List.getElem?_eq_some_iff.1 hj).1; omega⟩
  · cases hv
    refine ⟨hl, by simp only [maxLen] at h2; omega, fun j x hj => ⟨_, rfl, fun i u hu => h.cells (g := g) rfl _ _ (SVx_get L j x hj i u hu)⟩⟩
theorem rds_news {w : World} {A : Option Addr} {n : Nat} {L : List St} (h : RdC 3 sv w A n L) : ∀ ad, A = some ad → ∀ (j : Nat) (u : Value), (SVx L)[j]? = some u → w.cell? (ad.add j) = some u := by
  rintro ad rfl j u hu
  have hj : j < L.length * 3 := by
    have := (List.getElem?_eq_some_iff.1 hu).1
    rwa [SVx_len] at this
  obtain ⟨x, hx⟩ : ∃ x, L[j / 3]? = some x := ⟨_, List.getElem?_eq_getElem (by omega)⟩
  obtain ⟨ad', e, hc⟩ := h.cell _ x hx
  cases e
  have h2 : (sv x)[j % 3]? = some u := by
    obtain ⟨v, hv⟩ : ∃ v, (sv x)[j % 3]? = some v := ⟨_, List.getElem?_eq_getElem (by simp [sv]; omega)⟩
    have := SVx_get L _ x hx _ v hv
    rw [show j / 3 * 3 + j % 3 = j by omega, hu] at this
    rw [hv, this]
  have := hc _ u h2
  rwa [show j / 3 * 3 + j % 3 = j by omega] at this
theorem rds_take {w : World} {A : Option Addr} {n : Nat} {L : List St} (h : RdC 3 sv w A n L) (k : Nat) (hk : k ≤ n) : RdC 3 sv w A k (L.take k) := by
  have := h.le
  refine ⟨by rw [List.length_take, h.len]; omega, by omega, fun j x hj => ?_⟩
  have hjk : j < k := by
    have := (List.getElem?_eq_some_iff.1 hj).1
    rw [List.length_take] at this
    omega
  rw [List.getElem?_take, if_pos hjk] at hj
  exact h.cell j x hj
theorem news_six (w : World) (C : Array Value) (t : TypeId) : ∀ ad, some (⟨w.heap.size, 0, none⟩ : Addr) = some ad → ∀ (j : Nat) (u : Value), C.toList[j]? = some u → (w.alloc (.cells C t)).cell? (ad.add j) = some u := by
  intro ad e
  cases e
  exact World.news_of_block (cs := C) (t := t) (fr := (0, 0)) (heap_alloc_new w _)
def SOk (x : St) : Prop := (Lit.int .i64 x.1).wf = true
set_option maxRecDepth 100000 in
set_option maxHeartbeats 3200000 in
theorem nonceFreshes_walk (A : Option Addr) (n c : Nat) (L : List St) (W : World) (h : RdC 3 sv W A n L) (hA : A = none → n = 0 ∧ c = 0) (hok : ∀ x ∈ L, SOk x) (hsm : n * 24 ≤ 140737488351232) :
    Calls Try.prog 3 #[.slice A n c] W fun e w' => e = .returned (.bool true) ∧ Below W.heap.size W w' := by
  have H := Lib.hid h
  have HA := Lib.hid hA
  have HSM := Lib.hid hsm
  have HOK := Lib.hid hok
  clear h hA hok hsm
  go_enter Try.func3, Try.ntmps3
  go_wp2_with (at_builtin; refine wpList_app rfl (.tmp 9) (.tmp 10) rfl eltStamp W.heap.size (.slice none 0 0) 0 [] rfl (World.ownsRow_nil _ _ _ _) A n c (SVx L) rfl (by rw [SVx_len, H.out.len]) HA.out (rds_news H.out) (SVx_one L) ?d3 ?d4 ?d5 ?_)
  case d3 => have := HSM.out; simp only [maxLen]; omega
  case d4 => have := HSM.out; omega
  case d5 => omega
  intro A1 c1 w1 ho1 hg1 _
  have B1 : Hid (Below W.heap.size W w1) := grown_below_drop hg1 (Nat.le_refl _)
  have O1 : Hid (w1.ownsRow W.heap.size 27 3 (.slice A1 n c1) n (SVx L)) := Lib.hid (by simpa using ho1)
  clear ho1 hg1
  go_wp2_with (at_builtin; refine wpList_app rfl (.tmp 12) (.tmp 15) rfl eltStamp W.heap.size (.slice A1 n c1) n (SVx L) rfl (O1.out.alloc _) (some ⟨w1.heap.size, 0, none⟩) 2 2 [.int .i64 77, .int .u64 0, .int .u64 0, .int .i64 78, .int .u64 0, .int .u64 0] rfl rfl (fun h => by cases h) (news_six w1 #[.int .i64 77, .int .u64 0, .int .u64 0, .int .i64 78, .int .u64 0, .int .u64 0] 27) (by simp [Value.oneCell']) ?d3 ?d4 ?d5 ?_)
  case d3 => have := HSM.out; simp only [maxLen]; omega
  case d4 => have := HSM.out; omega
  case d5 => have := B1.out.size; simp; omega
  intro A2 c2 w2 ho2 hg2 _
  have g2 : w1.grownBy w2 (Value.slice A1 n c1).ownBlock := (World.grownBy_alloc w1 _ _).trans hg2
  have B2 : Hid (Below W.heap.size W w2) := B1.out.trans ⟨g2.os, g2.tape, g2.output, g2.size, fun q hq => g2.block q (by have := B1.out.size; omega) (fun e => by have := (O1.out.lt q e.symm).1; omega)⟩
  have hR2 : RdC 3 sv w2 A2 (n + 2) (L ++ [(77, 0, 0), (78, 0, 0)]) := rds_own (e := 27) (base := W.heap.size) (c := c2) (by rw [SVx_append]; exact ho2) (by simp [H.out.len])
  obtain ⟨gb, cap, hv, _, _⟩ := ho2.form (by omega)
  cases hv
  have R2 := Lib.hid hR2
  have hcap : n + 2 ≤ c2 := by obtain ⟨_, _, hv, h1, _⟩ := own_shape ho2; cases hv; exact h1
  have hkc : (n : Int) ≤ (c2 : Int) := by omega
  have hl1 : ((L ++ [(77, 0, 0), (78, 0, 0)] : List St)).take n = L := by rw [List.take_append_of_le_length (by rw [H.out.len]; omega), List.take_of_length_le (by rw [H.out.len]; omega)]
  have F1 := fresh_any (some ⟨gb, 0, none⟩) n c2 L w2 (by have := rds_take hR2 n (by omega); rwa [hl1] at this) HOK.out HSM.out
  have F1 := Lib.hid F1
  clear ho2 hg2 g2 hR2 hcap hl1 O1 B1
  go_wp2_with fail
  refine F1.out.mono ?_
  clear F1
  rintro e w3 ⟨⟨b1, k1, hfb1, rfl⟩, hb3⟩
  have B3 : Hid (Below W.heap.size W w3) := B2.out.trans (hb3.mono B2.out.size)
  have R3 := Lib.hid (R2.out.below hb3)
  have FB1 := Lib.hid hfb1
  have F2 := Lib.hid (refFresh_any A n c L w3 (H.out.below B3.out))
  clear hfb1 hb3 B2 R2
  go_wp2_with fail
  refine F2.out.mono ?_
  clear F2
  rintro e w4 ⟨⟨b2, k2, hfb2, rfl⟩, hb4⟩
  obtain ⟨rfl, rfl⟩ := FB1.out.one hfb2
  have B4 : Hid (Below W.heap.size W w4) := B3.out.trans (hb4.mono B3.out.size)
  have R4 := Lib.hid (R3.out.below hb4)
  clear hfb2 hb4 B3 R3 FB1
  go_wp2_with fail
  go_loopw [8] (fun i wr => ∃ (k m : Nat), k ≤ n ∧ i = .int .i64 k ∧ Hid (wr = w4.drewN m)) (fun i _ => n - (intOf i).toNat)
  case atStart => exact ⟨0, 0, by omega, rfl, rfl⟩
  case round =>
    obtain ⟨k, m, hk, rfl, HR⟩ := hrel
    by_cases hkn : k < n
    · obtain ⟨x, hx⟩ : ∃ x, L[k]? = some x := ⟨_, List.getElem?_eq_getElem (by have := H.out.len; omega)⟩
      obtain ⟨ad, rfl, g0, g1, g2⟩ := (H.out.below B4.out).three hx
      have hx2 : ((L ++ [(77, 0, 0), (78, 0, 0)] : List St))[k]? = some x := by rw [List.getElem?_append_left (by have := H.out.len; omega)]; exact hx
      obtain ⟨ad2, e2, p0, p1, p2⟩ := R4.out.three hx2
      cases e2
      rw [add_at] at p0 p1 p2
      obtain ⟨x0, x1, x2⟩ := x
      have q0 : wr.cell? (ad.add (k * 3)) = some (.int .i64 x0) := HR.out ▸ g0
      have q1 : wr.cell? ⟨(ad.add (k * 3)).block, (ad.add (k * 3)).off + 1, none⟩ = some (.int .u64 (x1 : Nat)) := HR.out ▸ g1
      have q2 : wr.cell? ⟨(ad.add (k * 3)).block, (ad.add (k * 3)).off + 2, none⟩ = some (.int .u64 (x2 : Nat)) := HR.out ▸ g2
      have r0 : wr.cell? ⟨gb, k * 3, none⟩ = some (.int .i64 x0) := HR.out ▸ p0
      have r1 : wr.cell? ⟨gb, k * 3 + 1, none⟩ = some (.int .u64 (x1 : Nat)) := HR.out ▸ p1
      have r2 : wr.cell? ⟨gb, k * 3 + 2, none⟩ = some (.int .u64 (x2 : Nat)) := HR.out ▸ p2
      have e1 : IntKind.i64.wrap ((k : Int) + 1) = (k : Int) + 1 := by have := HSM.out; rw [IntKind.wrap_i64]; omega
      have E1 := Lib.hid e1
      have hkn' : (k : Int) < (n : Int) := by omega
      have hkn2 : (k : Int) < (n : Int) + 2 := by omega
      clear hx hx2 g0 g1 g2 p0 p1 p2 e1
      go_wp2
      go_quiet (fail)
      have e1 := E1.out
      go_wp2
      go_roundw
      case rel => exact ⟨k + 1, m + nq, by omega, by go_num, by rw [HR.out, World.drewN_drewN]; exact rfl⟩
      case measure => simp [intOf]; omega
    · obtain rfl : k = n := by omega
      have hlen := H.out.len
      have hx1 : ((L ++ [(77, 0, 0), (78, 0, 0)] : List St))[k]? = some (77, 0, 0) := by rw [List.getElem?_append_right (by omega), hlen, Nat.sub_self]; rfl
      have hx2 : ((L ++ [(77, 0, 0), (78, 0, 0)] : List St))[k + 1]? = some (78, 0, 0) := by rw [List.getElem?_append_right (by omega), hlen, show k + 1 - k = 1 by omega]; rfl
      obtain ⟨ad2, e2, p0, _, _⟩ := R4.out.three hx1
      cases e2
      obtain ⟨ad3, e3, p1, _, _⟩ := R4.out.three hx2
      cases e3
      rw [add_at] at p0 p1
      have r0 : wr.cell? ⟨gb, k * 3, none⟩ = some (.int .i64 77) := HR.out ▸ p0
      have r1 : wr.cell? ⟨gb, (k + 1) * 3, none⟩ = some (.int .i64 78) := HR.out ▸ p1
      have e1 : IntKind.i64.wrap ((k : Int) + 1) = (k : Int) + 1 := by have := HSM.out; rw [IntKind.wrap_i64]; omega
      have hk1 : (k : Int) < (k : Int) + 2 := by omega
      have hk2 : (k : Int) + 1 < (k : Int) + 2 := by omega
      have hk3 : ((k : Int) + 1).toNat = k + 1 := by omega
      clear hx1 hx2 p0 p1 hlen
      go_wp2
      go_ret
      exact ⟨rfl, by rw [HR.out]; exact Below.drewN B4.out m⟩
end Go.Proofs.Ytgbjfmokfkdglaa
