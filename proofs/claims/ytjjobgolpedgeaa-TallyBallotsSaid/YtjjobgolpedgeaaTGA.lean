/-
  Parts of the walks of TallyBallots and TallyAnswers. Merged by merge.py: TOpB, TRefOplog, TCheckMark, TCheckAck, TLogged, TLog2, TRefLog, TCopies.
-/
import Derived.Test.YtjjobgolpedgeaaTOpA
import Derived.Test.YtjjobgolpedgeaaTSame
import Derived.Test.YtjjobgolpedgeaaTOplog
import Derived.Test.YtjjobgolpedgeaaTRefCmp
import Derived.Test.YtjjobgolpedgeaaTPutX
import Derived.Test.YtjjobgolpedgeaaTLog
set_option linter.unusedVariables false
set_option linter.unusedSimpArgs false
namespace Go.Proofs.Ytjjobgolpedgeaa
open Go.RowKit

set_option maxHeartbeats 8000000 in
set_option maxRecDepth 100000 in
theorem refOpCheck_any (k s : Int) (v : ByteArray) (w : World) : Calls Try.prog 155 #[.agg #[.int .i64 k, .int .i64 s, .string v]] w fun e w' => e = .returned (.int .i64 (opF k s v.size)) ∧ Below w.heap.size w w' := by
  have hv0 : (0 : Int) ≤ (v.size : Int) := by omega
  by_cases k1 : k = 1
  case pos =>
    by_cases s0 : s < 0
    case pos =>
      have he : opF k s v.size = 41 := by unfold opF; (repeat' split) <;> omega
      rw [he]
      clear he
      subst k1
      go_enter Try.func155, Try.ntmps155
      go_wp2
      go_ret
      exact ⟨rfl, by go_grown⟩
    by_cases s1 : 1024 ≤ s
    case pos =>
      have he : opF k s v.size = 41 := by unfold opF; (repeat' split) <;> omega
      rw [he]
      clear he
      subst k1
      go_enter Try.func155, Try.ntmps155
      go_wp2
      go_ret
      exact ⟨rfl, by go_grown⟩
    by_cases m0 : (64 : Int) < (v.size : Int)
    case pos =>
      have he : opF k s v.size = 42 := by unfold opF; (repeat' split) <;> omega
      rw [he]
      clear he
      subst k1
      go_enter Try.func155, Try.ntmps155
      go_wp2
      go_ret
      exact ⟨rfl, by go_grown⟩
    have he : opF k s v.size = 0 := by unfold opF; (repeat' split) <;> omega
    rw [he]
    clear he
    subst k1
    go_enter Try.func155, Try.ntmps155
    go_wp2
    go_ret
    exact ⟨rfl, by go_grown⟩
  by_cases k2 : k = 2
  case pos =>
    by_cases s0 : s = 0
    case neg =>
      have b0 : (s == 0) = false := beq_eq_false_iff_ne.2 s0
      have he : opF k s v.size = 41 := by unfold opF; (repeat' split) <;> omega
      rw [he]
      clear he
      subst k2
      go_enter Try.func155, Try.ntmps155
      go_wp2
      go_ret
      exact ⟨rfl, by go_grown⟩
    by_cases m0 : (64 : Int) < (v.size : Int)
    case pos =>
      have he : opF k s v.size = 42 := by unfold opF; (repeat' split) <;> omega
      rw [he]
      clear he
      subst k2
      go_enter Try.func155, Try.ntmps155
      go_wp2
      go_ret
      exact ⟨rfl, by go_grown⟩
    have he : opF k s v.size = 0 := by unfold opF; (repeat' split) <;> omega
    rw [he]
    clear he
    subst k2
    go_enter Try.func155, Try.ntmps155
    go_wp2
    go_ret
    exact ⟨rfl, by go_grown⟩
  by_cases k3 : k = 3
  case pos =>
    by_cases s0 : s < 0
    case pos =>
      have he : opF k s v.size = 41 := by unfold opF; (repeat' split) <;> omega
      rw [he]
      clear he
      subst k3
      go_enter Try.func155, Try.ntmps155
      go_wp2
      go_ret
      exact ⟨rfl, by go_grown⟩
    by_cases s1 : 1024 ≤ s
    case pos =>
      have he : opF k s v.size = 41 := by unfold opF; (repeat' split) <;> omega
      rw [he]
      clear he
      subst k3
      go_enter Try.func155, Try.ntmps155
      go_wp2
      go_ret
      exact ⟨rfl, by go_grown⟩
    by_cases m0 : v = ByteArray.empty
    case pos =>
      subst m0
      have he : opF k s ByteArray.empty.size = 0 := by have : ByteArray.empty.size = 0 := rfl; unfold opF; (repeat' split) <;> omega
      rw [he]
      clear he
      subst k3
      go_enter Try.func155, Try.ntmps155
      go_wp2
      go_ret
      exact ⟨rfl, by go_grown⟩
    have m1 : 0 < v.size := Nat.pos_of_ne_zero fun h => m0 (ByteArray.ext (Array.eq_empty_of_size_eq_zero h))
    have m2 : v.toList.isEmpty = false := by
      rw [ByteArray.toList_eq, List.isEmpty_eq_false_iff]
      exact fun e => m0 (ByteArray.ext (Array.toList_inj.mp e))
    have he : opF k s v.size = 42 := by unfold opF; (repeat' split) <;> omega
    rw [he]
    clear he
    subst k3
    go_enter Try.func155, Try.ntmps155
    go_wp2
    go_ret
    exact ⟨rfl, by go_grown⟩
  by_cases k4 : k = 4
  case pos =>
    by_cases s0 : s = 0
    case neg =>
      have b0 : (s == 0) = false := beq_eq_false_iff_ne.2 s0
      have he : opF k s v.size = 41 := by unfold opF; (repeat' split) <;> omega
      rw [he]
      clear he
      subst k4
      go_enter Try.func155, Try.ntmps155
      go_wp2
      go_ret
      exact ⟨rfl, by go_grown⟩
    by_cases m0 : v = ByteArray.empty
    case pos =>
      subst m0
      have he : opF k s ByteArray.empty.size = 0 := by have : ByteArray.empty.size = 0 := rfl; unfold opF; (repeat' split) <;> omega
      rw [he]
      clear he
      subst k4
      subst s0
      go_enter Try.func155, Try.ntmps155
      go_wp2
      go_ret
      exact ⟨rfl, by go_grown⟩
    have m1 : 0 < v.size := Nat.pos_of_ne_zero fun h => m0 (ByteArray.ext (Array.eq_empty_of_size_eq_zero h))
    have m2 : v.toList.isEmpty = false := by
      rw [ByteArray.toList_eq, List.isEmpty_eq_false_iff]
      exact fun e => m0 (ByteArray.ext (Array.toList_inj.mp e))
    have he : opF k s v.size = 42 := by unfold opF; (repeat' split) <;> omega
    rw [he]
    clear he
    subst k4
    go_enter Try.func155, Try.ntmps155
    go_wp2
    go_ret
    exact ⟨rfl, by go_grown⟩
  have c1 : (k == 1) = false := beq_eq_false_iff_ne.2 k1
  have c2 : (k == 2) = false := beq_eq_false_iff_ne.2 k2
  have c3 : (k == 3) = false := beq_eq_false_iff_ne.2 k3
  have c4 : (k == 4) = false := beq_eq_false_iff_ne.2 k4
  have he : opF k s v.size = 40 := by unfold opF; (repeat' split) <;> omega
  rw [he]
  clear he
  go_enter Try.func155, Try.ntmps155
  go_wp2
  go_ret
  exact ⟨rfl, by go_grown⟩
end Go.Proofs.Ytjjobgolpedgeaa
set_option linter.unusedVariables false
set_option linter.unusedSimpArgs false
namespace Go.Proofs.Ytjjobgolpedgeaa
open Go.RowKit

/-- has a client had so great a number? -/
def twice (L : List Et) (x : Et) : Bool := L.any fun y => decide (y.c = x.c) && decide (x.n ≤ y.n)
def entR (L : List Et) (x : Et) : Int := if x.c < 0 ∨ 16 ≤ x.c then 62 else if x.n < 1 then 63 else if opF x.kd x.sl x.v.size ≠ 0 then opF x.kd x.sl x.v.size else if twice L x then 64 else 0
def entAt (L : List Et) (j : Nat) : Int := match L[j]? with | some x => entR (L.take j) x | none => 0
theorem last_spec {L : List Et} (h : ∀ j, j < L.length → fitAt L j = 0) (i : Int) : (lastE L i = none → ∀ y ∈ L, y.c ≠ i) ∧ (∀ m, lastE L i = some m → (∃ y ∈ L, y.c = i ∧ y.n = m) ∧ ∀ y ∈ L, y.c = i → y.n ≤ m) := by
  obtain ⟨n, hn⟩ : ∃ n, L.length = n := ⟨_, rfl⟩
  induction n generalizing L with
  | zero =>
    obtain rfl := List.length_eq_zero_iff.1 hn
    exact ⟨fun _ y hy => by simp at hy, fun m h => by simp [lastE_nil] at h⟩
  | succ n ih =>
    obtain ⟨L, x, rfl⟩ : ∃ L' x, L = L' ++ [x] := by
      rcases List.eq_nil_or_concat L with rfl | ⟨L', x, rfl⟩
      · simp at hn
      · exact ⟨L', x, by simp⟩
    have h' : ∀ j, j < L.length → fitAt L j = 0 := fun j hj => by
      have := h j (by simp; omega)
      unfold fitAt at this ⊢
      rwa [List.getElem?_append_left hj, List.take_append_of_le_length (Nat.le_of_lt hj)] at this
    obtain ⟨i1, i2⟩ := ih h' (by simpa using hn)
    have hx : fitF (lastE L) x = 0 := by
      have := h L.length (by simp)
      unfold fitAt at this
      rwa [List.getElem?_append_right (Nat.le_refl _), Nat.sub_self, List.take_left' rfl] at this
    by_cases hi : i = x.c
    · have e : lastE (L ++ [x]) i = some x.n := by rw [lastE_snoc]; exact if_pos hi
      rw [e]
      refine ⟨fun h => (by cases h), fun m hm => ?_⟩
      cases hm
      refine ⟨⟨x, by simp, hi.symm, rfl⟩, fun y hy hc => ?_⟩
      rcases List.mem_append.1 hy with hy | hy
      · have hlt : ∀ m, lastE L i = some m → m < x.n := by
          intro m hm
          unfold fitF at hx
          split at hx
          · cases hx
          · split at hx
            · cases hx
            · split at hx
              · rename_i h1; exact absurd hx h1
              · rw [← hi, hm] at hx
                simp only at hx
                split at hx
                · cases hx
                · omega
        cases hl : lastE L i with
        | none => exact absurd hc (i1 hl y hy)
        | some m => have := (i2 m hl).2 y hy hc; have := hlt m hl; omega
      · rw [List.mem_singleton.1 hy]; omega
    · have e : lastE (L ++ [x]) i = lastE L i := by rw [lastE_snoc]; exact if_neg hi
      rw [e]
      refine ⟨fun h y hy => ?_, fun m hm => ?_⟩
      · rcases List.mem_append.1 hy with hy | hy
        · exact i1 h y hy
        · rw [List.mem_singleton.1 hy]; exact fun e => hi e.symm
      · obtain ⟨⟨y, y1, y2, y3⟩, z⟩ := i2 m hm
        refine ⟨⟨y, List.mem_append.2 (.inl y1), y2, y3⟩, fun y hy hc => ?_⟩
        rcases List.mem_append.1 hy with hy | hy
        · exact z y hy hc
        · rw [List.mem_singleton.1 hy] at hc; exact absurd hc.symm hi
theorem ent_fit {L : List Et} (h : ∀ j, j < L.length → fitAt L j = 0) (x : Et) : entR L x = fitF (lastE L) x := by
  obtain ⟨h1, h2⟩ := last_spec h x.c
  unfold entR fitF
  have key : (if twice L x = true then (64 : Int) else 0) = (match lastE L x.c with | some m => if x.n ≤ m then 64 else 0 | none => 0) := by
    cases hl : lastE L x.c with
    | none =>
      have : twice L x = false := by
        unfold twice
        rw [List.any_eq_false]
        intro y hy
        have := h1 hl y hy
        rw [decide_eq_false this]; simp
      rw [this]; rfl
    | some m =>
      obtain ⟨⟨y, y1, y2, y3⟩, z⟩ := h2 m hl
      simp only
      by_cases hm : x.n ≤ m
      · have : twice L x = true := by
          unfold twice
          rw [List.any_eq_true]
          exact ⟨y, y1, by rw [decide_eq_true y2, decide_eq_true (by omega)]; rfl⟩
        rw [this, if_pos hm]; rfl
      · have : twice L x = false := by
          unfold twice
          rw [List.any_eq_false]
          intro y hy
          by_cases hc : y.c = x.c
          · have := z y hy hc
            rw [decide_eq_false (show ¬ x.n ≤ y.n by omega)]; simp
          · rw [decide_eq_false hc]; simp
        rw [this, if_neg hm]; rfl
  rw [key]
  rfl
theorem fitAt_take {L : List Et} {j k : Nat} (h : j < k) : fitAt (L.take k) j = fitAt L j := by
  unfold fitAt
  rw [List.getElem?_take_of_lt h, List.take_take, Nat.min_eq_left (Nat.le_of_lt h)]
theorem ent_at {L : List Et} {k : Nat} (h : ∀ j, j < k → fitAt L j = 0) : entAt L k = fitAt L k := by
  unfold entAt
  cases hx : L[k]? with
  | none => unfold fitAt; rw [hx]
  | some x =>
    have hk := (List.getElem?_eq_some_iff.1 hx).1
    simp only
    rw [ent_fit (fun j hj => ?_)]
    · unfold fitAt; rw [hx]
    · rw [List.length_take] at hj
      rw [fitAt_take (by omega)]
      exact h j (by omega)
set_option maxHeartbeats 8000000 in
set_option maxRecDepth 100000 in
theorem refEntry_any (A : Option Addr) (n c : Nat) (L : List Et) (x : Et) (w : World) (h : RdC 5 Et.cells w A n L) :
    Calls Try.prog 151 #[.slice A n c, x.agg] w fun e w' => e = .returned (.int .i64 (entR L x)) ∧ Below w.heap.size w w' := by
  obtain ⟨xc, xn, xk, xs, xv⟩ := x
  by_cases h1 : xc < 0
  · rw [show entR L ⟨xc, xn, xk, xs, xv⟩ = 62 by unfold entR; rw [if_pos (.inl h1)]]
    clear h
    go_enter Try.func151, Try.ntmps151
    go_wp2
    go_ret
    exact ⟨rfl, by go_grown⟩
  by_cases h2 : 16 ≤ xc
  · rw [show entR L ⟨xc, xn, xk, xs, xv⟩ = 62 by unfold entR; rw [if_pos (.inr h2)]]
    clear h
    go_enter Try.func151, Try.ntmps151
    go_wp2
    go_ret
    exact ⟨rfl, by go_grown⟩
  by_cases h3 : xn < 1
  · rw [show entR L ⟨xc, xn, xk, xs, xv⟩ = 63 by unfold entR; rw [if_neg (show ¬ (xc < 0 ∨ 16 ≤ xc) by omega), if_pos h3]]
    clear h
    go_enter Try.func151, Try.ntmps151
    go_wp2
    go_ret
    exact ⟨rfl, by go_grown⟩
  have H := Lib.hid h
  have HL := Lib.hid h.len
  have hn : (n : Int) ≤ 9223372036854775807 := by have := h.le; omega
  obtain ⟨R, hR⟩ : ∃ R, entR L ⟨xc, xn, xk, xs, xv⟩ = R := ⟨_, rfl⟩
  have HR : Hid ((if opF xk xs xv.size ≠ 0 then opF xk xs xv.size else if twice L ⟨xc, xn, xk, xs, xv⟩ then 64 else 0) = R) := by rw [← hR]; unfold entR; rw [if_neg (show ¬ (xc < 0 ∨ 16 ≤ xc) by omega), if_neg h3]; exact rfl
  rw [hR]
  clear hR h
  go_enter Try.func151, Try.ntmps151
  go_wp2_with fail
  refine (refOpCheck_any xk xs xv _).mono ?_
  rintro e w2 ⟨rfl, hb2⟩
  have OX := Lib.hid ((Ob.fresh w #[.int .i64 xc, .int .i64 xn, .int .i64 xk, .int .i64 xs, .string xv] 156).below hb2)
  have B2 : Hid (Below w.heap.size w w2) := (below_al _ _).trans (hb2.mono (by simp))
  clear hb2
  obtain ⟨r, hr⟩ : ∃ r, w.heap.size = r := ⟨_, rfl⟩
  rw [hr] at OX ⊢
  clear hr
  obtain ⟨o, ho⟩ : ∃ o, opF xk xs xv.size = o := ⟨_, rfl⟩
  rw [ho] at HR ⊢
  clear ho
  by_cases h0 : o = 0
  case neg =>
    have HE : Hid (R = o) := by rw [← HR.out, if_pos h0]; exact rfl
    have b0 : (o == 0) = false := beq_eq_false_iff_ne.2 h0
    go_wp2_with fail
    go_ret
    exact ⟨by rw [HE.out]; exact rfl, B2.out⟩
  subst h0
  replace HR : Hid ((if twice L ⟨xc, xn, xk, xs, xv⟩ then 64 else 0) = R) := by rw [← HR.out, if_neg (show ¬ ((0 : Int) ≠ 0) by simp)]; exact rfl
  clear h1 h2 h3
  go_wp2_with fail
  go_loopw [6] (fun iv wr => ∃ (k : Nat), k ≤ n ∧ iv = .int .i64 k ∧ Hid (∀ j y, j < k → L[j]? = some y → (decide (y.c = xc) && decide (xn ≤ y.n)) = false) ∧ Hid (∃ q, wr = w2.drewN q)) (fun iv _ => n - (intOf iv).toNat)
  case atStart => exact ⟨0, by omega, rfl, fun j y hj => by omega, 0, rfl⟩
  case round =>
    obtain ⟨k, hk, rfl, HN, HQ⟩ := hrel
    have HB : Hid (Below w2.heap.size w2 wr) := by obtain ⟨q, hq⟩ := HQ.out; rw [hq]; exact Below.drewN (Below.refl _ _) q
    by_cases hkn : k < n
    · obtain ⟨y, hy⟩ : ∃ y, L[k]? = some y := ⟨_, List.getElem?_eq_getElem (by have := HL.out; omega)⟩
      obtain ⟨al, rfl, g0, g1, g2, g3, g4⟩ := ((H.out.below B2.out).below HB.out).atEt hy
      obtain ⟨o0, o1, _⟩ : wr.cell? ⟨r, 0, none⟩ = some (.int .i64 xc) ∧ wr.cell? ⟨r, 1, none⟩ = some (.int .i64 xn) ∧ True := ⟨(OX.out.below HB.out).cell 0 rfl, (OX.out.below HB.out).cell 1 rfl, trivial⟩
      have hki : (k : Int) < (n : Int) := by omega
      have HKN := Lib.hid hkn
      have HYY := Lib.hid hy
      have hk2 : (k : Int) + 1 ≤ 9223372036854775807 := by omega
      clear hy hkn hk g2 g3 g4
      go_upto_region 11 with fail
      go_cut [47] (fun bv wx => bv = .bool (decide (y.c = xc) && decide (xn ≤ y.n)) ∧ Hid (∃ q, wx = wr.drewN q))
      case first =>
        by_cases e0 : y.c = xc
        case neg =>
          have d0 : (y.c == xc) = false := beq_eq_false_iff_ne.2 e0
          have HD : Hid ((decide (y.c = xc) && decide (xn ≤ y.n)) = false) := by rw [decide_eq_false e0]; exact rfl
          clear e0
          go_quiet (fail)
          go_wp2_with fail
          go_meet
          exact ⟨by rw [HD.out], nq, rfl⟩
        case pos =>
          have d0 : (y.c == xc) = true := beq_iff_eq.2 e0
          obtain ⟨bb, hbb⟩ : ∃ bb, decide (xn ≤ y.n) = bb := ⟨_, rfl⟩
          have HD : Hid ((decide (y.c = xc) && decide (xn ≤ y.n)) = bb) := by rw [decide_eq_true e0, Bool.true_and, hbb]; exact rfl
          clear e0
          go_quiet (fail)
          go_wp2_with fail
          go_meet
          exact ⟨by rw [HD.out], nq, rfl⟩
      case rest =>
        obtain ⟨rfl, HZ⟩ := hcut
        clear g0 g1 o0 o1
        have HQ2 : Hid (∃ q, wc = w2.drewN q) := by obtain ⟨z, hz⟩ := HZ.out; obtain ⟨q, hq⟩ := HQ.out; exact ⟨q + z, by rw [hz, hq, World.drewN_drewN]⟩
        have HB2 : Hid (Below w2.heap.size w2 wc) := by obtain ⟨q, hq⟩ := HQ2.out; rw [hq]; exact Below.drewN (Below.refl _ _) q
        clear HZ HQ HB
        obtain ⟨bb, hbb⟩ : ∃ bb, (decide (y.c = xc) && decide (xn ≤ y.n)) = bb := ⟨_, rfl⟩
        rw [hbb]
        have HBB := Lib.hid hbb
        clear hbb
        cases bb with
        | true =>
          have HE : Hid (R = 64) := by
            rw [← HR.out, if_pos]
            · exact rfl
            · unfold twice
              rw [List.any_eq_true]
              exact ⟨y, List.mem_of_getElem? HYY.out, HBB.out⟩
          go_wp2_with fail
          go_ret
          exact ⟨by rw [HE.out]; exact rfl, B2.out.trans (HB2.out.mono B2.out.size)⟩
        | false =>
          go_wp2_with fail
          go_roundw
          case rel => exact ⟨k + 1, HKN.out, by go_num, fun j z hj hz => by
            by_cases e : j = k
            · subst e; rw [HYY.out] at hz; cases hz; exact HBB.out
            · exact HN.out j z (by omega) hz, HQ2.out⟩
          case measure => have := HKN.out; simp [intOf]; omega
    · obtain rfl : n = k := by omega
      have hki : ¬ (n : Int) < (n : Int) := by omega
      have HE : Hid (R = 0) := by
        rw [← HR.out, if_neg]
        · exact rfl
        · unfold twice
          rw [List.any_eq_true]
          rintro ⟨y, hy, hb⟩
          obtain ⟨j, hj⟩ := List.getElem?_of_mem hy
          rw [HN.out j y (by have := (List.getElem?_eq_some_iff.1 hj).1; have := HL.out; omega) hj] at hb
          cases hb
      clear hkn hk
      go_wp2_with fail
      go_ret
      exact ⟨by rw [HE.out]; exact rfl, B2.out.trans (HB.out.mono B2.out.size)⟩
/-- why the first bad entry is bad -/
theorem scan_ent {L : List Et} {k : Nat} (hk : k < L.length) (h : ∀ j, j < k → entAt L j = 0) : ∀ j, j < k → fitAt L j = 0 := by
  intro j
  induction j using Nat.strongRecOn with
  | _ j ih =>
    intro hj
    rw [← ent_at (fun i hi => ih i hi (by omega))]
    exact h j hj
theorem scan_ent' {L : List Et} {k : Nat} (h : ∀ j, j < k → entAt L j = 0) : ∀ j, j < k → fitAt L j = 0 := by
  intro j
  induction j using Nat.strongRecOn with
  | _ j ih =>
    intro hj
    rw [← ent_at (fun i hi => ih i hi (by omega))]
    exact h j hj
set_option maxHeartbeats 8000000 in
set_option maxRecDepth 100000 in
theorem refOplog_any (A : Option Addr) (n c : Nat) (L : List Et) (room : Int) (w : World) (h : RdC 5 Et.cells w A n L) (hc : n ≤ c) :
    Calls Try.prog 148 #[.slice A n c, .int .i64 room] w fun e w' => (∃ p, e = .returned (.tuple #[.int .i64 (chkL L room), .int .i64 p])) ∧ Below w.heap.size w w' := by
  have HL := Lib.hid h.len
  by_cases h1 : room < 1
  · rw [show chkL L room = 3 by unfold chkL; rw [if_pos (.inl h1)]]
    clear h
    go_enter Try.func148, Try.ntmps148
    go_wp2
    go_ret2
    exact ⟨⟨_, rfl⟩, by go_grown⟩
  by_cases h2 : 256 < room
  · rw [show chkL L room = 3 by unfold chkL; rw [if_pos (.inr h2)]]
    clear h
    go_enter Try.func148, Try.ntmps148
    go_wp2
    go_ret2
    exact ⟨⟨_, rfl⟩, by go_grown⟩
  by_cases h3 : room < (n : Int)
  · rw [show chkL L room = 60 by unfold chkL; rw [if_neg (by omega), HL.out, if_pos h3]]
    clear h
    go_enter Try.func148, Try.ntmps148
    go_wp2
    go_ret2
    exact ⟨⟨_, rfl⟩, by go_grown⟩
  rw [show chkL L room = scanL L by unfold chkL; rw [if_neg (by omega), HL.out, if_neg h3]]
  have H := Lib.hid h
  have HN : Hid (n ≤ 256) := (by omega : n ≤ 256)
  have hn : (n : Int) ≤ 256 := by omega
  have HCP := Lib.hid hc
  obtain ⟨R, hR⟩ : ∃ R, scanL L = R := ⟨_, rfl⟩
  have HR := Lib.hid hR
  rw [hR]
  clear h hR hc
  go_enter Try.func148, Try.ntmps148
  go_wp2_with fail
  go_loopw [6] (fun iv wr => ∃ (k : Nat), k ≤ n ∧ iv = .int .i64 k ∧ Hid (∀ j, j < k → entAt L j = 0) ∧ Hid (Below w.heap.size w wr)) (fun iv _ => n - (intOf iv).toNat)
  case atStart => exact ⟨0, by omega, rfl, fun j hj => by omega, Below.refl _ _⟩
  case round =>
    obtain ⟨k, hk, rfl, HE, HB⟩ := hrel
    by_cases hkn : k < n
    · obtain ⟨y, hy⟩ : ∃ y, L[k]? = some y := ⟨_, List.getElem?_eq_getElem (by have := HL.out; omega)⟩
      obtain ⟨al, rfl, g0, g1, g2, g3, g4⟩ := (H.out.below HB.out).atEt hy
      have hki : (k : Int) < (n : Int) := by omega
      have hkc : k ≤ c := by have := HCP.out; omega
      have hkc' : (k : Int) ≤ (c : Int) := by omega
      have HKN := Lib.hid hkn
      have HYY := Lib.hid hy
      have HEA : Hid (entR (L.take k) y = entAt L k) := by unfold entAt; rw [hy]; exact rfl
      have hk2 : (k : Int) + 1 ≤ 9223372036854775807 := by omega
      obtain ⟨z, hz⟩ : ∃ z, entAt L k = z := ⟨_, rfl⟩
      have HZ := Lib.hid hz
      have FE : Hid (∀ x, ((x.cell? (al.add (k * 5)) = some (.int .i64 y.c) ∧ x.cell? ⟨(al.add (k * 5)).block, (al.add (k * 5)).off + 1, none⟩ = some (.int .i64 y.n) ∧ x.cell? ⟨(al.add (k * 5)).block, (al.add (k * 5)).off + 2, none⟩ = some (.int .i64 y.kd) ∧ x.cell? ⟨(al.add (k * 5)).block, (al.add (k * 5)).off + 3, none⟩ = some (.int .i64 y.sl) ∧ x.cell? ⟨(al.add (k * 5)).block, (al.add (k * 5)).off + 4, none⟩ = some (.string y.v)) ∧ Below wr.heap.size wr x) → Calls Try.prog 151 #[.slice (some al) k c, y.agg] x fun e x' => e = .returned (.int .i64 z) ∧ ((x'.cell? (al.add (k * 5)) = some (.int .i64 y.c) ∧ x'.cell? ⟨(al.add (k * 5)).block, (al.add (k * 5)).off + 1, none⟩ = some (.int .i64 y.n) ∧ x'.cell? ⟨(al.add (k * 5)).block, (al.add (k * 5)).off + 2, none⟩ = some (.int .i64 y.kd) ∧ x'.cell? ⟨(al.add (k * 5)).block, (al.add (k * 5)).off + 3, none⟩ = some (.int .i64 y.sl) ∧ x'.cell? ⟨(al.add (k * 5)).block, (al.add (k * 5)).off + 4, none⟩ = some (.string y.v)) ∧ Below wr.heap.size wr x')) := fun x hx =>
        (refEntry_any (some al) k c (L.take k) y x (((H.out.below HB.out).below hx.2).take k (Nat.le_of_lt hkn))).mono fun e x' h9 => ⟨by rw [h9.1, HEA.out, HZ.out], ⟨(h9.2.cell (World.block_lt_of_cell? x _ hx.1.1)).trans hx.1.1, (h9.2.cell (World.block_lt_of_cell? x _ hx.1.2.1)).trans hx.1.2.1, (h9.2.cell (World.block_lt_of_cell? x _ hx.1.2.2.1)).trans hx.1.2.2.1, (h9.2.cell (World.block_lt_of_cell? x _ hx.1.2.2.2.1)).trans hx.1.2.2.2.1, (h9.2.cell (World.block_lt_of_cell? x _ hx.1.2.2.2.2)).trans hx.1.2.2.2.2⟩, hx.2.trans (h9.2.mono hx.2.size)⟩
      clear hy hkn hk hz
      go_upto_region 8 with fail
      go_region_held3 (fun x => (x.cell? (al.add (k * 5)) = some (.int .i64 y.c) ∧ x.cell? ⟨(al.add (k * 5)).block, (al.add (k * 5)).off + 1, none⟩ = some (.int .i64 y.n) ∧ x.cell? ⟨(al.add (k * 5)).block, (al.add (k * 5)).off + 2, none⟩ = some (.int .i64 y.kd) ∧ x.cell? ⟨(al.add (k * 5)).block, (al.add (k * 5)).off + 3, none⟩ = some (.int .i64 y.sl) ∧ x.cell? ⟨(al.add (k * 5)).block, (al.add (k * 5)).off + 4, none⟩ = some (.string y.v)) ∧ Below wr.heap.size wr x) (first | exact ⟨⟨g0, g1, g2, g3, g4⟩, Below.drew (Below.refl _ _)⟩ | assumption | go_keep)
        (first | (go_at_call 151; refine (FE.out _ (by first | assumption | (simp [*]))).mono ?_; rintro e x' ⟨rfl, hx'⟩))
      have B2 : Hid (Below w.heap.size w x') := HB.out.trans (hx'.2.mono HB.out.size)
      clear hx' FE g0 g1 g2 g3 g4 hkc hkc' hk2
      by_cases h0 : z = 0
      case neg =>
        have b0 : (z == 0) = false := beq_eq_false_iff_ne.2 h0
        have HF : Hid (R = z) := by
          rw [← HR.out, scanL_bad (k := k) (by have := HKN.out; have := HL.out; omega) (by rw [← ent_at (scan_ent' HE.out), HZ.out]; exact h0) (scan_ent' HE.out), ← ent_at (scan_ent' HE.out), HZ.out]
          exact rfl
        go_wp2_with fail
        go_ret2
        exact ⟨⟨_, by rw [HF.out]; exact rfl⟩, B2.out⟩
      subst h0
      go_wp2_with fail
      go_roundw
      case rel => exact ⟨k + 1, HKN.out, by go_num, fun j hj => by
        by_cases e : j = k
        · rw [e]; exact HZ.out
        · exact HE.out j (by omega), B2.out⟩
      case measure => have := HKN.out; simp [intOf]; omega
    · obtain rfl : n = k := by omega
      have hki : ¬ (n : Int) < (n : Int) := by omega
      have HF : Hid (R = 0) := by rw [← HR.out, scanL_good (fun j hj => scan_ent' HE.out j (by have := HL.out; omega))]; exact rfl
      clear hkn hk
      go_wp2_with fail
      go_ret2
      exact ⟨⟨_, by rw [HF.out]; exact rfl⟩, HB.out⟩
end Go.Proofs.Ytjjobgolpedgeaa
set_option linter.unusedVariables false
set_option linter.unusedSimpArgs false
namespace Go.Proofs.Ytjjobgolpedgeaa
open Go.RowKit

/-- the voter ahead, or -1 -/
def prevN {α : Type} (node : α → Int) (L : List α) (i : Nat) : Int := if i = 0 then -1 else match L[i - 1]? with | some x => node x | none => -1
def okI {α : Type} (node : α → Int) (may : α → Bool) (f self : Int) (L : List α) (i : Nat) : Bool := match L[i]? with | some x => voterF f self (prevN node L i) (node x) && may x | none => true
/-- what a check answers -/
def chkR {α : Type} (node : α → Int) (may : α → Bool) (c : Cg) (self : Int) (L : List α) : Int := if c.bad then 1 else if (List.range L.length).all (okI node may c.f self L) then 0 else 80
theorem chkR_bad {α : Type} {node : α → Int} {may : α → Bool} {c : Cg} {self : Int} {L : List α} (h : c.bad) : chkR node may c self L = 1 := by unfold chkR; rw [if_pos h]
theorem chkR_all {α : Type} {node : α → Int} {may : α → Bool} {c : Cg} {self : Int} {L : List α} (h : ¬ c.bad) (ha : ∀ i, i < L.length → okI node may c.f self L i = true) : chkR node may c self L = 0 := by
  unfold chkR
  rw [if_neg h, if_pos]
  exact List.all_eq_true.2 fun i hi => ha i (List.mem_range.1 hi)
theorem chkR_one {α : Type} {node : α → Int} {may : α → Bool} {c : Cg} {self : Int} {L : List α} (h : ¬ c.bad) {i : Nat} (hi : i < L.length) (ha : okI node may c.f self L i = false) : chkR node may c self L = 80 := by
  unfold chkR
  rw [if_neg h, if_neg]
  intro hh
  have := List.all_eq_true.1 hh i (List.mem_range.2 hi)
  rw [ha] at this
  cases this
theorem voterF_iff (f self ahead node : Int) : voterF f self ahead node = true ↔ ahead < node ∧ 0 ≤ node ∧ node < 2 * f + 1 ∧ node ≠ self := by
  unfold voterF
  rw [Bool.and_eq_true, Bool.and_eq_true, Bool.and_eq_true, decide_eq_true_iff, decide_eq_true_iff, decide_eq_true_iff, Bool.not_eq_true', beq_eq_false_iff_ne]
theorem voterF_not {f self ahead node : Int} (h : ¬ (ahead < node ∧ 0 ≤ node ∧ node < 2 * f + 1 ∧ node ≠ self)) : voterF f self ahead node = false := by
  cases e : voterF f self ahead node with
  | false => rfl
  | true => exact absurd ((voterF_iff _ _ _ _).1 e) h
theorem mayMark_any (x : Mk) (w : World) : Calls Try.prog 98 #[x.agg] w fun e w' => e = .returned (.bool true) ∧ Below w.heap.size w w' := by
  go_enter Try.func98, Try.ntmps98
  go_wp2
  go_ret
  exact ⟨rfl, by go_grown⟩
set_option maxHeartbeats 16000000 in
set_option maxRecDepth 100000 in
theorem checkMark_any (c : Cg) (self : Int) (A : Option Addr) (n cp : Nat) (L : List Mk) (w : World) (h : RdC 3 Mk.cells w A n L) (hsm : n * 24 ≤ 140737488355328) :
    Calls Try.prog 97 #[c.agg, .int .i64 self, .slice A n cp, .func (.func 98) #[] #[]] w fun e w' => e = .returned (.int .i64 (chkR Mk.n (fun _ => true) c self L)) ∧ Below w.heap.size w w' := by
  obtain ⟨cf, cr, cpp, cu⟩ := c
  by_cases h1 : cf < 1
  · rw [chkR_bad (show Cg.bad ⟨cf, cr, cpp, cu⟩ from .inl h1)]
    go_enter Try.func97, Try.ntmps97
    go_wp2
    go_ret
    exact ⟨rfl, by go_grown⟩
  by_cases h2 : 3 < cf
  · rw [chkR_bad (show Cg.bad ⟨cf, cr, cpp, cu⟩ from .inr (.inl h2))]
    go_enter Try.func97, Try.ntmps97
    go_wp2
    go_ret
    exact ⟨rfl, by go_grown⟩
  by_cases h3 : cr < 1
  · rw [chkR_bad (show Cg.bad ⟨cf, cr, cpp, cu⟩ from .inr (.inr (.inl h3)))]
    go_enter Try.func97, Try.ntmps97
    go_wp2
    go_ret
    exact ⟨rfl, by go_grown⟩
  by_cases h4 : 256 < cr
  · rw [chkR_bad (show Cg.bad ⟨cf, cr, cpp, cu⟩ from .inr (.inr (.inr h4)))]
    go_enter Try.func97, Try.ntmps97
    go_wp2
    go_ret
    exact ⟨rfl, by go_grown⟩
  have HG : Hid (¬ Cg.bad ⟨cf, cr, cpp, cu⟩) := fun h => by unfold Cg.bad at h; simp only at h; omega
  have H := Lib.hid h
  have HL := Lib.hid h.len
  have hn : (n : Int) ≤ 6000000000000 := by omega
  clear h hsm
  obtain ⟨R, hR⟩ : ∃ R, chkR Mk.n (fun _ => true) ⟨cf, cr, cpp, cu⟩ self L = R := ⟨_, rfl⟩
  have HR := Lib.hid hR
  rw [hR]
  clear hR
  go_enter Try.func97, Try.ntmps97
  go_wp2_with fail
  have OC := Lib.hid (Ob.fresh w #[.int .i64 cf, .int .i64 cr, .int .i64 cpp, .bool cu] 70)
  have BW : Hid (Below w.heap.size w (w.alloc (.cells #[.int .i64 cf, .int .i64 cr, .int .i64 cpp, .bool cu] 70))) := below_al _ _
  generalize w.alloc (.cells #[.int .i64 cf, .int .i64 cr, .int .i64 cpp, .bool cu] 70) = w1 at OC BW ⊢
  obtain ⟨r4, hr4⟩ : ∃ r, w.heap.size = r := ⟨_, rfl⟩
  rw [hr4] at OC ⊢
  clear hr4
  go_loopw [32] (fun iv wr => ∃ (k : Nat), k ≤ n ∧ iv = .int .i64 k ∧ Hid (Below w1.heap.size w1 wr) ∧ Hid (∀ i, i < k → okI Mk.n (fun _ => true) cf self L i = true)) (fun iv _ => n - (intOf iv).toNat)
  case atStart => exact ⟨0, by omega, rfl, Below.refl _ _, fun i hi => by omega⟩
  case round =>
    obtain ⟨k, hk, rfl, HB, HO⟩ := hrel
    by_cases hkn : k < n
    · obtain ⟨x, hx⟩ : ∃ x, L[k]? = some x := ⟨_, List.getElem?_eq_getElem (by have := HL.out; omega)⟩
      obtain ⟨al, rfl, g0, g1, g2⟩ := ((H.out.below BW.out).below HB.out).atMk hx
      have o4 := (OC.out.below HB.out).cell 0 rfl
      have z4 := World.block_lt_of_cell? wr _ o4
      have hki : (k : Int) < (n : Int) := by omega
      have HKN := Lib.hid hkn
      have HXX := Lib.hid hx
      clear hx hkn hk
      have hmn := mMark_node
      go_wp2_with fail
      clear hmn o4 z4
      have OX := Lib.hid (Ob.fresh wr #[.int .i64 x.n, .int .u64 (x.h : Nat), .int .u64 (x.l : Nat)] 135)
      have BX : Hid (Below w1.heap.size w1 (wr.alloc (.cells #[.int .i64 x.n, .int .u64 (x.h : Nat), .int .u64 (x.l : Nat)] 135))) := HB.out.alloc HB.out.size _
      generalize wr.alloc (.cells #[.int .i64 x.n, .int .u64 (x.h : Nat), .int .u64 (x.l : Nat)] 135) = w2 at OX BX ⊢
      generalize wr.heap.size = rx at OX ⊢
      clear g0 g1 g2 HB
      refine (nodeMark_any x _).mono ?_
      rintro e w3 ⟨rfl, hb3⟩
      have OX3 := Lib.hid (OX.out.below hb3)
      have B3 : Hid (Below w1.heap.size w1 w3) := BX.out.trans (hb3.mono BX.out.size)
      clear hb3 OX BX
      have OC3 := Lib.hid (OC.out.below B3.out)
      have R3 := Lib.hid ((H.out.below BW.out).below B3.out)
      go_upto_region 7 with fail
      go_cut [74] (fun bv wx => bv = .bool (!okI Mk.n (fun _ => true) cf self L k) ∧ Hid (Below w3.heap.size w3 wx))
      case first =>
        have HOK : Hid (okI Mk.n (fun _ => true) cf self L k = voterF cf self (prevN Mk.n L k) x.n) := by unfold okI; rw [HXX.out]; exact Bool.and_true _
        have o4 := OC3.out.cell 0 rfl
        obtain ⟨p0, p1, p2⟩ := OX3.out.all3
        by_cases m1 : x.n < 0
        case pos =>
          have HV := Lib.hid (voterF_not (f := cf) (self := self) (ahead := prevN Mk.n L k) (node := x.n) (by omega))
          go_wp2_with fail
          go_meet
          exact ⟨by rw [HOK.out, HV.out]; exact rfl, Below.refl _ _⟩
        by_cases m2 : 2 * cf < x.n
        case pos =>
          have HV := Lib.hid (voterF_not (f := cf) (self := self) (ahead := prevN Mk.n L k) (node := x.n) (by omega))
          go_wp2_with fail
          go_meet
          exact ⟨by rw [HOK.out, HV.out]; exact rfl, Below.refl _ _⟩
        by_cases m3 : x.n = self
        case pos =>
          have HV := Lib.hid (voterF_not (f := cf) (self := self) (ahead := prevN Mk.n L k) (node := x.n) (by omega))
          subst m3
          go_wp2_with fail
          go_meet
          exact ⟨by rw [HOK.out, HV.out]; exact rfl, Below.refl _ _⟩
        have d3 : (x.n == self) = false := beq_eq_false_iff_ne.2 m3
        have M3 := Lib.hid m3
        have M1 := Lib.hid m1
        have M2 := Lib.hid m2
        clear m3
        by_cases m4 : k = 0
        case pos =>
          subst m4
          have HV : Hid (voterF cf self (prevN Mk.n L 0) x.n = true) := (voterF_iff _ _ _ _).2 ⟨by unfold prevN; rw [if_pos rfl]; have := M1.out; omega, by have := M1.out; omega, by have := M2.out; omega, M3.out⟩
          go_wp2_with fail
          refine (mayMark_any x _).mono ?_
          rintro e w5 ⟨rfl, hb5⟩
          have B5 := Lib.hid hb5
          clear hb5 p0 p1 p2
          go_wp2_with fail
          go_meet
          exact ⟨by rw [HOK.out, HV.out]; exact rfl, B5.out⟩
        obtain ⟨p, hp⟩ : ∃ p, L[k - 1]? = some p := ⟨_, List.getElem?_eq_getElem (by have := HL.out; have := HKN.out; omega)⟩
        have HPN : Hid (prevN Mk.n L k = p.n) := by unfold prevN; rw [if_neg m4, hp]; exact rfl
        obtain ⟨al', e, q0, q1, q2⟩ := R3.out.atMk hp
        cases e
        have k0 : (0 : Int) < (k : Int) := by omega
        have e1 : IntKind.i64.wrap ((k : Int) - 1) = (k : Int) - 1 := by rw [IntKind.wrap_i64]; omega
        have e2 : ((k : Int) - 1).toNat = k - 1 := by omega
        have e3 : (0 : Int) ≤ (k : Int) - 1 := by omega
        have e4 : (k : Int) - 1 < (n : Int) := by omega
        have K0 := Lib.hid m4
        clear hp m4
        have hmn := mMark_node
        go_wp2_with fail
        clear hmn
        refine (nodeMark_any p _).mono ?_
        rintro e w5 ⟨rfl, hb5⟩
        have B5 := Lib.hid hb5
        have OX5 := Lib.hid (OX3.out.below hb5)
        clear hb5 p0 p1 p2 q0 q1 q2 o4 e1 e2 e3 e4
        obtain ⟨p0, p1, p2⟩ := OX5.out.all3
        by_cases m5 : x.n ≤ p.n
        case pos =>
          have HV : Hid (voterF cf self (prevN Mk.n L k) x.n = false) := voterF_not (by rw [HPN.out]; omega)
          go_wp2_with fail
          go_meet
          exact ⟨by rw [HOK.out, HV.out]; exact rfl, B5.out⟩
        case neg =>
          have d5 : decide (x.n ≤ p.n) = false := decide_eq_false m5
          have HV : Hid (voterF cf self (prevN Mk.n L k) x.n = true) := (voterF_iff _ _ _ _).2 ⟨by rw [HPN.out]; omega, by have := M1.out; omega, by have := M2.out; omega, M3.out⟩
          go_wp2_with fail
          refine (mayMark_any x _).mono ?_
          rintro e w6 ⟨rfl, hb6⟩
          have B6 := Lib.hid (B5.out.trans (hb6.mono B5.out.size))
          clear hb6 p0 p1 p2
          go_wp2_with fail
          go_meet
          exact ⟨by rw [HOK.out, HV.out]; exact rfl, B6.out⟩
      case rest =>
        obtain ⟨rfl, HC⟩ := hcut
        have B4 : Hid (Below w1.heap.size w1 wc) := B3.out.trans (HC.out.mono B3.out.size)
        have hk2 : (k : Int) + 1 ≤ 6000000000001 := by have := HKN.out; omega
        clear HC OX3 B3 OC3 R3
        obtain ⟨nb, hnb⟩ : ∃ nb, (!okI Mk.n (fun _ => true) cf self L k) = nb := ⟨_, rfl⟩
        rw [hnb]
        cases nb with
        | true =>
          have HE : Hid (R = 80) := by rw [← HR.out]; exact chkR_one (i := k) HG.out (by have := HKN.out; have := HL.out; omega) (by simpa using hnb)
          clear hnb
          go_wp2_with fail
          go_ret
          exact ⟨by rw [HE.out]; exact rfl, BW.out.trans (B4.out.mono BW.out.size)⟩
        | false =>
          have HE := Lib.hid (show okI Mk.n (fun _ => true) cf self L k = true by simpa using hnb)
          clear hnb
          go_wp2_with fail
          go_roundw
          case rel => exact ⟨k + 1, HKN.out, by go_num, B4.out, fun i hi => by
            by_cases e : i = k
            · rw [e]; exact HE.out
            · exact HO.out i (by omega)⟩
          case measure => have := HKN.out; simp [intOf]; omega
    · obtain rfl : n = k := by omega
      have hki : ¬ (n : Int) < (n : Int) := by omega
      have HE : Hid (R = 0) := by rw [← HR.out]; exact chkR_all HG.out fun i hi => HO.out i (by have := HL.out; omega)
      clear hkn hk
      go_wp2_with fail
      go_ret
      exact ⟨by rw [HE.out]; exact rfl, BW.out.trans (HB.out.mono BW.out.size)⟩
end Go.Proofs.Ytjjobgolpedgeaa
set_option linter.unusedVariables false
set_option linter.unusedSimpArgs false
namespace Go.Proofs.Ytjjobgolpedgeaa
open Go.RowKit

def Ak.may (r : Int) (x : Ak) : Bool := decide (0 ≤ x.p) && decide (x.p ≤ r)
set_option maxHeartbeats 4000000 in
theorem mayAck_any (x : Ak) (cf cr cpp : Int) (cu : Bool) (rc : Nat) (w : World) (h : Ob w rc [.int .i64 cf, .int .i64 cr, .int .i64 cpp, .bool cu]) : Calls Try.prog 122 #[x.agg, .pointer (some ⟨rc, 0, none⟩)] w fun e w' => e = .returned (.bool (x.may cr)) ∧ Below w.heap.size w w' := by
  obtain ⟨p0, p1, p2, p3⟩ := h.all4
  have z := h.lt (by simp)
  have z' : Hid (rc < w.heap.size) := z
  obtain ⟨n, hh, l, p⟩ := x
  by_cases h0 : 0 ≤ p
  · by_cases h1 : p ≤ cr
    · have e : Ak.may cr ⟨n, hh, l, p⟩ = true := by unfold Ak.may; rw [decide_eq_true h0, decide_eq_true h1]; rfl
      rw [e]
      clear e
      clear h
      go_enter Try.func122, Try.ntmps122
      go_wp2
      go_ret
      exact ⟨rfl, by go_grown⟩
    · have e : Ak.may cr ⟨n, hh, l, p⟩ = false := by unfold Ak.may; rw [decide_eq_false h1, Bool.and_false]
      rw [e]
      clear e
      clear h
      go_enter Try.func122, Try.ntmps122
      go_wp2
      go_ret
      exact ⟨rfl, by go_grown⟩
  · have e : Ak.may cr ⟨n, hh, l, p⟩ = false := by unfold Ak.may; rw [decide_eq_false h0, Bool.false_and]
    rw [e]
    clear e
    clear h
    go_enter Try.func122, Try.ntmps122
    go_wp2
    go_ret
    exact ⟨rfl, by go_grown⟩
set_option maxHeartbeats 16000000 in
set_option maxRecDepth 100000 in
theorem checkAck_any (c : Cg) (rc : Nat) (self : Int) (A : Option Addr) (n cp : Nat) (L : List Ak) (w : World) (h : RdC 4 Ak.cells w A n L) (hsm : n * 32 ≤ 140737488355328) (hrc : Ob w rc [.int .i64 c.f, .int .i64 c.r, .int .i64 c.p, .bool c.u]) :
    Calls Try.prog 121 #[c.agg, .int .i64 self, .slice A n cp, .func (.func 122) #[] #[.pointer (some ⟨rc, 0, none⟩)]] w fun e w' => e = .returned (.int .i64 (chkR Ak.n (Ak.may c.r) c self L)) ∧ Below w.heap.size w w' := by
  obtain ⟨cf, cr, cpp, cu⟩ := c
  by_cases h1 : cf < 1
  · rw [chkR_bad (show Cg.bad ⟨cf, cr, cpp, cu⟩ from .inl h1)]
    go_enter Try.func121, Try.ntmps121
    go_wp2
    go_ret
    exact ⟨rfl, by go_grown⟩
  by_cases h2 : 3 < cf
  · rw [chkR_bad (show Cg.bad ⟨cf, cr, cpp, cu⟩ from .inr (.inl h2))]
    go_enter Try.func121, Try.ntmps121
    go_wp2
    go_ret
    exact ⟨rfl, by go_grown⟩
  by_cases h3 : cr < 1
  · rw [chkR_bad (show Cg.bad ⟨cf, cr, cpp, cu⟩ from .inr (.inr (.inl h3)))]
    go_enter Try.func121, Try.ntmps121
    go_wp2
    go_ret
    exact ⟨rfl, by go_grown⟩
  by_cases h4 : 256 < cr
  · rw [chkR_bad (show Cg.bad ⟨cf, cr, cpp, cu⟩ from .inr (.inr (.inr h4)))]
    go_enter Try.func121, Try.ntmps121
    go_wp2
    go_ret
    exact ⟨rfl, by go_grown⟩
  have HG : Hid (¬ Cg.bad ⟨cf, cr, cpp, cu⟩) := fun h => by unfold Cg.bad at h; simp only at h; omega
  have HRC : Hid (Ob w rc [.int .i64 cf, .int .i64 cr, .int .i64 cpp, .bool cu]) := hrc
  clear hrc
  have H := Lib.hid h
  have HL := Lib.hid h.len
  have hn : (n : Int) ≤ 6000000000000 := by omega
  clear h hsm
  obtain ⟨R, hR⟩ : ∃ R, chkR Ak.n (Ak.may cr) ⟨cf, cr, cpp, cu⟩ self L = R := ⟨_, rfl⟩
  have HR := Lib.hid hR
  rw [hR]
  clear hR
  go_enter Try.func121, Try.ntmps121
  go_wp2_with fail
  have OC := Lib.hid (Ob.fresh w #[.int .i64 cf, .int .i64 cr, .int .i64 cpp, .bool cu] 70)
  have BW : Hid (Below w.heap.size w (w.alloc (.cells #[.int .i64 cf, .int .i64 cr, .int .i64 cpp, .bool cu] 70))) := below_al _ _
  generalize w.alloc (.cells #[.int .i64 cf, .int .i64 cr, .int .i64 cpp, .bool cu] 70) = w1 at OC BW ⊢
  obtain ⟨r4, hr4⟩ : ∃ r, w.heap.size = r := ⟨_, rfl⟩
  rw [hr4] at OC ⊢
  clear hr4
  go_loopw [32] (fun iv wr => ∃ (k : Nat), k ≤ n ∧ iv = .int .i64 k ∧ Hid (Below w1.heap.size w1 wr) ∧ Hid (∀ i, i < k → okI Ak.n (Ak.may cr) cf self L i = true)) (fun iv _ => n - (intOf iv).toNat)
  case atStart => exact ⟨0, by omega, rfl, Below.refl _ _, fun i hi => by omega⟩
  case round =>
    obtain ⟨k, hk, rfl, HB, HO⟩ := hrel
    by_cases hkn : k < n
    · obtain ⟨x, hx⟩ : ∃ x, L[k]? = some x := ⟨_, List.getElem?_eq_getElem (by have := HL.out; omega)⟩
      obtain ⟨al, rfl, g0, g1, g2, g3⟩ := ((H.out.below BW.out).below HB.out).atAk hx
      have o4 := (OC.out.below HB.out).cell 0 rfl
      have z4 := World.block_lt_of_cell? wr _ o4
      have hki : (k : Int) < (n : Int) := by omega
      have HKN := Lib.hid hkn
      have HXX := Lib.hid hx
      clear hx hkn hk
      have hmn := mAck_node
      go_wp2_with fail
      clear hmn o4 z4
      have OX := Lib.hid (Ob.fresh wr #[.int .i64 x.n, .int .u64 (x.h : Nat), .int .u64 (x.l : Nat), .int .i64 x.p] 116)
      have BX : Hid (Below w1.heap.size w1 (wr.alloc (.cells #[.int .i64 x.n, .int .u64 (x.h : Nat), .int .u64 (x.l : Nat), .int .i64 x.p] 116))) := HB.out.alloc HB.out.size _
      generalize wr.alloc (.cells #[.int .i64 x.n, .int .u64 (x.h : Nat), .int .u64 (x.l : Nat), .int .i64 x.p] 116) = w2 at OX BX ⊢
      generalize wr.heap.size = rx at OX ⊢
      clear g0 g1 g2 g3 HB
      refine (nodeAck_any x _).mono ?_
      rintro e w3 ⟨rfl, hb3⟩
      have OX3 := Lib.hid (OX.out.below hb3)
      have B3 : Hid (Below w1.heap.size w1 w3) := BX.out.trans (hb3.mono BX.out.size)
      clear hb3 OX BX
      have OC3 := Lib.hid (OC.out.below B3.out)
      have R3 := Lib.hid ((H.out.below BW.out).below B3.out)
      go_upto_region 7 with fail
      go_cut [74] (fun bv wx => bv = .bool (!okI Ak.n (Ak.may cr) cf self L k) ∧ Hid (Below w3.heap.size w3 wx))
      case first =>
        obtain ⟨mb, hmb⟩ : ∃ mb, x.may cr = mb := ⟨_, rfl⟩
        have FM : Hid (∀ y, Below w3.heap.size w3 y → Calls Try.prog 122 #[x.agg, .pointer (some ⟨rc, 0, none⟩)] y fun e w' => e = .returned (.bool mb) ∧ Below y.heap.size y w') := fun y hy => hmb ▸ mayAck_any x cf cr cpp cu rc y (((HRC.out.below BW.out).below B3.out).below hy)
        have HOK : Hid (okI Ak.n (Ak.may cr) cf self L k = (voterF cf self (prevN Ak.n L k) x.n && mb)) := by unfold okI; rw [HXX.out, ← hmb]; exact rfl
        clear hmb
        have o4 := OC3.out.cell 0 rfl
        obtain ⟨p0, p1, p2, p3⟩ := OX3.out.all4
        by_cases m1 : x.n < 0
        case pos =>
          have HV := Lib.hid (voterF_not (f := cf) (self := self) (ahead := prevN Ak.n L k) (node := x.n) (by omega))
          go_wp2_with fail
          go_meet
          exact ⟨by rw [HOK.out, HV.out]; exact rfl, Below.refl _ _⟩
        by_cases m2 : 2 * cf < x.n
        case pos =>
          have HV := Lib.hid (voterF_not (f := cf) (self := self) (ahead := prevN Ak.n L k) (node := x.n) (by omega))
          go_wp2_with fail
          go_meet
          exact ⟨by rw [HOK.out, HV.out]; exact rfl, Below.refl _ _⟩
        by_cases m3 : x.n = self
        case pos =>
          have HV := Lib.hid (voterF_not (f := cf) (self := self) (ahead := prevN Ak.n L k) (node := x.n) (by omega))
          subst m3
          go_wp2_with fail
          go_meet
          exact ⟨by rw [HOK.out, HV.out]; exact rfl, Below.refl _ _⟩
        have d3 : (x.n == self) = false := beq_eq_false_iff_ne.2 m3
        have M3 := Lib.hid m3
        have M1 := Lib.hid m1
        have M2 := Lib.hid m2
        clear m3
        by_cases m4 : k = 0
        case pos =>
          subst m4
          have HV : Hid (voterF cf self (prevN Ak.n L 0) x.n = true) := (voterF_iff _ _ _ _).2 ⟨by unfold prevN; rw [if_pos rfl]; have := M1.out; omega, by have := M1.out; omega, by have := M2.out; omega, M3.out⟩
          go_wp2_with fail
          refine (FM.out _ (Below.refl _ _)).mono ?_
          rintro e w5 ⟨rfl, hb5⟩
          have B5 := Lib.hid hb5
          clear hb5 p0 p1 p2 p3
          cases mb
          all_goals (go_wp2_with fail)
          all_goals go_meet
          all_goals (exact ⟨by rw [HOK.out, HV.out]; exact rfl, B5.out⟩)
        obtain ⟨p, hp⟩ : ∃ p, L[k - 1]? = some p := ⟨_, List.getElem?_eq_getElem (by have := HL.out; have := HKN.out; omega)⟩
        have HPN : Hid (prevN Ak.n L k = p.n) := by unfold prevN; rw [if_neg m4, hp]; exact rfl
        obtain ⟨al', e, q0, q1, q2, q3⟩ := R3.out.atAk hp
        cases e
        have k0 : (0 : Int) < (k : Int) := by omega
        have e1 : IntKind.i64.wrap ((k : Int) - 1) = (k : Int) - 1 := by rw [IntKind.wrap_i64]; omega
        have e2 : ((k : Int) - 1).toNat = k - 1 := by omega
        have e3 : (0 : Int) ≤ (k : Int) - 1 := by omega
        have e4 : (k : Int) - 1 < (n : Int) := by omega
        have K0 := Lib.hid m4
        clear hp m4
        have hmn := mAck_node
        go_wp2_with fail
        clear hmn
        refine (nodeAck_any p _).mono ?_
        rintro e w5 ⟨rfl, hb5⟩
        have B5 := Lib.hid hb5
        have OX5 := Lib.hid (OX3.out.below hb5)
        clear hb5 p0 p1 p2 p3 q0 q1 q2 q3 o4 e1 e2 e3 e4
        obtain ⟨p0, p1, p2, p3⟩ := OX5.out.all4
        by_cases m5 : x.n ≤ p.n
        case pos =>
          have HV : Hid (voterF cf self (prevN Ak.n L k) x.n = false) := voterF_not (by rw [HPN.out]; omega)
          go_wp2_with fail
          go_meet
          exact ⟨by rw [HOK.out, HV.out]; exact rfl, B5.out⟩
        case neg =>
          have d5 : decide (x.n ≤ p.n) = false := decide_eq_false m5
          have HV : Hid (voterF cf self (prevN Ak.n L k) x.n = true) := (voterF_iff _ _ _ _).2 ⟨by rw [HPN.out]; omega, by have := M1.out; omega, by have := M2.out; omega, M3.out⟩
          go_wp2_with fail
          refine (FM.out _ B5.out).mono ?_
          rintro e w6 ⟨rfl, hb6⟩
          have B6 := Lib.hid (B5.out.trans (hb6.mono B5.out.size))
          clear hb6 p0 p1 p2 p3
          cases mb
          all_goals (go_wp2_with fail)
          all_goals go_meet
          all_goals (exact ⟨by rw [HOK.out, HV.out]; exact rfl, B6.out⟩)
      case rest =>
        obtain ⟨rfl, HC⟩ := hcut
        have B4 : Hid (Below w1.heap.size w1 wc) := B3.out.trans (HC.out.mono B3.out.size)
        have hk2 : (k : Int) + 1 ≤ 6000000000001 := by have := HKN.out; omega
        clear HC OX3 B3 OC3 R3
        obtain ⟨nb, hnb⟩ : ∃ nb, (!okI Ak.n (Ak.may cr) cf self L k) = nb := ⟨_, rfl⟩
        rw [hnb]
        cases nb with
        | true =>
          have HE : Hid (R = 80) := by rw [← HR.out]; exact chkR_one (i := k) HG.out (by have := HKN.out; have := HL.out; omega) (by simpa using hnb)
          clear hnb
          go_wp2_with fail
          go_ret
          exact ⟨by rw [HE.out]; exact rfl, BW.out.trans (B4.out.mono BW.out.size)⟩
        | false =>
          have HE := Lib.hid (show okI Ak.n (Ak.may cr) cf self L k = true by simpa using hnb)
          clear hnb
          go_wp2_with fail
          go_roundw
          case rel => exact ⟨k + 1, HKN.out, by go_num, B4.out, fun i hi => by
            by_cases e : i = k
            · rw [e]; exact HE.out
            · exact HO.out i (by omega)⟩
          case measure => have := HKN.out; simp [intOf]; omega
    · obtain rfl : n = k := by omega
      have hki : ¬ (n : Int) < (n : Int) := by omega
      have HE : Hid (R = 0) := by rw [← HR.out]; exact chkR_all HG.out fun i hi => HO.out i (by have := HL.out; omega)
      clear hkn hk
      go_wp2_with fail
      go_ret
      exact ⟨by rw [HE.out]; exact rfl, BW.out.trans (HB.out.mono BW.out.size)⟩
end Go.Proofs.Ytjjobgolpedgeaa
set_option linter.unusedVariables false
set_option linter.unusedSimpArgs false
namespace Go.Proofs.Ytjjobgolpedgeaa
open Go.RowKit

def lgdF (r : Int) (L : List Et) (c : Int) : Bool := decide (chkL L r = 0) && (decide (0 ≤ c) && decide (c ≤ (L.length : Int)))
def Lt.may (r : Int) (x : Lt) : Bool := decide (0 ≤ x.v) && (decide (x.v ≤ 4294967296) && lgdF r x.log x.c)
def Lt.mayA (f r : Int) (x : Lt) : Bool := Lt.may r x && (decide (x.log.length = 0) || decide (x.n = x.v.tmod (2 * f + 1)))
theorem nodeBallot_l (x : Lt) (B : Option Addr) (k : Nat) (w : World) : Calls Try.prog 185 #[x.agg B k] w fun e w' => e = .returned (.int .i64 x.n) ∧ Below w.heap.size w w' := nodeBallot_any (x.raw B k) w
theorem nodeAnswer_l (x : Lt) (B : Option Addr) (k : Nat) (w : World) : Calls Try.prog 177 #[x.agg B k] w fun e w' => e = .returned (.int .i64 x.n) ∧ Below w.heap.size w w' := nodeAnswer_any (x.raw B k) w
theorem oplogCheck_l (A : Option Addr) (k : Nat) (L : List Et) (room : Int) (w : World) (h : OkL w A k L) (hw : ∀ y ∈ L, (Lit.int .i64 y.n).wf = true) :
    Calls Try.prog 147 #[.slice A L.length k, .int .i64 room] w fun e w' => (∃ p, e = .returned (.tuple #[.int .i64 (chkL L room), .int .i64 p])) ∧ Below w.heap.size w w' := by
  have e : (L.pmap (fun x hx => (⟨x, hx⟩ : EtW)) hw).map (·.1) = L := by rw [List.map_pmap]; simp
  have := oplogCheck_any A L.length k (L.pmap (fun x hx => (⟨x, hx⟩ : EtW)) hw) room w (by rw [e]; exact h.rd) h.non h.small
  rw [e] at this
  exact this
set_option maxHeartbeats 4000000 in
theorem logged_any (cf cr cpp : Int) (cu : Bool) (A : Option Addr) (k : Nat) (L : List Et) (cm : Int) (w : World) (h : OkL w A k L) (hw : ∀ y ∈ L, (Lit.int .i64 y.n).wf = true) :
    Calls Try.prog 126 #[.agg #[.int .i64 cf, .int .i64 cr, .int .i64 cpp, .bool cu], .slice A L.length k, .int .i64 cm] w fun e w' => e = .returned (.bool (lgdF cr L cm)) ∧ Below w.heap.size w w' := by
  have H := Lib.hid h
  have HW := Lib.hid hw
  obtain ⟨z, hz⟩ : ∃ z, chkL L cr = z := ⟨_, rfl⟩
  obtain ⟨R, hR⟩ : ∃ R, lgdF cr L cm = R := ⟨_, rfl⟩
  have HZ : Hid (R = (decide (z = 0) && (decide (0 ≤ cm) && decide (cm ≤ (L.length : Int))))) := by rw [← hR]; unfold lgdF; rw [hz]; exact rfl
  rw [hR]
  have F := Lib.hid (fun y (hy : Below w.heap.size w y) => (oplogCheck_l A k L cr y (h.below hy) hw).mono (fun e w' (q : (∃ p, e = .returned (.tuple #[.int .i64 (chkL L cr), .int .i64 p])) ∧ Below y.heap.size y w') => show (∃ p, e = .returned (.tuple #[.int .i64 z, .int .i64 p])) ∧ Below y.heap.size y w' from hz ▸ q))
  have hn : (L.length : Int) ≤ 6000000000000 := by have := h.small; omega
  obtain ⟨n, hln⟩ : ∃ n, L.length = n := ⟨_, rfl⟩
  rw [hln] at F hn ⊢
  rw [hln] at HZ
  clear h hw hz H hln hR
  go_enter Try.func126, Try.ntmps126
  go_wp2_with fail
  refine (F.out _ (below_al _ _)).mono ?_
  rintro e w2 ⟨⟨p, rfl⟩, hb2⟩
  have B2 : Hid (Below w.heap.size w w2) := (below_al _ _).trans (hb2.mono (by simp))
  clear hb2
  by_cases h0 : z = 0
  · subst h0
    by_cases h1 : 0 ≤ cm
    · by_cases h2 : cm ≤ (n : Int)
      · have HE : Hid (R = true) := by rw [HZ.out, decide_eq_true h1, decide_eq_true h2]; rfl
        go_wp2_with fail
        go_ret
        exact ⟨by rw [HE.out]; exact rfl, B2.out⟩
      · have HE : Hid (R = false) := by rw [HZ.out, decide_eq_false h2, Bool.and_false, Bool.and_false]; exact rfl
        have HD2 := Lib.hid (decide_eq_false h2)
        go_wp2_with fail
        go_ret
        exact ⟨by rw [HE.out, ← HD2.out]; exact rfl, B2.out⟩
    · have HE : Hid (R = false) := by rw [HZ.out, decide_eq_false h1, Bool.false_and, Bool.and_false]; exact rfl
      go_wp2_with fail
      go_ret
      exact ⟨by rw [HE.out]; exact rfl, B2.out⟩
  · have HE : Hid (R = false) := by rw [HZ.out, decide_eq_false h0, Bool.false_and]; exact rfl
    have b0 : (z == 0) = false := beq_eq_false_iff_ne.2 h0
    go_wp2_with fail
    go_ret
    exact ⟨by rw [HE.out]; exact rfl, B2.out⟩
set_option maxHeartbeats 4000000 in
theorem mayBallot_any (x : Lt) (A : Option Addr) (k : Nat) (cf cr cpp : Int) (cu : Bool) (rc : Nat) (w : World) (h : Ob w rc [.int .i64 cf, .int .i64 cr, .int .i64 cpp, .bool cu]) (hl : OkL w A k x.log) (hw : ∀ y ∈ x.log, (Lit.int .i64 y.n).wf = true) :
    Calls Try.prog 133 #[x.agg A k, .pointer (some ⟨rc, 0, none⟩)] w fun e w' => e = .returned (.bool (Lt.may cr x)) ∧ Below w.heap.size w w' := by
  obtain ⟨n, hh, l, v, c, log⟩ := x
  have HO := Lib.hid h
  obtain ⟨lb, hlb⟩ : ∃ lb, lgdF cr log c = lb := ⟨_, rfl⟩
  have HR : Hid (Lt.may cr ⟨n, hh, l, v, c, log⟩ = (decide (0 ≤ v) && (decide (v ≤ 4294967296) && lb))) := by unfold Lt.may; rw [hlb]; exact rfl
  rw [HR.out]
  have F := Lib.hid (fun y (hy : Below w.heap.size w y) => (logged_any cf cr cpp cu A k log c y (hl.below hy) hw).mono (fun e w' (q : e = .returned (.bool (lgdF cr log c)) ∧ Below y.heap.size y w') => show e = .returned (.bool lb) ∧ Below y.heap.size y w' from hlb ▸ q))
  have hn : (log.length : Int) ≤ 6000000000000 := by have := hl.small; simp only at this; omega
  simp only [Lt.agg]
  obtain ⟨m, hm⟩ : ∃ m, log.length = m := ⟨_, rfl⟩
  rw [hm] at F hn ⊢
  obtain ⟨p0, p1, p2, p3⟩ := h.all4
  have z' : Hid (rc < w.heap.size) := h.lt (by simp)
  have zz := z'.out
  clear h hl hw hlb HR hm
  by_cases h0 : 0 ≤ v
  · by_cases h1 : v ≤ 4294967296
    · rw [decide_eq_true h0, decide_eq_true h1]
      go_enter Try.func133, Try.ntmps133
      go_wp2_with fail
      refine (F.out _ (below_al _ _)).mono ?_
      rintro e w2 ⟨rfl, hb2⟩
      have B2 : Hid (Below w.heap.size w w2) := (below_al _ _).trans (hb2.mono (by simp))
      clear hb2
      go_wp2_with fail
      go_ret
      exact ⟨rfl, B2.out⟩
    · rw [decide_eq_false h1]
      go_enter Try.func133, Try.ntmps133
      go_wp2
      go_ret
      exact ⟨by first | rfl | simp, by go_grown⟩
  · rw [decide_eq_false h0]
    go_enter Try.func133, Try.ntmps133
    go_wp2
    go_ret
    exact ⟨by first | rfl | simp, by go_grown⟩
end Go.Proofs.Ytjjobgolpedgeaa
set_option linter.unusedVariables false
set_option linter.unusedSimpArgs false
namespace Go.Proofs.Ytjjobgolpedgeaa
open Go.RowKit

/-- a list of votes of its own is returned, its room told -/
def RetW (W : World) (V : List Lt) (e : Ending) (w' : World) : Prop :=
  ∃ A c, e = .returned (.slice A V.length c) ∧ V.length ≤ c ∧ Below W.heap.size W w' ∧ RdV w' A V.length V
theorem own_room {w : World} {B : Nat} {e : TypeId} {size n c m : Nat} {A : Option Addr} {xs : List Value} (h : w.ownsRow B e size (.slice A n c) m xs) : n ≤ c := by
  rcases h.2 with ⟨hv, h0⟩ | ⟨g, cap, cur, hv, _, _, h1, _⟩
  · cases hv; exact Nat.le_refl _
  · cases hv; exact h1
theorem retW_of {T : TypeId} {lg : Bt → List Et} {W : World} {M : List Bt} {e : Ending} {w' : World} (h : RetB T lg W M e w') (ho : ∀ r ∈ M, LgOk lg W r) : RetW W (M.map (Bt.abs lg)) e w' := by
  have h1 := retV_of h ho
  obtain ⟨A, c, R, he, hb, hown, hc⟩ := h
  obtain ⟨A', c', e2, hb', hr⟩ := h1
  rw [he] at e2
  injection e2 with e2
  injection e2 with e1 e2 e3
  subst e1 e3
  exact ⟨A, c, by rw [he, List.length_map], by rw [List.length_map]; exact own_room hown, hb', hr⟩
theorem putBallot_w (A : Option Addr) (n c : Nat) (V : List Lt) (x : Lt) (B : Option Addr) (k : Nat) (w : World) (h : RdV w A n V) (hx : OkL w B k x.log) (hsm : (n + 2) * 64 ≤ 140737488355328) :
    Calls Try.prog 28 #[.slice A n c, x.agg B k] w (RetW w (putF Lt.n Lt.wins V x)) := by
  obtain ⟨R, h1, h2, h3⟩ := h.raws
  obtain ⟨o1, o2⟩ := hx.ok
  have ho : ∀ r, r = x.raw B k ∨ r ∈ R → LgOk (lgAt w) w r := fun r hr => hr.elim (fun e => e ▸ o1) (h2 r)
  refine (putBallot_fn A n c R (x.raw B k) (lgAt w) w h1 ho hsm).mono fun e w' h => ?_
  have := retW_of h (fun r hr => ho r (putF_mem hr))
  rw [putF_map (nodeA := Bt.n) (nodeB := Lt.n) (winsB := Lt.wins) (fun _ => rfl) (wins_abs w), h3, o2] at this
  exact this
theorem putAnswer_w (A : Option Addr) (n c : Nat) (V : List Lt) (x : Lt) (B : Option Addr) (k : Nat) (w : World) (h : RdV w A n V) (hx : OkL w B k x.log) (hsm : (n + 2) * 64 ≤ 140737488355328) :
    Calls Try.prog 23 #[.slice A n c, x.agg B k] w (RetW w (putF Lt.n Lt.wins V x)) := by
  obtain ⟨R, h1, h2, h3⟩ := h.raws
  obtain ⟨o1, o2⟩ := hx.ok
  have ho : ∀ r, r = x.raw B k ∨ r ∈ R → LgOk (lgAt w) w r := fun r hr => hr.elim (fun e => e ▸ o1) (h2 r)
  refine (putAnswer_fn A n c R (x.raw B k) (lgAt w) w h1 ho hsm).mono fun e w' h => ?_
  have := retW_of h (fun r hr => ho r (putF_mem hr))
  rw [putF_map (nodeA := Bt.n) (nodeB := Lt.n) (winsB := Lt.wins) (fun _ => rfl) (wins_abs w), h3, o2] at this
  exact this
/-- a list of one, made anew -/
theorem rdV_one {w : World} {x : Lt} {B : Option Addr} {k : Nat} (h : OkL w B k x.log) (t : TypeId) : RdV (w.alloc (.cells #[.int .i64 x.n, .int .u64 (x.h : Nat), .int .u64 (x.l : Nat), .int .i64 x.v, .int .i64 x.c, .slice B x.log.length k] t)) (some ⟨w.heap.size, 0, none⟩) 1 [x] := by
  refine ⟨[x.raw B k], ⟨rfl, by omega, fun j y hj => ⟨_, rfl, fun i u hu => ?_⟩⟩, rfl, fun i y hy => ?_⟩
  · have hj0 : j = 0 := by have := (List.getElem?_eq_some_iff.1 hj).1; simp at this; omega
    subst hj0
    simp at hj
    subst hj
    have := fresh_news w #[.int .i64 x.n, .int .u64 (x.h : Nat), .int .u64 (x.l : Nat), .int .i64 x.v, .int .i64 x.c, .slice B x.log.length k] t _ rfl i u hu
    rw [Nat.zero_mul, Nat.zero_add]
    exact this
  · have hi0 : i = 0 := by have := (List.getElem?_eq_some_iff.1 hy).1; simp at this; omega
    subst hi0
    simp at hy
    subst hy
    exact ⟨B, k, rfl, h.below ((Below.refl _ _).alloc (Nat.le_refl _) _)⟩
/-- one of a list, by itself -/
theorem RdV.sub {w : World} {ad : Addr} {n i : Nat} {V : List Lt} {x : Lt} (h : RdV w (some ad) n V) (hx : V[i]? = some x) : RdV w (some (ad.add (i * 6))) 1 [x] := by
  obtain ⟨R, h1, h2, h3⟩ := h
  obtain ⟨B, k, e, ho⟩ := h3 i x hx
  refine ⟨[x.raw B k], ⟨rfl, by omega, fun j y hj => ⟨_, rfl, fun q u hu => ?_⟩⟩, rfl, fun j y hy => ?_⟩
  · have hj0 : j = 0 := by have := (List.getElem?_eq_some_iff.1 hj).1; simp at this; omega
    subst hj0
    simp at hj
    subst hj
    obtain ⟨ad', ea, hc⟩ := h1.cell i _ e
    cases ea
    have := hc q u hu
    rw [Nat.zero_mul, Nat.zero_add, add_add]
    exact this
  · have hi0 : j = 0 := by have := (List.getElem?_eq_some_iff.1 hy).1; simp at this; omega
    subst hi0
    simp at hy
    subst hy
    exact ⟨B, k, rfl, ho⟩
theorem below_alloc (w : World) (o : Obj) : Below w.heap.size w (w.alloc o) := (Below.refl _ _).alloc (Nat.le_refl _) _
end Go.Proofs.Ytjjobgolpedgeaa
set_option linter.unusedVariables false
set_option linter.unusedSimpArgs false
namespace Go.Proofs.Ytjjobgolpedgeaa
open Go.RowKit

set_option maxHeartbeats 4000000 in
theorem whole_any (cf cr cpp : Int) (cu : Bool) (v : Int) (A : Option Addr) (k : Nat) (L : List Et) (cm : Int) (w : World) (h : OkL w A k L) (hc : L.length ≤ k) :
    Calls Try.prog 127 #[.agg #[.int .i64 cf, .int .i64 cr, .int .i64 cpp, .bool cu], .int .i64 v, .slice A L.length k, .int .i64 cm] w fun e w' => e = .returned (.bool (decide (0 ≤ v) && (decide (v ≤ 4294967296) && lgdF cr L cm))) ∧ Below w.heap.size w w' := by
  obtain ⟨z, hz⟩ : ∃ z, chkL L cr = z := ⟨_, rfl⟩
  obtain ⟨R, hR⟩ : ∃ R, (decide (0 ≤ v) && (decide (v ≤ 4294967296) && lgdF cr L cm)) = R := ⟨_, rfl⟩
  have F := Lib.hid (fun y (hy : Below w.heap.size w y) => (refOplog_any A L.length k L cr y (h.rd.below hy) hc).mono (fun e w' (q : (∃ p, e = .returned (.tuple #[.int .i64 (chkL L cr), .int .i64 p])) ∧ Below y.heap.size y w') => show (∃ p, e = .returned (.tuple #[.int .i64 z, .int .i64 p])) ∧ Below y.heap.size y w' from hz ▸ q))
  have HZ : Hid (R = (decide (0 ≤ v) && (decide (v ≤ 4294967296) && (decide (z = 0) && (decide (0 ≤ cm) && decide (cm ≤ (L.length : Int))))))) := by rw [← hR]; unfold lgdF; rw [hz]; exact rfl
  rw [hR]
  have hn : (L.length : Int) ≤ 6000000000000 := by have := h.small; omega
  obtain ⟨n, hln⟩ : ∃ n, L.length = n := ⟨_, rfl⟩
  rw [hln] at F hn HZ ⊢
  clear h hz hln hR hc
  go_enter Try.func127, Try.ntmps127
  go_wp2_with fail
  refine (F.out _ (below_al _ _)).mono ?_
  rintro e w2 ⟨⟨p, rfl⟩, hb2⟩
  have B2 : Hid (Below w.heap.size w w2) := (below_al _ _).trans (hb2.mono (by simp))
  clear hb2
  by_cases v0 : 0 ≤ v
  case neg =>
    have HE : Hid (R = false) := by rw [HZ.out, decide_eq_false v0, Bool.false_and]; exact rfl
    go_wp2_with fail
    go_ret
    exact ⟨by rw [HE.out]; exact rfl, B2.out⟩
  by_cases v1 : v ≤ 4294967296
  case neg =>
    have HE : Hid (R = false) := by rw [HZ.out, decide_eq_false v1, Bool.false_and, Bool.and_false]; exact rfl
    go_wp2_with fail
    go_ret
    exact ⟨by rw [HE.out]; exact rfl, B2.out⟩
  by_cases h0 : z = 0
  case neg =>
    have HE : Hid (R = false) := by rw [HZ.out, decide_eq_false h0, Bool.false_and, Bool.and_false, Bool.and_false]; exact rfl
    have b0 : (z == 0) = false := beq_eq_false_iff_ne.2 h0
    go_wp2_with fail
    go_ret
    exact ⟨by rw [HE.out]; exact rfl, B2.out⟩
  subst h0
  by_cases h1 : 0 ≤ cm
  case neg =>
    have HE : Hid (R = false) := by rw [HZ.out, decide_eq_false h1, Bool.false_and, Bool.and_false, Bool.and_false, Bool.and_false]; exact rfl
    go_wp2_with fail
    go_ret
    exact ⟨by rw [HE.out]; exact rfl, B2.out⟩
  have HE : Hid (R = decide (cm ≤ (n : Int))) := by rw [HZ.out, decide_eq_true v0, decide_eq_true v1, decide_eq_true h1]; rfl
  obtain ⟨bb, hbb⟩ : ∃ bb, decide (cm ≤ (n : Int)) = bb := ⟨_, rfl⟩
  rw [hbb] at HE
  go_wp2_with fail
  go_ret
  exact ⟨by rw [HE.out, ← hbb]; exact rfl, B2.out⟩
def moreF (a b c x y z : Int) : Bool := if a ≠ x then decide (x < a) else if b ≠ y then decide (y < b) else decide (z < c)
theorem more_any (a b c x y z : Int) (w : World) : Calls Try.prog 128 #[.int .i64 a, .int .i64 b, .int .i64 c, .int .i64 x, .int .i64 y, .int .i64 z] w fun e w' => e = .returned (.bool (moreF a b c x y z)) ∧ w = w' := by
  by_cases h0 : a = x
  · by_cases h1 : b = y
    · rw [show moreF a b c x y z = decide (z < c) by unfold moreF; rw [if_neg (by simpa using h0), if_neg (by simpa using h1)]]
      have d0 : (a == x) = true := beq_iff_eq.2 h0
      have d1 : (b == y) = true := beq_iff_eq.2 h1
      clear h0 h1
      go_enter Try.func128, Try.ntmps128
      go_wp2
      go_ret
      exact ⟨rfl, rfl⟩
    · rw [show moreF a b c x y z = decide (y < b) by unfold moreF; rw [if_neg (by simpa using h0), if_pos h1]]
      have d0 : (a == x) = true := beq_iff_eq.2 h0
      have d1 : (b == y) = false := beq_eq_false_iff_ne.2 h1
      clear h0 h1
      go_enter Try.func128, Try.ntmps128
      go_wp2
      go_ret
      exact ⟨rfl, rfl⟩
  · rw [show moreF a b c x y z = decide (x < a) by unfold moreF; rw [if_pos h0]]
    have d0 : (a == x) = false := beq_eq_false_iff_ne.2 h0
    clear h0
    go_enter Try.func128, Try.ntmps128
    go_wp2
    go_ret
    exact ⟨rfl, rfl⟩
set_option maxHeartbeats 1600000 in
theorem refCopy_any (A : Option Addr) (n c : Nat) (L : List Et) (w : World) (h : RdC 5 Et.cells w A n L) (hA : A = none → n = 0 ∧ c = 0) (hsm : n * 48 ≤ 140737488355328) :
    Calls Try.prog 131 #[.slice A n c] w fun e w' => ∃ A' c', e = .returned (.slice A' n c') ∧ Below w.heap.size w w' ∧ w'.ownsRow w.heap.size 156 5 (.slice A' n c') n (CL Et.cells L) := by
  have H := Lib.hid h
  have HL := Lib.hid h.len
  have HA := Lib.hid hA
  have HSM := Lib.hid hsm
  clear h hA hsm
  go_enter Try.func131, Try.ntmps131
  go_wp2_with (at_builtin; refine wpList_app rfl (.tmp 4) (.tmp 5) rfl eltEntry w.heap.size (.slice none 0 0) 0 [] rfl (World.ownsRow_nil _ _ _ _) A n c (CL Et.cells L) rfl (by rw [CL_len (size := 5) (fun _ => rfl), HL.out]) HA.out (rdc_news (size := 5) (cells := Et.cells) (by decide) (fun _ => rfl) H.out) (CL_one (cells := Et.cells) Et.one L) ?a3 ?a4 ?a5 ?_)
  case a3 => have := HSM.out; simp only [maxLen]; omega
  case a4 => have := HSM.out; omega
  case a5 => exact Nat.le_refl _
  intro A5 c5 w5 ho5 hg5 _
  have B5 : Hid (Below w.heap.size w w5) := ⟨hg5.os, hg5.tape, hg5.output, hg5.size, fun z hz => hg5.block z hz (fun e => by cases e)⟩
  have O5 : Hid (w5.ownsRow w.heap.size 156 5 (.slice A5 n c5) n (CL Et.cells L)) := ho5
  clear ho5 hg5
  go_wp2_with fail
  go_ret
  exact ⟨A5, c5, rfl, B5.out, O5.out⟩
end Go.Proofs.Ytjjobgolpedgeaa
set_option linter.unusedVariables false
set_option linter.unusedSimpArgs false
namespace Go.Proofs.Ytjjobgolpedgeaa
open Go.RowKit

set_option maxHeartbeats 8000000 in
set_option maxRecDepth 100000 in
theorem copyBallots_any (A : Option Addr) (n c : Nat) (L : List Bt) (lg : Bt → List Et) (w : World) (h : RdC 6 Bt.cells w A n L) (hlg : ∀ r, r ∈ L → LgOk lg w r) (hsm : (n + 2) * 64 ≤ 140737488355328) :
    Calls Try.prog 134 #[.slice A n c] w (RetB 53 lg w L) := by
  have H := Lib.hid h
  have HL := Lib.hid h.len
  have HSM := Lib.hid hsm
  have HLG := Lib.hid hlg
  have hn : (n : Int) ≤ 6000000000000 := by omega
  clear h hsm hlg
  go_enter Try.func134, Try.ntmps134
  go_wp2_with fail
  go_loopw [3, 4] (fun vv iv wr => ∃ (k : Nat) (A' : Option Addr) (c' : Nat) (R : List Bt), k ≤ n ∧ iv = .int .i64 k ∧ vv = .slice A' k c' ∧ Hid (Below w.heap.size w wr) ∧ Hid (wr.ownsRow w.heap.size 53 6 (.slice A' k c') k (CL Bt.cells R)) ∧ Hid (Cpy w.heap.size lg (RowB (.slice A' k c')) wr R (L.take k))) (fun _ iv _ => n - (intOf iv).toNat)
  case atStart => exact ⟨0, none, 0, [], by omega, rfl, rfl, Below.refl _ _, World.ownsRow_nil _ _ _ _, Cpy.nil _ _ _ _⟩
  case round =>
    obtain ⟨k, A', c', R, hk, rfl, rfl, HR, HO, HC⟩ := hrel
    by_cases hkn : k < n
    · obtain ⟨x, hx⟩ : ∃ x, L[k]? = some x := ⟨_, List.getElem?_eq_getElem (by have := HL.out; omega)⟩
      obtain ⟨ad, rfl, g0, g1, g2, g3, g4, g5⟩ := (H.out.below HR.out).atBt hx
      have hki : (k : Int) < (n : Int) := by omega
      have HKN := Lib.hid hkn
      have HXX := Lib.hid hx
      clear hx hkn hk
      go_wp2_with fail
      have OX := Lib.hid (Ob.fresh wr #[.int .i64 x.n, .int .u64 (x.h : Nat), .int .u64 (x.l : Nat), .int .i64 x.v, .int .i64 x.c, .slice x.A x.m x.k] 53)
      have BX : Hid (Below wr.heap.size wr (wr.alloc (.cells #[.int .i64 x.n, .int .u64 (x.h : Nat), .int .u64 (x.l : Nat), .int .i64 x.v, .int .i64 x.c, .slice x.A x.m x.k] 53))) := below_al _ _
      have HZ : Hid ((wr.alloc (.cells #[.int .i64 x.n, .int .u64 (x.h : Nat), .int .u64 (x.l : Nat), .int .i64 x.v, .int .i64 x.c, .slice x.A x.m x.k] 53)).heap.size = wr.heap.size + 1) := by simp [Hid]
      clear g0 g1 g2 g3 g4 g5
      generalize wr.alloc (.cells #[.int .i64 x.n, .int .u64 (x.h : Nat), .int .u64 (x.l : Nat), .int .i64 x.v, .int .i64 x.c, .slice x.A x.m x.k] 53) = w3 at OX BX HZ ⊢
      obtain ⟨r, hr⟩ : ∃ r, wr.heap.size = r := ⟨_, rfl⟩
      have HRR := Lib.hid hr
      rw [hr] at OX ⊢
      clear hr
      have HL0 := HLG.out _ (List.mem_of_getElem? HXX.out)
      refine (refCopy_any x.A x.m x.k (lg x) _ (HL0.1.below (HR.out.trans (BX.out.mono HR.out.size))) HL0.2.1 HL0.2.2).mono ?_
      rintro e w5 ⟨fA, fk, rfl, hb5, hof⟩
      clear HL0
      replace OX := Lib.hid (OX.out.below hb5)
      have B5 : Hid (Below wr.heap.size wr w5) := BX.out.trans (hb5.mono (by have := HZ.out; omega))
      have HOF := Lib.hid hof
      have z5 := OX.out.cell 5 rfl
      have f5 := OX.out.fr 5 (by simp)
      have zl := OX.out.lt (by simp)
      clear hof hb5 BX
      have OY := Lib.hid (OX.out.set 5 (by simp) (.slice fA x.m fk))
      have B6 : Hid (Below wr.heap.size wr (w5.setCell ⟨r, 5, none⟩ (.slice fA x.m fk))) := B5.out.setCell (by have := HRR.out; show _ ≤ r; omega) _
      have HOG : Hid ((w5.setCell ⟨r, 5, none⟩ (.slice fA x.m fk)).ownsRow wr.heap.size 156 5 (.slice fA x.m fk) x.m (CL Et.cells (lg x))) := own_mono (ownsRow_setCell_below HOF.out (by have := HZ.out; have := HRR.out; show r < _; omega) _) (by have := HZ.out; omega)
      have O6 : Hid ((w5.setCell ⟨r, 5, none⟩ (.slice fA x.m fk)).ownsRow w.heap.size 53 6 (.slice A' k c') k (CL Bt.cells R)) := own_kept HO.out B6.out
      have BB : Hid (Below w.heap.size w (w5.setCell ⟨r, 5, none⟩ (.slice fA x.m fk))) := HR.out.trans (B6.out.mono HR.out.size)
      go_upto_region 7 with fail
      generalize w5.setCell ⟨r, 5, none⟩ (.slice fA x.m fk) = x2 at OY B6 HOG O6 BB ⊢
      clear z5 f5 zl OX B5 HOF
      obtain ⟨q0, q1, q2, q3, q4, q5⟩ := OY.out.all6
      go_wp2_with (at_builtin; refine wpList_app rfl (.tmp 20) (.tmp 22) rfl eltApiBallot w.heap.size (.slice A' k c') k (CL Bt.cells R) rfl (O6.out.alloc _) (some ⟨x2.heap.size, 0, none⟩) 1 1 ({ x with A := fA, k := fk } : Bt).cells rfl rfl (fun h => by cases h) (fresh_news x2 ({ x with A := fA, k := fk } : Bt).cells.toArray 53) (Bt.one ({ x with A := fA, k := fk } : Bt)) ?d3 ?d4 ?d5 ?_)
      case d3 => have := HKN.out; have := HSM.out; simp only [maxLen]; omega
      case d4 => have := HKN.out; have := HSM.out; omega
      case d5 => have := BB.out.size; simp; omega
      intro A9 c9 w9 ho9 hg9 hbk9
      have B9 : Hid (Below w.heap.size w w9) := below_own BB.out BB.out.size O6.out ((World.grownBy_alloc x2 _ _).trans hg9)
      have C9 := Lib.hid (HC.out.push x HO.out HR.out.size B6.out HOG.out hg9 (q := _) hbk9 (by simp))
      have O9 : Hid (w9.ownsRow w.heap.size 53 6 (.slice A9 (k + 1) c9) (k + 1) (CL Bt.cells (R ++ [({ x with A := fA, k := fk } : Bt)]))) := by rw [CL_push]; exact ho9
      replace C9 : Hid (Cpy w.heap.size lg (RowB (.slice A9 (k + 1) c9)) w9 (R ++ [({ x with A := fA, k := fk } : Bt)]) (L.take (k + 1))) := by rw [take_next HXX.out]; exact C9.out
      clear ho9 hg9 hbk9 q0 q1 q2 q3 q4 q5 OY B6 HOG O6 BB HO HR HC
      go_wp2_with fail
      go_roundw
      case rel => exact ⟨k + 1, A9, c9, _, HKN.out, by go_num, rfl, B9.out, O9.out, C9.out⟩
      case measure => have := HKN.out; simp [intOf]; omega
    · obtain rfl : k = n := by omega
      have hki : ¬ (k : Int) < (k : Int) := by omega
      rw [List.take_of_length_le (Nat.le_of_eq HL.out)] at HC
      clear hkn hk
      go_wp2_with fail
      go_ret
      exact ⟨A', c', R, by rw [HL.out]; exact rfl, HR.out, by rw [HL.out]; exact HO.out, by rw [HL.out]; exact HC.out⟩
set_option maxHeartbeats 8000000 in
set_option maxRecDepth 100000 in
theorem copyAnswers_any (A : Option Addr) (n c : Nat) (L : List Bt) (lg : Bt → List Et) (w : World) (h : RdC 6 Bt.cells w A n L) (hlg : ∀ r, r ∈ L → LgOk lg w r) (hsm : (n + 2) * 64 ≤ 140737488355328) :
    Calls Try.prog 129 #[.slice A n c] w (RetB 38 lg w L) := by
  have H := Lib.hid h
  have HL := Lib.hid h.len
  have HSM := Lib.hid hsm
  have HLG := Lib.hid hlg
  have hn : (n : Int) ≤ 6000000000000 := by omega
  clear h hsm hlg
  go_enter Try.func129, Try.ntmps129
  go_wp2_with fail
  go_loopw [3, 4] (fun vv iv wr => ∃ (k : Nat) (A' : Option Addr) (c' : Nat) (R : List Bt), k ≤ n ∧ iv = .int .i64 k ∧ vv = .slice A' k c' ∧ Hid (Below w.heap.size w wr) ∧ Hid (wr.ownsRow w.heap.size 38 6 (.slice A' k c') k (CL Bt.cells R)) ∧ Hid (Cpy w.heap.size lg (RowB (.slice A' k c')) wr R (L.take k))) (fun _ iv _ => n - (intOf iv).toNat)
  case atStart => exact ⟨0, none, 0, [], by omega, rfl, rfl, Below.refl _ _, World.ownsRow_nil _ _ _ _, Cpy.nil _ _ _ _⟩
  case round =>
    obtain ⟨k, A', c', R, hk, rfl, rfl, HR, HO, HC⟩ := hrel
    by_cases hkn : k < n
    · obtain ⟨x, hx⟩ : ∃ x, L[k]? = some x := ⟨_, List.getElem?_eq_getElem (by have := HL.out; omega)⟩
      obtain ⟨ad, rfl, g0, g1, g2, g3, g4, g5⟩ := (H.out.below HR.out).atBt hx
      have hki : (k : Int) < (n : Int) := by omega
      have HKN := Lib.hid hkn
      have HXX := Lib.hid hx
      clear hx hkn hk
      go_wp2_with fail
      have OX := Lib.hid (Ob.fresh wr #[.int .i64 x.n, .int .u64 (x.h : Nat), .int .u64 (x.l : Nat), .int .i64 x.v, .int .i64 x.c, .slice x.A x.m x.k] 38)
      have BX : Hid (Below wr.heap.size wr (wr.alloc (.cells #[.int .i64 x.n, .int .u64 (x.h : Nat), .int .u64 (x.l : Nat), .int .i64 x.v, .int .i64 x.c, .slice x.A x.m x.k] 38))) := below_al _ _
      have HZ : Hid ((wr.alloc (.cells #[.int .i64 x.n, .int .u64 (x.h : Nat), .int .u64 (x.l : Nat), .int .i64 x.v, .int .i64 x.c, .slice x.A x.m x.k] 38)).heap.size = wr.heap.size + 1) := by simp [Hid]
      clear g0 g1 g2 g3 g4 g5
      generalize wr.alloc (.cells #[.int .i64 x.n, .int .u64 (x.h : Nat), .int .u64 (x.l : Nat), .int .i64 x.v, .int .i64 x.c, .slice x.A x.m x.k] 38) = w3 at OX BX HZ ⊢
      obtain ⟨r, hr⟩ : ∃ r, wr.heap.size = r := ⟨_, rfl⟩
      have HRR := Lib.hid hr
      rw [hr] at OX ⊢
      clear hr
      have HL0 := HLG.out _ (List.mem_of_getElem? HXX.out)
      refine (refCopy_any x.A x.m x.k (lg x) _ (HL0.1.below (HR.out.trans (BX.out.mono HR.out.size))) HL0.2.1 HL0.2.2).mono ?_
      rintro e w5 ⟨fA, fk, rfl, hb5, hof⟩
      clear HL0
      replace OX := Lib.hid (OX.out.below hb5)
      have B5 : Hid (Below wr.heap.size wr w5) := BX.out.trans (hb5.mono (by have := HZ.out; omega))
      have HOF := Lib.hid hof
      have z5 := OX.out.cell 5 rfl
      have f5 := OX.out.fr 5 (by simp)
      have zl := OX.out.lt (by simp)
      clear hof hb5 BX
      have OY := Lib.hid (OX.out.set 5 (by simp) (.slice fA x.m fk))
      have B6 : Hid (Below wr.heap.size wr (w5.setCell ⟨r, 5, none⟩ (.slice fA x.m fk))) := B5.out.setCell (by have := HRR.out; show _ ≤ r; omega) _
      have HOG : Hid ((w5.setCell ⟨r, 5, none⟩ (.slice fA x.m fk)).ownsRow wr.heap.size 156 5 (.slice fA x.m fk) x.m (CL Et.cells (lg x))) := own_mono (ownsRow_setCell_below HOF.out (by have := HZ.out; have := HRR.out; show r < _; omega) _) (by have := HZ.out; omega)
      have O6 : Hid ((w5.setCell ⟨r, 5, none⟩ (.slice fA x.m fk)).ownsRow w.heap.size 38 6 (.slice A' k c') k (CL Bt.cells R)) := own_kept HO.out B6.out
      have BB : Hid (Below w.heap.size w (w5.setCell ⟨r, 5, none⟩ (.slice fA x.m fk))) := HR.out.trans (B6.out.mono HR.out.size)
      go_upto_region 7 with fail
      generalize w5.setCell ⟨r, 5, none⟩ (.slice fA x.m fk) = x2 at OY B6 HOG O6 BB ⊢
      clear z5 f5 zl OX B5 HOF
      obtain ⟨q0, q1, q2, q3, q4, q5⟩ := OY.out.all6
      go_wp2_with (at_builtin; refine wpList_app rfl (.tmp 20) (.tmp 22) rfl eltApiAnswer w.heap.size (.slice A' k c') k (CL Bt.cells R) rfl (O6.out.alloc _) (some ⟨x2.heap.size, 0, none⟩) 1 1 ({ x with A := fA, k := fk } : Bt).cells rfl rfl (fun h => by cases h) (fresh_news x2 ({ x with A := fA, k := fk } : Bt).cells.toArray 38) (Bt.one ({ x with A := fA, k := fk } : Bt)) ?d3 ?d4 ?d5 ?_)
      case d3 => have := HKN.out; have := HSM.out; simp only [maxLen]; omega
      case d4 => have := HKN.out; have := HSM.out; omega
      case d5 => have := BB.out.size; simp; omega
      intro A9 c9 w9 ho9 hg9 hbk9
      have B9 : Hid (Below w.heap.size w w9) := below_own BB.out BB.out.size O6.out ((World.grownBy_alloc x2 _ _).trans hg9)
      have C9 := Lib.hid (HC.out.push x HO.out HR.out.size B6.out HOG.out hg9 (q := _) hbk9 (by simp))
      have O9 : Hid (w9.ownsRow w.heap.size 38 6 (.slice A9 (k + 1) c9) (k + 1) (CL Bt.cells (R ++ [({ x with A := fA, k := fk } : Bt)]))) := by rw [CL_push]; exact ho9
      replace C9 : Hid (Cpy w.heap.size lg (RowB (.slice A9 (k + 1) c9)) w9 (R ++ [({ x with A := fA, k := fk } : Bt)]) (L.take (k + 1))) := by rw [take_next HXX.out]; exact C9.out
      clear ho9 hg9 hbk9 q0 q1 q2 q3 q4 q5 OY B6 HOG O6 BB HO HR HC
      go_wp2_with fail
      go_roundw
      case rel => exact ⟨k + 1, A9, c9, _, HKN.out, by go_num, rfl, B9.out, O9.out, C9.out⟩
      case measure => have := HKN.out; simp [intOf]; omega
    · obtain rfl : k = n := by omega
      have hki : ¬ (k : Int) < (k : Int) := by omega
      rw [List.take_of_length_le (Nat.le_of_eq HL.out)] at HC
      clear hkn hk
      go_wp2_with fail
      go_ret
      exact ⟨A', c', R, by rw [HL.out]; exact rfl, HR.out, by rw [HL.out]; exact HO.out, by rw [HL.out]; exact HC.out⟩
end Go.Proofs.Ytjjobgolpedgeaa
