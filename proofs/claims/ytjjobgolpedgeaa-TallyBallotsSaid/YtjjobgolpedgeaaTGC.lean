/-
  Parts of the walks of TallyBallots and TallyAnswers. Merged by merge.py: TRefPrune, TRefPruneB, TPruneBallot, TPruneAnswer, TPruneV.
-/
import Derived.Test.YtjjobgolpedgeaaTRefCmp
import Derived.Test.YtjjobgolpedgeaaTPutX
import Derived.Test.YtjjobgolpedgeaaTGA
import Derived.Test.YtjjobgolpedgeaaTPruneP
set_option linter.unusedVariables false
set_option linter.unusedSimpArgs false
namespace Go.Proofs.Ytjjobgolpedgeaa
open Go.RowKit

set_option maxHeartbeats 4000000 in
set_option maxRecDepth 100000 in
theorem refOver_any (B : Option Addr) (m d : Nat) (V : List Dw) (n : Int) (h l : Nat) (w : World) (hv : RdC 2 Dw.cells w B m V) (hsv : m ≤ 100000000000000) :
    Calls Try.prog 104 #[.slice B m d, .int .i64 n, .agg #[.int .u64 (h : Nat), .int .u64 (l : Nat)]] w fun e w' => e = .returned (.bool (overV V n h l)) ∧ Below w.heap.size w w' := by
  have HV := Lib.hid hv
  have HVL := Lib.hid hv.len
  have hm : (m : Int) ≤ 100000000000000 := by omega
  clear hv hsv
  go_enter Try.func104, Try.ntmps104
  go_wp2_with fail
  have OX := Lib.hid (Ob.fresh w #[.int .u64 (h : Nat), .int .u64 (l : Nat)] 27)
  have BX : Hid (Below w.heap.size w (w.alloc (.cells #[.int .u64 (h : Nat), .int .u64 (l : Nat)] 27))) := below_al _ _
  generalize w.alloc (.cells #[.int .u64 (h : Nat), .int .u64 (l : Nat)] 27) = w5 at OX BX ⊢
  generalize w.heap.size = r at OX ⊢
  by_cases h1 : n < 0
  case pos =>
    have HOV : Hid (overV V n h l = false) := overV_neg h1
    have h1' : ¬ (0 : Int) ≤ n := by omega
    go_quiet (fail)
    go_wp2_with fail
    go_ret
    exact ⟨by rw [HOV.out]; exact rfl, Below.drewN BX.out _⟩
  have h4 : (0 : Int) ≤ n := by omega
  by_cases h2 : n < (m : Int)
  case neg =>
    have HOV : Hid (overV V n h l = false) := overV_far HVL.out h2
    go_quiet (fail)
    go_wp2_with fail
    go_ret
    exact ⟨by rw [HOV.out]; exact rfl, Below.drewN BX.out _⟩
  have d1 : decide ((0 : Int) ≤ n) = true := decide_eq_true h4
  have d3 : decide (n < (m : Int)) = true := decide_eq_true h2
  obtain ⟨y0, hy⟩ : ∃ y, V[n.toNat]? = some y := ⟨_, List.getElem?_eq_getElem (by have := HVL.out; omega)⟩
  have HOV := Lib.hid (overV_at (h := h) (l := l) h1 hy)
  obtain ⟨vd, rfl, v0, v1⟩ := (HV.out.below BX.out).atDw hy
  have o0 := OX.out.cell 0 rfl
  have o1 := OX.out.cell 1 rfl
  have FC := Lib.hid (fun y (hx : ((y.cell? ⟨r, 0, none⟩ = some (.int .u64 (h : Nat)) ∧ y.cell? ⟨r, 1, none⟩ = some (.int .u64 (l : Nat))) ∧ (y.cell? (vd.add (n.toNat * 2)) = some (.int .u64 (y0.h : Nat)) ∧ y.cell? ⟨(vd.add (n.toNat * 2)).block, (vd.add (n.toNat * 2)).off + 1, none⟩ = some (.int .u64 (y0.l : Nat))) ∧ Below w5.heap.size w5 y)) => (refCompare_any h l y0.h y0.l y).mono (fun e y' (h9 : _ ∧ _) => show e = .returned (.int .i64 (dCmp h l y0.h y0.l)) ∧ ((y'.cell? ⟨r, 0, none⟩ = some (.int .u64 (h : Nat)) ∧ y'.cell? ⟨r, 1, none⟩ = some (.int .u64 (l : Nat))) ∧ (y'.cell? (vd.add (n.toNat * 2)) = some (.int .u64 (y0.h : Nat)) ∧ y'.cell? ⟨(vd.add (n.toNat * 2)).block, (vd.add (n.toNat * 2)).off + 1, none⟩ = some (.int .u64 (y0.l : Nat))) ∧ Below w5.heap.size w5 y') from ⟨h9.1, ⟨(h9.2.cell (World.block_lt_of_cell? y _ hx.1.1)).trans hx.1.1, (h9.2.cell (World.block_lt_of_cell? y _ hx.1.2)).trans hx.1.2⟩, ⟨(h9.2.cell (World.block_lt_of_cell? y _ hx.2.1.1)).trans hx.2.1.1, (h9.2.cell (World.block_lt_of_cell? y _ hx.2.1.2)).trans hx.2.1.2⟩, hx.2.2.trans (h9.2.mono hx.2.2.size)⟩))
  clear hy
  obtain ⟨cc, hcc⟩ : ∃ cc, dCmp h l y0.h y0.l = cc := ⟨_, rfl⟩
  rw [hcc] at FC HOV
  clear hcc
  go_region_held3 (fun y => ((y.cell? ⟨r, 0, none⟩ = some (.int .u64 (h : Nat)) ∧ y.cell? ⟨r, 1, none⟩ = some (.int .u64 (l : Nat))) ∧ (y.cell? (vd.add (n.toNat * 2)) = some (.int .u64 (y0.h : Nat)) ∧ y.cell? ⟨(vd.add (n.toNat * 2)).block, (vd.add (n.toNat * 2)).off + 1, none⟩ = some (.int .u64 (y0.l : Nat))) ∧ Below w5.heap.size w5 y)) (first | exact ⟨⟨o0, o1⟩, ⟨v0, v1⟩, Below.drew (Below.refl _ _)⟩ | assumption | go_keep)
    (first | (go_at_call 136; refine (FC.out _ (by first | assumption | (simp [*]))).mono ?_; rintro e x' ⟨rfl, hx'⟩))
  have HBF := Lib.hid hx'.2.2
  clear hx'
  go_wp2_with fail
  go_ret
  exact ⟨by rw [HOV.out]; exact rfl, BX.out.trans (HBF.out.mono BX.out.size)⟩
set_option maxHeartbeats 8000000 in
set_option maxRecDepth 100000 in
theorem refPruneAck_fn (A : Option Addr) (n c : Nat) (L : List Ak) (B : Option Addr) (m d : Nat) (V : List Dw) (w : World) (h : RdC 4 Ak.cells w A n L) (hv : RdC 2 Dw.cells w B m V) (hsm : n * 32 ≤ 140737488351232) (hsv : m ≤ 100000000000000) :
    Calls Try.prog 55 #[.slice A n c, .slice B m d] w (RetL 29 4 Ak.cells w (pruneF (Ak.over V) L)) := by
  have H := Lib.hid h
  have HV := Lib.hid hv
  have HL := Lib.hid h.len
  have HSV := Lib.hid hsv
  have hn : (n : Int) ≤ 6000000000000 := by omega
  have HSM := Lib.hid hsm
  clear h hv hsm hsv
  go_enter Try.func55, Try.ntmps55
  go_wp2_with fail
  go_loopw [5, 6] (fun vv iv wr => ∃ (k : Nat) (A' : Option Addr) (c' : Nat), k ≤ n ∧ iv = .int .i64 k ∧ vv = .slice A' (pruneF (Ak.over V) (L.take k)).length c' ∧ Hid (Below w.heap.size w wr) ∧ Hid (wr.ownsRow w.heap.size 29 4 (.slice A' (pruneF (Ak.over V) (L.take k)).length c') (pruneF (Ak.over V) (L.take k)).length (CL Ak.cells (pruneF (Ak.over V) (L.take k))))) (fun _ iv _ => n - (intOf iv).toNat)
  case atStart => exact ⟨0, none, 0, by omega, rfl, rfl, Below.refl _ _, World.ownsRow_nil _ _ _ _⟩
  case round =>
    obtain ⟨k, A', c', hk, rfl, rfl, HR, HO⟩ := hrel
    by_cases hkn : k < n
    · obtain ⟨x, hx⟩ : ∃ x, L[k]? = some x := ⟨_, List.getElem?_eq_getElem (by have := HL.out; omega)⟩
      obtain ⟨ad, rfl, g0, g1, g2, g3⟩ := (H.out.below HR.out).atAk hx
      have hki : (k : Int) < (n : Int) := by omega
      have HPX : Hid (pruneF (Ak.over V) (L.take (k + 1)) = (pruneF (Ak.over V) (L.take k)) ++ if x.over V then [] else [x]) := by rw [take_next hx]; exact pruneF_push _ _ _
      have HLE : Hid ((pruneF (Ak.over V) (L.take k)).length ≤ k) := by have := pruneF_len (Ak.over V) (L.take k); rw [List.length_take] at this; simp only [Hid]; omega
      obtain ⟨P, hP⟩ : ∃ P, (pruneF (Ak.over V) (L.take k)) = P := ⟨_, rfl⟩
      rw [hP] at HO HPX HLE ⊢
      have HKN := Lib.hid hkn
      have HXX := Lib.hid hx
      clear hx hkn hk hP
      go_upto_region 5 with fail
      have VR := Lib.hid (HV.out.below HR.out)
      have FO := Lib.hid (fun y (hx : ((y.cell? (ad.add (k * 4)) = some (.int .i64 x.n) ∧ y.cell? ⟨(ad.add (k * 4)).block, (ad.add (k * 4)).off + 1, none⟩ = some (.int .u64 (x.h : Nat)) ∧ y.cell? ⟨(ad.add (k * 4)).block, (ad.add (k * 4)).off + 2, none⟩ = some (.int .u64 (x.l : Nat))) ∧ Below wr.heap.size wr y)) => (refOver_any B m d V x.n x.h x.l y (VR.out.below hx.2) HSV.out).mono (fun e y' (h9 : _ ∧ _) => show e = .returned (.bool (overV V x.n x.h x.l)) ∧ ((y'.cell? (ad.add (k * 4)) = some (.int .i64 x.n) ∧ y'.cell? ⟨(ad.add (k * 4)).block, (ad.add (k * 4)).off + 1, none⟩ = some (.int .u64 (x.h : Nat)) ∧ y'.cell? ⟨(ad.add (k * 4)).block, (ad.add (k * 4)).off + 2, none⟩ = some (.int .u64 (x.l : Nat))) ∧ Below wr.heap.size wr y') from ⟨h9.1, ⟨(h9.2.cell (World.block_lt_of_cell? y _ hx.1.1)).trans hx.1.1, (h9.2.cell (World.block_lt_of_cell? y _ hx.1.2.1)).trans hx.1.2.1, (h9.2.cell (World.block_lt_of_cell? y _ hx.1.2.2)).trans hx.1.2.2⟩, hx.2.trans (h9.2.mono hx.2.size)⟩))
      obtain ⟨bb, hbb⟩ : ∃ bb, overV V x.n x.h x.l = bb := ⟨_, rfl⟩
      rw [hbb] at FO
      have HBB : Hid (x.over V = bb) := hbb
      clear hbb
      go_region_held3 (fun y => ((y.cell? (ad.add (k * 4)) = some (.int .i64 x.n) ∧ y.cell? ⟨(ad.add (k * 4)).block, (ad.add (k * 4)).off + 1, none⟩ = some (.int .u64 (x.h : Nat)) ∧ y.cell? ⟨(ad.add (k * 4)).block, (ad.add (k * 4)).off + 2, none⟩ = some (.int .u64 (x.l : Nat))) ∧ Below wr.heap.size wr y)) (first | exact ⟨⟨g0, g1, g2⟩, Below.drew (Below.refl _ _)⟩ | assumption | go_keep)
        (first | (go_at_call 104; refine (FO.out _ (by first | assumption | (simp [*]))).mono ?_; rintro e x' ⟨rfl, hx'⟩))
      have HC := Lib.hid hx'.2
      have BX : Hid (Below w.heap.size w x') := HR.out.trans (HC.out.mono HR.out.size)
      have OO := Lib.hid (own_kept HO.out HC.out)
      clear hx' FO VR HO HR HC g0 g1 g2 g3
      have hk2 : (k : Int) + 1 ≤ 6000000000001 := by have := HKN.out; omega
      obtain ⟨nb, hnb⟩ : ∃ nb, (!bb) = nb := ⟨_, rfl⟩
      rw [hnb]
      cases nb with
      | false =>
        have hbt : bb = true := by simpa using hnb
        rw [hbt] at HBB
        rw [HBB.out] at HPX
        clear hnb hbt
        have HQ : Hid (pruneF (Ak.over V) (L.take (k + 1)) = P) := by rw [HPX.out]; simp [Hid]
        clear HPX
        go_wp2_with fail
        go_roundw
        case rel => exact ⟨k + 1, A', c', HKN.out, by go_num, by rw [HQ.out], BX.out, by rw [HQ.out]; exact OO.out⟩
        case measure => have := HKN.out; simp [intOf]; omega
      | true =>
        have hbt : bb = false := by simpa using hnb
        rw [hbt] at HBB
        rw [HBB.out] at HPX
        clear hnb hbt
        have HQ : Hid (pruneF (Ak.over V) (L.take (k + 1)) = P ++ [x]) := HPX.out
        clear HPX
        obtain ⟨ad', e, g0, g1, g2, g3⟩ := (H.out.below BX.out).atAk HXX.out
        cases e
        go_wp2_with (at_builtin; refine wpList_app rfl (.tmp 26) (.tmp 31) rfl eltApiAck w.heap.size (.slice A' P.length c') P.length (CL Ak.cells P) rfl (OO.out.alloc _) (some ⟨x'.heap.size, 0, none⟩) 1 1 x.cells rfl rfl (fun h => by cases h) (fresh_news x' x.cells.toArray 29) (Ak.one x) ?d3 ?d4 ?d5 ?_)
        case d3 => have := HLE.out; have := HKN.out; have := HSM.out; simp only [maxLen]; omega
        case d4 => have := HLE.out; have := HKN.out; have := HSM.out; omega
        case d5 => have := BX.out.size; simp; omega
        intro A9 c9 w9 ho9 hg9 _
        have B9 : Hid (Below w.heap.size w w9) := below_own BX.out BX.out.size OO.out ((World.grownBy_alloc x' _ _).trans hg9)
        have HE : Hid (P.length + 1 = (pruneF (Ak.over V) (L.take (k + 1))).length) := by rw [HQ.out, List.length_append]; exact rfl
        have O10 : Hid (w9.ownsRow w.heap.size 29 4 (.slice A9 (pruneF (Ak.over V) (L.take (k + 1))).length c9) (pruneF (Ak.over V) (L.take (k + 1))).length (CL Ak.cells (pruneF (Ak.over V) (L.take (k + 1))))) := by rw [← HE.out, HQ.out, CL_push]; exact ho9
        clear ho9 hg9 OO g0 g1 g2 g3
        rw [HE.out]
        go_wp2_with fail
        go_roundw
        case rel => exact ⟨k + 1, A9, c9, HKN.out, by go_num, rfl, B9.out, O10.out⟩
        case measure => have := HKN.out; simp [intOf]; omega
    · obtain rfl : k = n := by omega
      have hki : ¬ (k : Int) < (k : Int) := by omega
      rw [List.take_of_length_le (Nat.le_of_eq HL.out)] at HO ⊢
      clear hkn hk
      go_wp2_with fail
      go_ret
      exact ⟨A', c', rfl, HR.out, HO.out⟩
set_option maxHeartbeats 8000000 in
set_option maxRecDepth 100000 in
theorem refPruneMark_fn (A : Option Addr) (n c : Nat) (L : List Mk) (B : Option Addr) (m d : Nat) (V : List Dw) (w : World) (h : RdC 3 Mk.cells w A n L) (hv : RdC 2 Dw.cells w B m V) (hsm : n * 24 ≤ 140737488351232) (hsv : m ≤ 100000000000000) :
    Calls Try.prog 43 #[.slice A n c, .slice B m d] w (RetL 49 3 Mk.cells w (pruneF (Mk.over V) L)) := by
  have H := Lib.hid h
  have HV := Lib.hid hv
  have HL := Lib.hid h.len
  have HSV := Lib.hid hsv
  have hn : (n : Int) ≤ 6000000000000 := by omega
  have HSM := Lib.hid hsm
  clear h hv hsm hsv
  go_enter Try.func43, Try.ntmps43
  go_wp2_with fail
  go_loopw [5, 6] (fun vv iv wr => ∃ (k : Nat) (A' : Option Addr) (c' : Nat), k ≤ n ∧ iv = .int .i64 k ∧ vv = .slice A' (pruneF (Mk.over V) (L.take k)).length c' ∧ Hid (Below w.heap.size w wr) ∧ Hid (wr.ownsRow w.heap.size 49 3 (.slice A' (pruneF (Mk.over V) (L.take k)).length c') (pruneF (Mk.over V) (L.take k)).length (CL Mk.cells (pruneF (Mk.over V) (L.take k))))) (fun _ iv _ => n - (intOf iv).toNat)
  case atStart => exact ⟨0, none, 0, by omega, rfl, rfl, Below.refl _ _, World.ownsRow_nil _ _ _ _⟩
  case round =>
    obtain ⟨k, A', c', hk, rfl, rfl, HR, HO⟩ := hrel
    by_cases hkn : k < n
    · obtain ⟨x, hx⟩ : ∃ x, L[k]? = some x := ⟨_, List.getElem?_eq_getElem (by have := HL.out; omega)⟩
      obtain ⟨ad, rfl, g0, g1, g2⟩ := (H.out.below HR.out).atMk hx
      have hki : (k : Int) < (n : Int) := by omega
      have HPX : Hid (pruneF (Mk.over V) (L.take (k + 1)) = (pruneF (Mk.over V) (L.take k)) ++ if x.over V then [] else [x]) := by rw [take_next hx]; exact pruneF_push _ _ _
      have HLE : Hid ((pruneF (Mk.over V) (L.take k)).length ≤ k) := by have := pruneF_len (Mk.over V) (L.take k); rw [List.length_take] at this; simp only [Hid]; omega
      obtain ⟨P, hP⟩ : ∃ P, (pruneF (Mk.over V) (L.take k)) = P := ⟨_, rfl⟩
      rw [hP] at HO HPX HLE ⊢
      have HKN := Lib.hid hkn
      have HXX := Lib.hid hx
      clear hx hkn hk hP
      go_upto_region 5 with fail
      have VR := Lib.hid (HV.out.below HR.out)
      have FO := Lib.hid (fun y (hx : ((y.cell? (ad.add (k * 3)) = some (.int .i64 x.n) ∧ y.cell? ⟨(ad.add (k * 3)).block, (ad.add (k * 3)).off + 1, none⟩ = some (.int .u64 (x.h : Nat)) ∧ y.cell? ⟨(ad.add (k * 3)).block, (ad.add (k * 3)).off + 2, none⟩ = some (.int .u64 (x.l : Nat))) ∧ Below wr.heap.size wr y)) => (refOver_any B m d V x.n x.h x.l y (VR.out.below hx.2) HSV.out).mono (fun e y' (h9 : _ ∧ _) => show e = .returned (.bool (overV V x.n x.h x.l)) ∧ ((y'.cell? (ad.add (k * 3)) = some (.int .i64 x.n) ∧ y'.cell? ⟨(ad.add (k * 3)).block, (ad.add (k * 3)).off + 1, none⟩ = some (.int .u64 (x.h : Nat)) ∧ y'.cell? ⟨(ad.add (k * 3)).block, (ad.add (k * 3)).off + 2, none⟩ = some (.int .u64 (x.l : Nat))) ∧ Below wr.heap.size wr y') from ⟨h9.1, ⟨(h9.2.cell (World.block_lt_of_cell? y _ hx.1.1)).trans hx.1.1, (h9.2.cell (World.block_lt_of_cell? y _ hx.1.2.1)).trans hx.1.2.1, (h9.2.cell (World.block_lt_of_cell? y _ hx.1.2.2)).trans hx.1.2.2⟩, hx.2.trans (h9.2.mono hx.2.size)⟩))
      obtain ⟨bb, hbb⟩ : ∃ bb, overV V x.n x.h x.l = bb := ⟨_, rfl⟩
      rw [hbb] at FO
      have HBB : Hid (x.over V = bb) := hbb
      clear hbb
      go_region_held3 (fun y => ((y.cell? (ad.add (k * 3)) = some (.int .i64 x.n) ∧ y.cell? ⟨(ad.add (k * 3)).block, (ad.add (k * 3)).off + 1, none⟩ = some (.int .u64 (x.h : Nat)) ∧ y.cell? ⟨(ad.add (k * 3)).block, (ad.add (k * 3)).off + 2, none⟩ = some (.int .u64 (x.l : Nat))) ∧ Below wr.heap.size wr y)) (first | exact ⟨⟨g0, g1, g2⟩, Below.drew (Below.refl _ _)⟩ | assumption | go_keep)
        (first | (go_at_call 104; refine (FO.out _ (by first | assumption | (simp [*]))).mono ?_; rintro e x' ⟨rfl, hx'⟩))
      have HC := Lib.hid hx'.2
      have BX : Hid (Below w.heap.size w x') := HR.out.trans (HC.out.mono HR.out.size)
      have OO := Lib.hid (own_kept HO.out HC.out)
      clear hx' FO VR HO HR HC g0 g1 g2
      have hk2 : (k : Int) + 1 ≤ 6000000000001 := by have := HKN.out; omega
      obtain ⟨nb, hnb⟩ : ∃ nb, (!bb) = nb := ⟨_, rfl⟩
      rw [hnb]
      cases nb with
      | false =>
        have hbt : bb = true := by simpa using hnb
        rw [hbt] at HBB
        rw [HBB.out] at HPX
        clear hnb hbt
        have HQ : Hid (pruneF (Mk.over V) (L.take (k + 1)) = P) := by rw [HPX.out]; simp [Hid]
        clear HPX
        go_wp2_with fail
        go_roundw
        case rel => exact ⟨k + 1, A', c', HKN.out, by go_num, by rw [HQ.out], BX.out, by rw [HQ.out]; exact OO.out⟩
        case measure => have := HKN.out; simp [intOf]; omega
      | true =>
        have hbt : bb = false := by simpa using hnb
        rw [hbt] at HBB
        rw [HBB.out] at HPX
        clear hnb hbt
        have HQ : Hid (pruneF (Mk.over V) (L.take (k + 1)) = P ++ [x]) := HPX.out
        clear HPX
        obtain ⟨ad', e, g0, g1, g2⟩ := (H.out.below BX.out).atMk HXX.out
        cases e
        go_wp2_with (at_builtin; refine wpList_app rfl (.tmp 26) (.tmp 31) rfl eltApiMark w.heap.size (.slice A' P.length c') P.length (CL Mk.cells P) rfl (OO.out.alloc _) (some ⟨x'.heap.size, 0, none⟩) 1 1 x.cells rfl rfl (fun h => by cases h) (fresh_news x' x.cells.toArray 49) (Mk.one x) ?d3 ?d4 ?d5 ?_)
        case d3 => have := HLE.out; have := HKN.out; have := HSM.out; simp only [maxLen]; omega
        case d4 => have := HLE.out; have := HKN.out; have := HSM.out; omega
        case d5 => have := BX.out.size; simp; omega
        intro A9 c9 w9 ho9 hg9 _
        have B9 : Hid (Below w.heap.size w w9) := below_own BX.out BX.out.size OO.out ((World.grownBy_alloc x' _ _).trans hg9)
        have HE : Hid (P.length + 1 = (pruneF (Mk.over V) (L.take (k + 1))).length) := by rw [HQ.out, List.length_append]; exact rfl
        have O10 : Hid (w9.ownsRow w.heap.size 49 3 (.slice A9 (pruneF (Mk.over V) (L.take (k + 1))).length c9) (pruneF (Mk.over V) (L.take (k + 1))).length (CL Mk.cells (pruneF (Mk.over V) (L.take (k + 1))))) := by rw [← HE.out, HQ.out, CL_push]; exact ho9
        clear ho9 hg9 OO g0 g1 g2
        rw [HE.out]
        go_wp2_with fail
        go_roundw
        case rel => exact ⟨k + 1, A9, c9, HKN.out, by go_num, rfl, B9.out, O10.out⟩
        case measure => have := HKN.out; simp [intOf]; omega
    · obtain rfl : k = n := by omega
      have hki : ¬ (k : Int) < (k : Int) := by omega
      rw [List.take_of_length_le (Nat.le_of_eq HL.out)] at HO ⊢
      clear hkn hk
      go_wp2_with fail
      go_ret
      exact ⟨A', c', rfl, HR.out, HO.out⟩
end Go.Proofs.Ytjjobgolpedgeaa
set_option linter.unusedVariables false
set_option linter.unusedSimpArgs false
namespace Go.Proofs.Ytjjobgolpedgeaa
open Go.RowKit

set_option maxHeartbeats 8000000 in
set_option maxRecDepth 100000 in
theorem refPruneBallot_fn (A : Option Addr) (n c : Nat) (L : List Bt) (B : Option Addr) (m d : Nat) (V : List Dw) (lg : Bt → List Et) (w : World) (h : RdC 6 Bt.cells w A n L) (hlg : ∀ r, r ∈ L → LgOk lg w r) (hv : RdC 2 Dw.cells w B m V) (hsm : n * 64 ≤ 140737488351232) (hsv : m ≤ 100000000000000) :
    Calls Try.prog 69 #[.slice A n c, .slice B m d] w (RetB 53 lg w (pruneF (Bt.over V) L)) := by
  have H := Lib.hid h
  have HV := Lib.hid hv
  have HL := Lib.hid h.len
  have HSV := Lib.hid hsv
  have hn : (n : Int) ≤ 6000000000000 := by omega
  have HSM := Lib.hid hsm
  have HLG := Lib.hid hlg
  clear h hv hsm hsv hlg
  go_enter Try.func69, Try.ntmps69
  go_wp2_with fail
  go_loopw [5, 6] (fun vv iv wr => ∃ (k : Nat) (A' : Option Addr) (c' : Nat), k ≤ n ∧ iv = .int .i64 k ∧ vv = .slice A' (pruneF (Bt.over V) (L.take k)).length c' ∧ Hid (Below w.heap.size w wr) ∧ Hid (wr.ownsRow w.heap.size 53 6 (.slice A' (pruneF (Bt.over V) (L.take k)).length c') (pruneF (Bt.over V) (L.take k)).length (CL Bt.cells (pruneF (Bt.over V) (L.take k))))) (fun _ iv _ => n - (intOf iv).toNat)
  case atStart => exact ⟨0, none, 0, by omega, rfl, rfl, Below.refl _ _, World.ownsRow_nil _ _ _ _⟩
  case round =>
    obtain ⟨k, A', c', hk, rfl, rfl, HR, HO⟩ := hrel
    by_cases hkn : k < n
    · obtain ⟨x, hx⟩ : ∃ x, L[k]? = some x := ⟨_, List.getElem?_eq_getElem (by have := HL.out; omega)⟩
      obtain ⟨ad, rfl, g0, g1, g2, g3, g4, g5⟩ := (H.out.below HR.out).atBt hx
      have hki : (k : Int) < (n : Int) := by omega
      have HPX : Hid (pruneF (Bt.over V) (L.take (k + 1)) = (pruneF (Bt.over V) (L.take k)) ++ if x.over V then [] else [x]) := by rw [take_next hx]; exact pruneF_push _ _ _
      have HLE : Hid ((pruneF (Bt.over V) (L.take k)).length ≤ k) := by have := pruneF_len (Bt.over V) (L.take k); rw [List.length_take] at this; simp only [Hid]; omega
      obtain ⟨P, hP⟩ : ∃ P, (pruneF (Bt.over V) (L.take k)) = P := ⟨_, rfl⟩
      rw [hP] at HO HPX HLE ⊢
      have HKN := Lib.hid hkn
      have HXX := Lib.hid hx
      clear hx hkn hk hP
      go_upto_region 5 with fail
      have VR := Lib.hid (HV.out.below HR.out)
      have FO := Lib.hid (fun y (hx : ((y.cell? (ad.add (k * 6)) = some (.int .i64 x.n) ∧ y.cell? ⟨(ad.add (k * 6)).block, (ad.add (k * 6)).off + 1, none⟩ = some (.int .u64 (x.h : Nat)) ∧ y.cell? ⟨(ad.add (k * 6)).block, (ad.add (k * 6)).off + 2, none⟩ = some (.int .u64 (x.l : Nat))) ∧ Below wr.heap.size wr y)) => (refOver_any B m d V x.n x.h x.l y (VR.out.below hx.2) HSV.out).mono (fun e y' (h9 : _ ∧ _) => show e = .returned (.bool (overV V x.n x.h x.l)) ∧ ((y'.cell? (ad.add (k * 6)) = some (.int .i64 x.n) ∧ y'.cell? ⟨(ad.add (k * 6)).block, (ad.add (k * 6)).off + 1, none⟩ = some (.int .u64 (x.h : Nat)) ∧ y'.cell? ⟨(ad.add (k * 6)).block, (ad.add (k * 6)).off + 2, none⟩ = some (.int .u64 (x.l : Nat))) ∧ Below wr.heap.size wr y') from ⟨h9.1, ⟨(h9.2.cell (World.block_lt_of_cell? y _ hx.1.1)).trans hx.1.1, (h9.2.cell (World.block_lt_of_cell? y _ hx.1.2.1)).trans hx.1.2.1, (h9.2.cell (World.block_lt_of_cell? y _ hx.1.2.2)).trans hx.1.2.2⟩, hx.2.trans (h9.2.mono hx.2.size)⟩))
      obtain ⟨bb, hbb⟩ : ∃ bb, overV V x.n x.h x.l = bb := ⟨_, rfl⟩
      rw [hbb] at FO
      have HBB : Hid (x.over V = bb) := hbb
      clear hbb
      go_region_held3 (fun y => ((y.cell? (ad.add (k * 6)) = some (.int .i64 x.n) ∧ y.cell? ⟨(ad.add (k * 6)).block, (ad.add (k * 6)).off + 1, none⟩ = some (.int .u64 (x.h : Nat)) ∧ y.cell? ⟨(ad.add (k * 6)).block, (ad.add (k * 6)).off + 2, none⟩ = some (.int .u64 (x.l : Nat))) ∧ Below wr.heap.size wr y)) (first | exact ⟨⟨g0, g1, g2⟩, Below.drew (Below.refl _ _)⟩ | assumption | go_keep)
        (first | (go_at_call 104; refine (FO.out _ (by first | assumption | (simp [*]))).mono ?_; rintro e x' ⟨rfl, hx'⟩))
      have HC := Lib.hid hx'.2
      have BX : Hid (Below w.heap.size w x') := HR.out.trans (HC.out.mono HR.out.size)
      have OO := Lib.hid (own_kept HO.out HC.out)
      clear hx' FO VR HO HR HC g0 g1 g2 g3 g4 g5
      have hk2 : (k : Int) + 1 ≤ 6000000000001 := by have := HKN.out; omega
      obtain ⟨nb, hnb⟩ : ∃ nb, (!bb) = nb := ⟨_, rfl⟩
      rw [hnb]
      cases nb with
      | false =>
        have hbt : bb = true := by simpa using hnb
        rw [hbt] at HBB
        rw [HBB.out] at HPX
        clear hnb hbt
        have HQ : Hid (pruneF (Bt.over V) (L.take (k + 1)) = P) := by rw [HPX.out]; simp [Hid]
        clear HPX
        go_wp2_with fail
        go_roundw
        case rel => exact ⟨k + 1, A', c', HKN.out, by go_num, by rw [HQ.out], BX.out, by rw [HQ.out]; exact OO.out⟩
        case measure => have := HKN.out; simp [intOf]; omega
      | true =>
        have hbt : bb = false := by simpa using hnb
        rw [hbt] at HBB
        rw [HBB.out] at HPX
        clear hnb hbt
        have HQ : Hid (pruneF (Bt.over V) (L.take (k + 1)) = P ++ [x]) := HPX.out
        clear HPX
        obtain ⟨ad', e, g0, g1, g2, g3, g4, g5⟩ := (H.out.below BX.out).atBt HXX.out
        cases e
        go_wp2_with (at_builtin; refine wpList_app rfl (.tmp 26) (.tmp 31) rfl eltApiBallot w.heap.size (.slice A' P.length c') P.length (CL Bt.cells P) rfl (OO.out.alloc _) (some ⟨x'.heap.size, 0, none⟩) 1 1 x.cells rfl rfl (fun h => by cases h) (fresh_news x' x.cells.toArray 53) (Bt.one x) ?d3 ?d4 ?d5 ?_)
        case d3 => have := HLE.out; have := HKN.out; have := HSM.out; simp only [maxLen]; omega
        case d4 => have := HLE.out; have := HKN.out; have := HSM.out; omega
        case d5 => have := BX.out.size; simp; omega
        intro A9 c9 w9 ho9 hg9 _
        have B9 : Hid (Below w.heap.size w w9) := below_own BX.out BX.out.size OO.out ((World.grownBy_alloc x' _ _).trans hg9)
        have HE : Hid (P.length + 1 = (pruneF (Bt.over V) (L.take (k + 1))).length) := by rw [HQ.out, List.length_append]; exact rfl
        have O10 : Hid (w9.ownsRow w.heap.size 53 6 (.slice A9 (pruneF (Bt.over V) (L.take (k + 1))).length c9) (pruneF (Bt.over V) (L.take (k + 1))).length (CL Bt.cells (pruneF (Bt.over V) (L.take (k + 1))))) := by rw [← HE.out, HQ.out, CL_push]; exact ho9
        clear ho9 hg9 OO g0 g1 g2 g3 g4 g5
        rw [HE.out]
        go_wp2_with fail
        go_roundw
        case rel => exact ⟨k + 1, A9, c9, HKN.out, by go_num, rfl, B9.out, O10.out⟩
        case measure => have := HKN.out; simp [intOf]; omega
    · obtain rfl : k = n := by omega
      have hki : ¬ (k : Int) < (k : Int) := by omega
      rw [List.take_of_length_le (Nat.le_of_eq HL.out)] at HO ⊢
      clear hkn hk
      go_wp2_with fail
      refine (copyBallots_any A' _ c' (pruneF (Bt.over V) L) lg _ (rdBt HO.out rfl) (fun r hr => ⟨(HLG.out r (List.mem_filter.1 hr).1).1.below HR.out, (HLG.out r (List.mem_filter.1 hr).1).2⟩) (by have := pruneF_len (Bt.over V) L; have := HL.out; have := HSM.out; omega)).mono ?_
      rintro e w9 ⟨A9, c9, R9, rfl, hb9, ho9, hc9⟩
      have B9 : Hid (Below w.heap.size w w9) := HR.out.trans (hb9.mono HR.out.size)
      have O9 := Lib.hid (own_mono ho9 HR.out.size)
      have C9 := Lib.hid (hc9.lower HR.out.size)
      clear hb9 ho9 hc9
      go_wp2_with fail
      go_ret
      exact ⟨A9, c9, R9, rfl, B9.out, O9.out, C9.out⟩
set_option maxHeartbeats 8000000 in
set_option maxRecDepth 100000 in
theorem refPruneAnswer_fn (A : Option Addr) (n c : Nat) (L : List Bt) (B : Option Addr) (m d : Nat) (V : List Dw) (lg : Bt → List Et) (w : World) (h : RdC 6 Bt.cells w A n L) (hlg : ∀ r, r ∈ L → LgOk lg w r) (hv : RdC 2 Dw.cells w B m V) (hsm : n * 64 ≤ 140737488351232) (hsv : m ≤ 100000000000000) :
    Calls Try.prog 62 #[.slice A n c, .slice B m d] w (RetB 38 lg w (pruneF (Bt.over V) L)) := by
  have H := Lib.hid h
  have HV := Lib.hid hv
  have HL := Lib.hid h.len
  have HSV := Lib.hid hsv
  have hn : (n : Int) ≤ 6000000000000 := by omega
  have HSM := Lib.hid hsm
  have HLG := Lib.hid hlg
  clear h hv hsm hsv hlg
  go_enter Try.func62, Try.ntmps62
  go_wp2_with fail
  go_loopw [5, 6] (fun vv iv wr => ∃ (k : Nat) (A' : Option Addr) (c' : Nat), k ≤ n ∧ iv = .int .i64 k ∧ vv = .slice A' (pruneF (Bt.over V) (L.take k)).length c' ∧ Hid (Below w.heap.size w wr) ∧ Hid (wr.ownsRow w.heap.size 38 6 (.slice A' (pruneF (Bt.over V) (L.take k)).length c') (pruneF (Bt.over V) (L.take k)).length (CL Bt.cells (pruneF (Bt.over V) (L.take k))))) (fun _ iv _ => n - (intOf iv).toNat)
  case atStart => exact ⟨0, none, 0, by omega, rfl, rfl, Below.refl _ _, World.ownsRow_nil _ _ _ _⟩
  case round =>
    obtain ⟨k, A', c', hk, rfl, rfl, HR, HO⟩ := hrel
    by_cases hkn : k < n
    · obtain ⟨x, hx⟩ : ∃ x, L[k]? = some x := ⟨_, List.getElem?_eq_getElem (by have := HL.out; omega)⟩
      obtain ⟨ad, rfl, g0, g1, g2, g3, g4, g5⟩ := (H.out.below HR.out).atBt hx
      have hki : (k : Int) < (n : Int) := by omega
      have HPX : Hid (pruneF (Bt.over V) (L.take (k + 1)) = (pruneF (Bt.over V) (L.take k)) ++ if x.over V then [] else [x]) := by rw [take_next hx]; exact pruneF_push _ _ _
      have HLE : Hid ((pruneF (Bt.over V) (L.take k)).length ≤ k) := by have := pruneF_len (Bt.over V) (L.take k); rw [List.length_take] at this; simp only [Hid]; omega
      obtain ⟨P, hP⟩ : ∃ P, (pruneF (Bt.over V) (L.take k)) = P := ⟨_, rfl⟩
      rw [hP] at HO HPX HLE ⊢
      have HKN := Lib.hid hkn
      have HXX := Lib.hid hx
      clear hx hkn hk hP
      go_upto_region 5 with fail
      have VR := Lib.hid (HV.out.below HR.out)
      have FO := Lib.hid (fun y (hx : ((y.cell? (ad.add (k * 6)) = some (.int .i64 x.n) ∧ y.cell? ⟨(ad.add (k * 6)).block, (ad.add (k * 6)).off + 1, none⟩ = some (.int .u64 (x.h : Nat)) ∧ y.cell? ⟨(ad.add (k * 6)).block, (ad.add (k * 6)).off + 2, none⟩ = some (.int .u64 (x.l : Nat))) ∧ Below wr.heap.size wr y)) => (refOver_any B m d V x.n x.h x.l y (VR.out.below hx.2) HSV.out).mono (fun e y' (h9 : _ ∧ _) => show e = .returned (.bool (overV V x.n x.h x.l)) ∧ ((y'.cell? (ad.add (k * 6)) = some (.int .i64 x.n) ∧ y'.cell? ⟨(ad.add (k * 6)).block, (ad.add (k * 6)).off + 1, none⟩ = some (.int .u64 (x.h : Nat)) ∧ y'.cell? ⟨(ad.add (k * 6)).block, (ad.add (k * 6)).off + 2, none⟩ = some (.int .u64 (x.l : Nat))) ∧ Below wr.heap.size wr y') from ⟨h9.1, ⟨(h9.2.cell (World.block_lt_of_cell? y _ hx.1.1)).trans hx.1.1, (h9.2.cell (World.block_lt_of_cell? y _ hx.1.2.1)).trans hx.1.2.1, (h9.2.cell (World.block_lt_of_cell? y _ hx.1.2.2)).trans hx.1.2.2⟩, hx.2.trans (h9.2.mono hx.2.size)⟩))
      obtain ⟨bb, hbb⟩ : ∃ bb, overV V x.n x.h x.l = bb := ⟨_, rfl⟩
      rw [hbb] at FO
      have HBB : Hid (x.over V = bb) := hbb
      clear hbb
      go_region_held3 (fun y => ((y.cell? (ad.add (k * 6)) = some (.int .i64 x.n) ∧ y.cell? ⟨(ad.add (k * 6)).block, (ad.add (k * 6)).off + 1, none⟩ = some (.int .u64 (x.h : Nat)) ∧ y.cell? ⟨(ad.add (k * 6)).block, (ad.add (k * 6)).off + 2, none⟩ = some (.int .u64 (x.l : Nat))) ∧ Below wr.heap.size wr y)) (first | exact ⟨⟨g0, g1, g2⟩, Below.drew (Below.refl _ _)⟩ | assumption | go_keep)
        (first | (go_at_call 104; refine (FO.out _ (by first | assumption | (simp [*]))).mono ?_; rintro e x' ⟨rfl, hx'⟩))
      have HC := Lib.hid hx'.2
      have BX : Hid (Below w.heap.size w x') := HR.out.trans (HC.out.mono HR.out.size)
      have OO := Lib.hid (own_kept HO.out HC.out)
      clear hx' FO VR HO HR HC g0 g1 g2 g3 g4 g5
      have hk2 : (k : Int) + 1 ≤ 6000000000001 := by have := HKN.out; omega
      obtain ⟨nb, hnb⟩ : ∃ nb, (!bb) = nb := ⟨_, rfl⟩
      rw [hnb]
      cases nb with
      | false =>
        have hbt : bb = true := by simpa using hnb
        rw [hbt] at HBB
        rw [HBB.out] at HPX
        clear hnb hbt
        have HQ : Hid (pruneF (Bt.over V) (L.take (k + 1)) = P) := by rw [HPX.out]; simp [Hid]
        clear HPX
        go_wp2_with fail
        go_roundw
        case rel => exact ⟨k + 1, A', c', HKN.out, by go_num, by rw [HQ.out], BX.out, by rw [HQ.out]; exact OO.out⟩
        case measure => have := HKN.out; simp [intOf]; omega
      | true =>
        have hbt : bb = false := by simpa using hnb
        rw [hbt] at HBB
        rw [HBB.out] at HPX
        clear hnb hbt
        have HQ : Hid (pruneF (Bt.over V) (L.take (k + 1)) = P ++ [x]) := HPX.out
        clear HPX
        obtain ⟨ad', e, g0, g1, g2, g3, g4, g5⟩ := (H.out.below BX.out).atBt HXX.out
        cases e
        go_wp2_with (at_builtin; refine wpList_app rfl (.tmp 26) (.tmp 31) rfl eltApiAnswer w.heap.size (.slice A' P.length c') P.length (CL Bt.cells P) rfl (OO.out.alloc _) (some ⟨x'.heap.size, 0, none⟩) 1 1 x.cells rfl rfl (fun h => by cases h) (fresh_news x' x.cells.toArray 38) (Bt.one x) ?d3 ?d4 ?d5 ?_)
        case d3 => have := HLE.out; have := HKN.out; have := HSM.out; simp only [maxLen]; omega
        case d4 => have := HLE.out; have := HKN.out; have := HSM.out; omega
        case d5 => have := BX.out.size; simp; omega
        intro A9 c9 w9 ho9 hg9 _
        have B9 : Hid (Below w.heap.size w w9) := below_own BX.out BX.out.size OO.out ((World.grownBy_alloc x' _ _).trans hg9)
        have HE : Hid (P.length + 1 = (pruneF (Bt.over V) (L.take (k + 1))).length) := by rw [HQ.out, List.length_append]; exact rfl
        have O10 : Hid (w9.ownsRow w.heap.size 38 6 (.slice A9 (pruneF (Bt.over V) (L.take (k + 1))).length c9) (pruneF (Bt.over V) (L.take (k + 1))).length (CL Bt.cells (pruneF (Bt.over V) (L.take (k + 1))))) := by rw [← HE.out, HQ.out, CL_push]; exact ho9
        clear ho9 hg9 OO g0 g1 g2 g3 g4 g5
        rw [HE.out]
        go_wp2_with fail
        go_roundw
        case rel => exact ⟨k + 1, A9, c9, HKN.out, by go_num, rfl, B9.out, O10.out⟩
        case measure => have := HKN.out; simp [intOf]; omega
    · obtain rfl : k = n := by omega
      have hki : ¬ (k : Int) < (k : Int) := by omega
      rw [List.take_of_length_le (Nat.le_of_eq HL.out)] at HO ⊢
      clear hkn hk
      go_wp2_with fail
      refine (copyAnswers_any A' _ c' (pruneF (Bt.over V) L) lg _ (rdBt HO.out rfl) (fun r hr => ⟨(HLG.out r (List.mem_filter.1 hr).1).1.below HR.out, (HLG.out r (List.mem_filter.1 hr).1).2⟩) (by have := pruneF_len (Bt.over V) L; have := HL.out; have := HSM.out; omega)).mono ?_
      rintro e w9 ⟨A9, c9, R9, rfl, hb9, ho9, hc9⟩
      have B9 : Hid (Below w.heap.size w w9) := HR.out.trans (hb9.mono HR.out.size)
      have O9 := Lib.hid (own_mono ho9 HR.out.size)
      have C9 := Lib.hid (hc9.lower HR.out.size)
      clear hb9 ho9 hc9
      go_wp2_with fail
      go_ret
      exact ⟨A9, c9, R9, rfl, B9.out, O9.out, C9.out⟩
end Go.Proofs.Ytjjobgolpedgeaa
set_option linter.unusedVariables false
set_option linter.unusedSimpArgs false
namespace Go.Proofs.Ytjjobgolpedgeaa
open Go.RowKit

set_option maxHeartbeats 8000000 in
set_option maxRecDepth 100000 in
theorem pruneBallot_box (A : Option Addr) (n c : Nat) (L : List Bt) (B : Option Addr) (m d : Nat) (V : List Dw) (lg : Bt → List Et) (w : World) (h : RdC 6 Bt.cells w A n L) (hlg : ∀ r, r ∈ L → LgOk lg w r) (hv : RdC 2 Dw.cells w B m V) (hsm : (n + 2) * 64 ≤ 140737488355328) (hsv : m ≤ 100000000000000) :
    Calls Try.prog 109 #[.agg #[.slice A n c], .slice B m d] w (RetB 144 lg w (pruneF (Bt.over V) L)) := by
  have H := Lib.hid h
  have HV := Lib.hid hv
  have HL := Lib.hid h.len
  have HVL := Lib.hid hv.len
  have hn : (n : Int) ≤ 6000000000000 := by omega
  have hm : (m : Int) ≤ 100000000000000 := by omega
  have HSM := Lib.hid hsm
  have HLG := Lib.hid hlg
  clear h hv hsm hsv hlg
  go_enter Try.func109, Try.ntmps109
  go_wp2_with fail
  have BW : Hid (Below w.heap.size w (w.alloc (.cells #[.slice A n c] 149))) := (Below.refl _ _).alloc (Nat.le_refl _) _
  generalize w.alloc (.cells #[.slice A n c] 149) = w2 at BW ⊢
  obtain ⟨b, hb⟩ : ∃ b, w.heap.size = b := ⟨_, rfl⟩
  rw [hb]
  clear hb
  go_loopw [5, 12] (fun vv iv wr => ∃ (k : Nat) (A' : Option Addr) (c' : Nat) (R : List Bt), k ≤ n ∧ iv = .int .i64 k ∧ vv = .slice A' (pruneF (Bt.over V) (L.take k)).length c' ∧ Hid (Below w.heap.size w wr) ∧ Hid (wr.ownsRow w.heap.size 144 6 (.slice A' (pruneF (Bt.over V) (L.take k)).length c') (pruneF (Bt.over V) (L.take k)).length (CL Bt.cells R)) ∧ Hid (Cpy w.heap.size lg (RowB (.slice A' (pruneF (Bt.over V) (L.take k)).length c')) wr R (pruneF (Bt.over V) (L.take k)))) (fun _ iv _ => n - (intOf iv).toNat)
  case atStart => exact ⟨0, none, 0, [], by omega, rfl, rfl, BW.out, World.ownsRow_nil _ _ _ _, Cpy.nil _ _ _ _⟩
  case round =>
    obtain ⟨k, A', c', R, hk, rfl, rfl, HR, HO, HCP⟩ := hrel
    by_cases hkn : k < n
    · obtain ⟨x, hx⟩ : ∃ x, L[k]? = some x := ⟨_, List.getElem?_eq_getElem (by have := HL.out; omega)⟩
      obtain ⟨ad, rfl, g0, g1, g2, g3, g4, g5⟩ := (H.out.below HR.out).atBt hx
      have hki : (k : Int) < (n : Int) := by omega
      have HPX : Hid (pruneF (Bt.over V) (L.take (k + 1)) = (pruneF (Bt.over V) (L.take k)) ++ if x.over V then [] else [x]) := by rw [take_next hx]; exact pruneF_push _ _ _
      have HLE : Hid ((pruneF (Bt.over V) (L.take k)).length ≤ k) := by have := pruneF_len (Bt.over V) (L.take k); rw [List.length_take] at this; simp only [Hid]; omega
      obtain ⟨P, hP⟩ : ∃ P, (pruneF (Bt.over V) (L.take k)) = P := ⟨_, rfl⟩
      rw [hP] at HO HCP HPX HLE ⊢
      have HKN := Lib.hid hkn
      have HXX := Lib.hid hx
      clear hx hkn hk hP
      have hmn := mBallot_node
      go_wp2_with fail
      clear hmn
      have OX := Lib.hid (Ob.fresh wr #[.int .i64 x.n, .int .u64 (x.h : Nat), .int .u64 (x.l : Nat), .int .i64 x.v, .int .i64 x.c, .slice x.A x.m x.k] 144)
      have BX : Hid (Below w.heap.size w (wr.alloc (.cells #[.int .i64 x.n, .int .u64 (x.h : Nat), .int .u64 (x.l : Nat), .int .i64 x.v, .int .i64 x.c, .slice x.A x.m x.k] 144))) := HR.out.alloc HR.out.size _
      have OO := Lib.hid (HO.out.alloc (.cells #[.int .i64 x.n, .int .u64 (x.h : Nat), .int .u64 (x.l : Nat), .int .i64 x.v, .int .i64 x.c, .slice x.A x.m x.k] 144))
      have OP := Lib.hid (HCP.out.alloc (.cells #[.int .i64 x.n, .int .u64 (x.h : Nat), .int .u64 (x.l : Nat), .int .i64 x.v, .int .i64 x.c, .slice x.A x.m x.k] 144))
      generalize wr.alloc (.cells #[.int .i64 x.n, .int .u64 (x.h : Nat), .int .u64 (x.l : Nat), .int .i64 x.v, .int .i64 x.c, .slice x.A x.m x.k] 144) = w3 at OX BX OO OP ⊢
      generalize wr.heap.size = r at OX ⊢
      clear g0 g1 g2 g3 g4 g5 HO HR HCP
      refine (nodeBallot_any x _).mono ?_
      rintro e w5 ⟨rfl, hb5⟩
      replace OX := Lib.hid (OX.out.below hb5)
      replace BX := Lib.hid (BX.out.trans (hb5.mono BX.out.size))
      replace OO := Lib.hid (own_kept OO.out hb5)
      replace OP := Lib.hid (OP.out.below hb5)
      clear hb5
      go_upto_region 6 with fail
      go_cut [37] (fun bv wx => bv = .bool (!x.over V) ∧ Hid (Below w5.heap.size w5 wx))
      case first =>
        by_cases h1 : x.n < 0
        case pos =>
          have HOV : Hid (x.over V = false) := overV_neg h1
          obtain ⟨p0, p1, p2, p3, p4, p5⟩ := OX.out.all6
          go_quiet (fail)
          go_wp2_with fail
          go_meet
          exact ⟨by rw [HOV.out]; rfl, Below.drewN (Below.refl _ _) _⟩
        by_cases h2 : x.n < (m : Int)
        case neg =>
          have HOV : Hid (x.over V = false) := overV_far HVL.out h2
          have h3 : (m : Int) ≤ x.n := by omega
          obtain ⟨p0, p1, p2, p3, p4, p5⟩ := OX.out.all6
          go_quiet (fail)
          go_wp2_with fail
          go_meet
          exact ⟨by rw [HOV.out]; rfl, Below.drewN (Below.refl _ _) _⟩
        have h3 : ¬ (m : Int) ≤ x.n := by omega
        have h4 : (0 : Int) ≤ x.n := by omega
        have d1 : decide (x.n < 0) = false := decide_eq_false h1
        have d3 : decide ((m : Int) ≤ x.n) = false := decide_eq_false h3
        obtain ⟨y0, hy⟩ : ∃ y, V[x.n.toNat]? = some y := ⟨_, List.getElem?_eq_getElem (by have := HVL.out; omega)⟩
        have HOV : Hid (x.over V = decide (dCmp x.h x.l y0.h y0.l < 0)) := overV_at h1 hy
        obtain ⟨vd, rfl, v0, v1⟩ := (HV.out.below BX.out).atDw hy
        obtain ⟨p0, p1, p2, p3, p4, p5⟩ := OX.out.all6
        have HX0 := Lib.hid (show ((w5.cell? ⟨r, 0, none⟩ = some (.int .i64 x.n) ∧ w5.cell? ⟨r, 1, none⟩ = some (.int .u64 (x.h : Nat)) ∧ w5.cell? ⟨r, 2, none⟩ = some (.int .u64 (x.l : Nat)) ∧ w5.cell? ⟨r, 3, none⟩ = some (.int .i64 x.v) ∧ w5.cell? ⟨r, 4, none⟩ = some (.int .i64 x.c) ∧ w5.cell? ⟨r, 5, none⟩ = some (.slice x.A x.m x.k)) ∧ (w5.cell? (vd.add (x.n.toNat * 2)) = some (.int .u64 (y0.h : Nat)) ∧ w5.cell? ⟨(vd.add (x.n.toNat * 2)).block, (vd.add (x.n.toNat * 2)).off + 1, none⟩ = some (.int .u64 (y0.l : Nat))) ∧ Below w5.heap.size w5 w5) from ⟨⟨p0, p1, p2, p3, p4, p5⟩, ⟨v0, v1⟩, Below.refl _ _⟩)
        have kp : ∀ y y', ((y.cell? ⟨r, 0, none⟩ = some (.int .i64 x.n) ∧ y.cell? ⟨r, 1, none⟩ = some (.int .u64 (x.h : Nat)) ∧ y.cell? ⟨r, 2, none⟩ = some (.int .u64 (x.l : Nat)) ∧ y.cell? ⟨r, 3, none⟩ = some (.int .i64 x.v) ∧ y.cell? ⟨r, 4, none⟩ = some (.int .i64 x.c) ∧ y.cell? ⟨r, 5, none⟩ = some (.slice x.A x.m x.k)) ∧ (y.cell? (vd.add (x.n.toNat * 2)) = some (.int .u64 (y0.h : Nat)) ∧ y.cell? ⟨(vd.add (x.n.toNat * 2)).block, (vd.add (x.n.toNat * 2)).off + 1, none⟩ = some (.int .u64 (y0.l : Nat))) ∧ Below w5.heap.size w5 y) → Below y.heap.size y y' → ((y'.cell? ⟨r, 0, none⟩ = some (.int .i64 x.n) ∧ y'.cell? ⟨r, 1, none⟩ = some (.int .u64 (x.h : Nat)) ∧ y'.cell? ⟨r, 2, none⟩ = some (.int .u64 (x.l : Nat)) ∧ y'.cell? ⟨r, 3, none⟩ = some (.int .i64 x.v) ∧ y'.cell? ⟨r, 4, none⟩ = some (.int .i64 x.c) ∧ y'.cell? ⟨r, 5, none⟩ = some (.slice x.A x.m x.k)) ∧ (y'.cell? (vd.add (x.n.toNat * 2)) = some (.int .u64 (y0.h : Nat)) ∧ y'.cell? ⟨(vd.add (x.n.toNat * 2)).block, (vd.add (x.n.toNat * 2)).off + 1, none⟩ = some (.int .u64 (y0.l : Nat))) ∧ Below w5.heap.size w5 y') := fun y y' hx hb => ⟨keep6 hb hx.1, ⟨(hb.cell (World.block_lt_of_cell? y _ hx.2.1.1)).trans hx.2.1.1, (hb.cell (World.block_lt_of_cell? y _ hx.2.1.2)).trans hx.2.1.2⟩, hx.2.2.trans (hb.mono hx.2.2.size)⟩
        have Fdraw := Lib.hid (fun y (hx : ((y.cell? ⟨r, 0, none⟩ = some (.int .i64 x.n) ∧ y.cell? ⟨r, 1, none⟩ = some (.int .u64 (x.h : Nat)) ∧ y.cell? ⟨r, 2, none⟩ = some (.int .u64 (x.l : Nat)) ∧ y.cell? ⟨r, 3, none⟩ = some (.int .i64 x.v) ∧ y.cell? ⟨r, 4, none⟩ = some (.int .i64 x.c) ∧ y.cell? ⟨r, 5, none⟩ = some (.slice x.A x.m x.k)) ∧ (y.cell? (vd.add (x.n.toNat * 2)) = some (.int .u64 (y0.h : Nat)) ∧ y.cell? ⟨(vd.add (x.n.toNat * 2)).block, (vd.add (x.n.toNat * 2)).off + 1, none⟩ = some (.int .u64 (y0.l : Nat))) ∧ Below w5.heap.size w5 y)) => (drawBallot_any x y).mono (fun e y' (h : _ ∧ _) => show e = .returned (.agg #[.int .u64 (x.h : Nat), .int .u64 (x.l : Nat)]) ∧ ((y'.cell? ⟨r, 0, none⟩ = some (.int .i64 x.n) ∧ y'.cell? ⟨r, 1, none⟩ = some (.int .u64 (x.h : Nat)) ∧ y'.cell? ⟨r, 2, none⟩ = some (.int .u64 (x.l : Nat)) ∧ y'.cell? ⟨r, 3, none⟩ = some (.int .i64 x.v) ∧ y'.cell? ⟨r, 4, none⟩ = some (.int .i64 x.c) ∧ y'.cell? ⟨r, 5, none⟩ = some (.slice x.A x.m x.k)) ∧ (y'.cell? (vd.add (x.n.toNat * 2)) = some (.int .u64 (y0.h : Nat)) ∧ y'.cell? ⟨(vd.add (x.n.toNat * 2)).block, (vd.add (x.n.toNat * 2)).off + 1, none⟩ = some (.int .u64 (y0.l : Nat))) ∧ Below w5.heap.size w5 y') from And.intro h.1 (kp y y' hx h.2)))
        have hmdraw := mBallot_draw
        have FC := Lib.hid (fun y (hx : ((y.cell? ⟨r, 0, none⟩ = some (.int .i64 x.n) ∧ y.cell? ⟨r, 1, none⟩ = some (.int .u64 (x.h : Nat)) ∧ y.cell? ⟨r, 2, none⟩ = some (.int .u64 (x.l : Nat)) ∧ y.cell? ⟨r, 3, none⟩ = some (.int .i64 x.v) ∧ y.cell? ⟨r, 4, none⟩ = some (.int .i64 x.c) ∧ y.cell? ⟨r, 5, none⟩ = some (.slice x.A x.m x.k)) ∧ (y.cell? (vd.add (x.n.toNat * 2)) = some (.int .u64 (y0.h : Nat)) ∧ y.cell? ⟨(vd.add (x.n.toNat * 2)).block, (vd.add (x.n.toNat * 2)).off + 1, none⟩ = some (.int .u64 (y0.l : Nat))) ∧ Below w5.heap.size w5 y)) => (compare_any x.h x.l y0.h y0.l y).mono (fun e y' (h : _ ∧ _) => show e = .returned (.int .i64 (dCmp x.h x.l y0.h y0.l)) ∧ ((y'.cell? ⟨r, 0, none⟩ = some (.int .i64 x.n) ∧ y'.cell? ⟨r, 1, none⟩ = some (.int .u64 (x.h : Nat)) ∧ y'.cell? ⟨r, 2, none⟩ = some (.int .u64 (x.l : Nat)) ∧ y'.cell? ⟨r, 3, none⟩ = some (.int .i64 x.v) ∧ y'.cell? ⟨r, 4, none⟩ = some (.int .i64 x.c) ∧ y'.cell? ⟨r, 5, none⟩ = some (.slice x.A x.m x.k)) ∧ (y'.cell? (vd.add (x.n.toNat * 2)) = some (.int .u64 (y0.h : Nat)) ∧ y'.cell? ⟨(vd.add (x.n.toNat * 2)).block, (vd.add (x.n.toNat * 2)).off + 1, none⟩ = some (.int .u64 (y0.l : Nat))) ∧ Below w5.heap.size w5 y') from And.intro h.1 (kp y y' hx h.2)))
        clear kp hy
        go_region_held3 (fun y => ((y.cell? ⟨r, 0, none⟩ = some (.int .i64 x.n) ∧ y.cell? ⟨r, 1, none⟩ = some (.int .u64 (x.h : Nat)) ∧ y.cell? ⟨r, 2, none⟩ = some (.int .u64 (x.l : Nat)) ∧ y.cell? ⟨r, 3, none⟩ = some (.int .i64 x.v) ∧ y.cell? ⟨r, 4, none⟩ = some (.int .i64 x.c) ∧ y.cell? ⟨r, 5, none⟩ = some (.slice x.A x.m x.k)) ∧ (y.cell? (vd.add (x.n.toNat * 2)) = some (.int .u64 (y0.h : Nat)) ∧ y.cell? ⟨(vd.add (x.n.toNat * 2)).block, (vd.add (x.n.toNat * 2)).off + 1, none⟩ = some (.int .u64 (y0.l : Nat))) ∧ Below w5.heap.size w5 y)) (first | exact ⟨⟨p0, p1, p2, p3, p4, p5⟩, ⟨v0, v1⟩, Below.drew (Below.refl _ _)⟩ | assumption | go_keep)
          (first
           | (go_at_call 135; refine (FC.out _ (by first | assumption | (simp [*]))).mono ?_; rintro e x' ⟨rfl, hx'⟩)
           | (go_at_call 184; refine (Fdraw.out _ (by first | assumption | (simp [*]))).mono ?_; rintro e x' ⟨rfl, hx'⟩))
        have HBF := Lib.hid hx'.2.2
        clear hx'
        go_wp2_with fail
        go_meet
        refine ⟨?_, HBF.out⟩
        rw [HOV.out]
        by_cases hc : dCmp x.h x.l y0.h y0.l < 0
        · rw [decide_eq_true hc, decide_eq_false (by omega)]; rfl
        · rw [decide_eq_false hc, decide_eq_true (by omega)]; rfl
      case rest =>
        obtain ⟨rfl, HC⟩ := hcut
        replace OX := Lib.hid (OX.out.below HC.out)
        replace BX := Lib.hid (BX.out.trans (HC.out.mono BX.out.size))
        replace OO := Lib.hid (own_kept OO.out HC.out)
        replace OP := Lib.hid (OP.out.below HC.out)
        clear HC
        have hk2 : (k : Int) + 1 ≤ 6000000000001 := by have := HKN.out; omega
        obtain ⟨bb, hbb⟩ : ∃ bb, (!x.over V) = bb := ⟨_, rfl⟩
        rw [hbb]
        have HBB := Lib.hid hbb
        clear hbb
        cases bb with
        | false =>
          replace HBB := Lib.hid (show x.over V = true by simpa using HBB.out)
          rw [HBB.out] at HPX
          have HQ : Hid (pruneF (Bt.over V) (L.take (k + 1)) = P) := by rw [HPX.out]; simp [Hid]
          clear HPX
          go_wp2_with fail
          go_roundw
          case rel => exact ⟨k + 1, A', c', R, HKN.out, by go_num, by rw [HQ.out], BX.out, by rw [HQ.out]; exact OO.out, by rw [HQ.out]; exact OP.out⟩
          case measure => have := HKN.out; simp [intOf]; omega
        | true =>
          replace HBB := Lib.hid (show x.over V = false by simpa using HBB.out)
          rw [HBB.out] at HPX
          have HQ : Hid (pruneF (Bt.over V) (L.take (k + 1)) = P ++ [x]) := HPX.out
          clear HPX
          obtain ⟨p0, p1, p2, p3, p4, p5⟩ := OX.out.all6
          have hmf := mBallot_fresh
          go_wp2_with fail
          clear hmf
          have HL0 := HLG.out _ (List.mem_of_getElem? HXX.out)
          refine (freshBallot_any x (lg x) _ (HL0.1.below BX.out) HL0.2.1 HL0.2.2).mono ?_
          rintro e x2 ⟨fA, fk, rfl, hb2, hof⟩
          clear HL0
          have B5 : Hid (Below w.heap.size w x2) := BX.out.trans (hb2.mono BX.out.size)
          have O5 : Hid (x2.ownsRow w.heap.size 144 6 (.slice A' P.length c') P.length (CL Bt.cells R)) := own_kept OO.out hb2
          have HBB := Lib.hid hb2
          have HOF := Lib.hid hof
          clear hof
          clear hb2 p0 p1 p2 p3 p4 p5
          go_wp2_with (at_builtin; refine wpList_app rfl (.tmp 38) (.tmp 42) rfl eltBallot w.heap.size (.slice A' P.length c') P.length (CL Bt.cells R) rfl (O5.out.alloc _) (some ⟨x2.heap.size, 0, none⟩) 1 1 ({ x with A := fA, k := fk } : Bt).cells rfl rfl (fun h => by cases h) (fresh_news x2 ({ x with A := fA, k := fk } : Bt).cells.toArray 144) (Bt.one ({ x with A := fA, k := fk } : Bt)) ?d3 ?d4 ?d5 ?_)
          case d3 => have := HLE.out; have := HKN.out; have := HSM.out; simp only [maxLen]; omega
          case d4 => have := HLE.out; have := HKN.out; have := HSM.out; omega
          case d5 => have := B5.out.size; simp; omega
          intro A9 c9 w9 ho9 hg9 hbk9
          have B9 : Hid (Below w.heap.size w w9) := below_own B5.out B5.out.size O5.out ((World.grownBy_alloc x2 _ _).trans hg9)
          have C9 := Lib.hid (OP.out.push x OO.out BX.out.size HBB.out HOF.out hg9 (q := _) hbk9 (by simp))
          have HE : Hid (P.length + 1 = (pruneF (Bt.over V) (L.take (k + 1))).length) := by rw [HQ.out, List.length_append]; exact rfl
          have O10 : Hid (w9.ownsRow w.heap.size 144 6 (.slice A9 (pruneF (Bt.over V) (L.take (k + 1))).length c9) (pruneF (Bt.over V) (L.take (k + 1))).length (CL Bt.cells (R ++ [({ x with A := fA, k := fk } : Bt)]))) := by rw [← HE.out, CL_push]; exact ho9
          have C10 : Hid (Cpy w.heap.size lg (RowB (.slice A9 (pruneF (Bt.over V) (L.take (k + 1))).length c9)) w9 (R ++ [({ x with A := fA, k := fk } : Bt)]) (pruneF (Bt.over V) (L.take (k + 1)))) := by rw [← HE.out, HQ.out]; exact C9.out
          clear ho9 hg9 O5 B5 hbk9 HBB HOF
          rw [HE.out]
          go_wp2_with fail
          go_roundw
          case rel => exact ⟨k + 1, A9, c9, _, HKN.out, by go_num, rfl, B9.out, O10.out, C10.out⟩
          case measure => have := HKN.out; simp [intOf]; omega
    · obtain rfl : k = n := by omega
      have hki : ¬ (k : Int) < (k : Int) := by omega
      rw [List.take_of_length_le (Nat.le_of_eq HL.out)] at HO HCP ⊢
      clear hkn hk
      go_wp2_with fail
      go_ret
      exact ⟨A', c', _, rfl, HR.out, HO.out, HCP.out⟩
set_option maxHeartbeats 1600000 in
set_option maxRecDepth 100000 in
theorem pruneBallot_fn (A : Option Addr) (n c : Nat) (L : List Bt) (B : Option Addr) (m d : Nat) (V : List Dw) (lg : Bt → List Et) (w : World) (h : RdC 6 Bt.cells w A n L) (hlg : ∀ r, r ∈ L → LgOk lg w r) (hv : RdC 2 Dw.cells w B m V) (hsm : (n + 2) * 64 ≤ 140737488355328) (hsv : m ≤ 100000000000000) :
    Calls Try.prog 46 #[.slice A n c, .slice B m d] w (RetB 53 lg w (pruneF (Bt.over V) L)) := by
  have H := Lib.hid h
  have HV := Lib.hid hv
  have HL := Lib.hid h.len
  have HSM := Lib.hid hsm
  have HLG := Lib.hid hlg
  have HSV := Lib.hid hsv
  clear h hv hsm hsv hlg
  go_enter Try.func46, Try.ntmps46
  go_wp2_with fail
  refine (turn_toBallot A n c L _ H.out (by have := HSM.out; omega)).mono ?_
  rintro e w2 ⟨A1, c1, rfl, hb2, ho2⟩
  have B2 := Lib.hid hb2
  have R2 := Lib.hid (rdBt ho2 rfl)
  have V2 := Lib.hid (HV.out.below hb2)
  clear hb2 ho2
  go_wp2_with fail
  refine (pruneBallot_box A1 L.length c1 L B m d V lg _ R2.out (fun r hr => ⟨(HLG.out r hr).1.below B2.out, (HLG.out r hr).2⟩) V2.out (by have := HSM.out; have := HL.out; omega) HSV.out).mono ?_
  rintro e w3 ⟨A2, c2, RR, rfl, hb3, ho3, hc3⟩
  have hl2 := hc3.len
  have HCP := Lib.hid hc3
  have B3 : Hid (Below w.heap.size w w3) := B2.out.trans (hb3.mono B2.out.size)
  have R3 := Lib.hid (rdBt ho3 hl2)
  clear hb3 ho3 R2 V2
  go_wp2_with fail
  refine (turn_fromBallot A2 _ c2 RR _ R3.out (by have h0 := pruneF_len (Bt.over V) L; have := HSM.out; have := HL.out; omega)).mono ?_
  rintro e w4 ⟨A3, c3, rfl, hb4, ho4⟩
  have B4 : Hid (Below w.heap.size w w4) := B3.out.trans (hb4.mono B3.out.size)
  have O4 := Lib.hid (own_mono ho4 B3.out.size)
  have HC := Lib.hid (show Cpy w.heap.size lg (RowB (.slice A3 (pruneF (Bt.over V) L).length c3)) w4 RR (pruneF (Bt.over V) L) from ((HCP.out.lower B2.out.size).more.below hb4).mono (fun j e => .inr (ho4.lt j (by rw [hl2]; exact e)).1))
  rw [hl2] at O4 ⊢
  clear hb4 ho4 R3 hc3 hl2 HCP
  go_wp2_with fail
  go_ret
  exact ⟨A3, c3, _, rfl, B4.out, O4.out, HC.out⟩
end Go.Proofs.Ytjjobgolpedgeaa
set_option linter.unusedVariables false
set_option linter.unusedSimpArgs false
namespace Go.Proofs.Ytjjobgolpedgeaa
open Go.RowKit

set_option maxHeartbeats 8000000 in
set_option maxRecDepth 100000 in
theorem pruneAnswer_box (A : Option Addr) (n c : Nat) (L : List Bt) (B : Option Addr) (m d : Nat) (V : List Dw) (lg : Bt → List Et) (w : World) (h : RdC 6 Bt.cells w A n L) (hlg : ∀ r, r ∈ L → LgOk lg w r) (hv : RdC 2 Dw.cells w B m V) (hsm : (n + 2) * 64 ≤ 140737488355328) (hsv : m ≤ 100000000000000) :
    Calls Try.prog 110 #[.agg #[.slice A n c], .slice B m d] w (RetB 125 lg w (pruneF (Bt.over V) L)) := by
  have H := Lib.hid h
  have HV := Lib.hid hv
  have HL := Lib.hid h.len
  have HVL := Lib.hid hv.len
  have hn : (n : Int) ≤ 6000000000000 := by omega
  have hm : (m : Int) ≤ 100000000000000 := by omega
  have HSM := Lib.hid hsm
  have HLG := Lib.hid hlg
  clear h hv hsm hsv hlg
  go_enter Try.func110, Try.ntmps110
  go_wp2_with fail
  have BW : Hid (Below w.heap.size w (w.alloc (.cells #[.slice A n c] 130))) := (Below.refl _ _).alloc (Nat.le_refl _) _
  generalize w.alloc (.cells #[.slice A n c] 130) = w2 at BW ⊢
  obtain ⟨b, hb⟩ : ∃ b, w.heap.size = b := ⟨_, rfl⟩
  rw [hb]
  clear hb
  go_loopw [5, 12] (fun vv iv wr => ∃ (k : Nat) (A' : Option Addr) (c' : Nat) (R : List Bt), k ≤ n ∧ iv = .int .i64 k ∧ vv = .slice A' (pruneF (Bt.over V) (L.take k)).length c' ∧ Hid (Below w.heap.size w wr) ∧ Hid (wr.ownsRow w.heap.size 125 6 (.slice A' (pruneF (Bt.over V) (L.take k)).length c') (pruneF (Bt.over V) (L.take k)).length (CL Bt.cells R)) ∧ Hid (Cpy w.heap.size lg (RowB (.slice A' (pruneF (Bt.over V) (L.take k)).length c')) wr R (pruneF (Bt.over V) (L.take k)))) (fun _ iv _ => n - (intOf iv).toNat)
  case atStart => exact ⟨0, none, 0, [], by omega, rfl, rfl, BW.out, World.ownsRow_nil _ _ _ _, Cpy.nil _ _ _ _⟩
  case round =>
    obtain ⟨k, A', c', R, hk, rfl, rfl, HR, HO, HCP⟩ := hrel
    by_cases hkn : k < n
    · obtain ⟨x, hx⟩ : ∃ x, L[k]? = some x := ⟨_, List.getElem?_eq_getElem (by have := HL.out; omega)⟩
      obtain ⟨ad, rfl, g0, g1, g2, g3, g4, g5⟩ := (H.out.below HR.out).atBt hx
      have hki : (k : Int) < (n : Int) := by omega
      have HPX : Hid (pruneF (Bt.over V) (L.take (k + 1)) = (pruneF (Bt.over V) (L.take k)) ++ if x.over V then [] else [x]) := by rw [take_next hx]; exact pruneF_push _ _ _
      have HLE : Hid ((pruneF (Bt.over V) (L.take k)).length ≤ k) := by have := pruneF_len (Bt.over V) (L.take k); rw [List.length_take] at this; simp only [Hid]; omega
      obtain ⟨P, hP⟩ : ∃ P, (pruneF (Bt.over V) (L.take k)) = P := ⟨_, rfl⟩
      rw [hP] at HO HCP HPX HLE ⊢
      have HKN := Lib.hid hkn
      have HXX := Lib.hid hx
      clear hx hkn hk hP
      have hmn := mAnswer_node
      go_wp2_with fail
      clear hmn
      have OX := Lib.hid (Ob.fresh wr #[.int .i64 x.n, .int .u64 (x.h : Nat), .int .u64 (x.l : Nat), .int .i64 x.v, .int .i64 x.c, .slice x.A x.m x.k] 125)
      have BX : Hid (Below w.heap.size w (wr.alloc (.cells #[.int .i64 x.n, .int .u64 (x.h : Nat), .int .u64 (x.l : Nat), .int .i64 x.v, .int .i64 x.c, .slice x.A x.m x.k] 125))) := HR.out.alloc HR.out.size _
      have OO := Lib.hid (HO.out.alloc (.cells #[.int .i64 x.n, .int .u64 (x.h : Nat), .int .u64 (x.l : Nat), .int .i64 x.v, .int .i64 x.c, .slice x.A x.m x.k] 125))
      have OP := Lib.hid (HCP.out.alloc (.cells #[.int .i64 x.n, .int .u64 (x.h : Nat), .int .u64 (x.l : Nat), .int .i64 x.v, .int .i64 x.c, .slice x.A x.m x.k] 125))
      generalize wr.alloc (.cells #[.int .i64 x.n, .int .u64 (x.h : Nat), .int .u64 (x.l : Nat), .int .i64 x.v, .int .i64 x.c, .slice x.A x.m x.k] 125) = w3 at OX BX OO OP ⊢
      generalize wr.heap.size = r at OX ⊢
      clear g0 g1 g2 g3 g4 g5 HO HR HCP
      refine (nodeAnswer_any x _).mono ?_
      rintro e w5 ⟨rfl, hb5⟩
      replace OX := Lib.hid (OX.out.below hb5)
      replace BX := Lib.hid (BX.out.trans (hb5.mono BX.out.size))
      replace OO := Lib.hid (own_kept OO.out hb5)
      replace OP := Lib.hid (OP.out.below hb5)
      clear hb5
      go_upto_region 6 with fail
      go_cut [37] (fun bv wx => bv = .bool (!x.over V) ∧ Hid (Below w5.heap.size w5 wx))
      case first =>
        by_cases h1 : x.n < 0
        case pos =>
          have HOV : Hid (x.over V = false) := overV_neg h1
          obtain ⟨p0, p1, p2, p3, p4, p5⟩ := OX.out.all6
          go_quiet (fail)
          go_wp2_with fail
          go_meet
          exact ⟨by rw [HOV.out]; rfl, Below.drewN (Below.refl _ _) _⟩
        by_cases h2 : x.n < (m : Int)
        case neg =>
          have HOV : Hid (x.over V = false) := overV_far HVL.out h2
          have h3 : (m : Int) ≤ x.n := by omega
          obtain ⟨p0, p1, p2, p3, p4, p5⟩ := OX.out.all6
          go_quiet (fail)
          go_wp2_with fail
          go_meet
          exact ⟨by rw [HOV.out]; rfl, Below.drewN (Below.refl _ _) _⟩
        have h3 : ¬ (m : Int) ≤ x.n := by omega
        have h4 : (0 : Int) ≤ x.n := by omega
        have d1 : decide (x.n < 0) = false := decide_eq_false h1
        have d3 : decide ((m : Int) ≤ x.n) = false := decide_eq_false h3
        obtain ⟨y0, hy⟩ : ∃ y, V[x.n.toNat]? = some y := ⟨_, List.getElem?_eq_getElem (by have := HVL.out; omega)⟩
        have HOV : Hid (x.over V = decide (dCmp x.h x.l y0.h y0.l < 0)) := overV_at h1 hy
        obtain ⟨vd, rfl, v0, v1⟩ := (HV.out.below BX.out).atDw hy
        obtain ⟨p0, p1, p2, p3, p4, p5⟩ := OX.out.all6
        have HX0 := Lib.hid (show ((w5.cell? ⟨r, 0, none⟩ = some (.int .i64 x.n) ∧ w5.cell? ⟨r, 1, none⟩ = some (.int .u64 (x.h : Nat)) ∧ w5.cell? ⟨r, 2, none⟩ = some (.int .u64 (x.l : Nat)) ∧ w5.cell? ⟨r, 3, none⟩ = some (.int .i64 x.v) ∧ w5.cell? ⟨r, 4, none⟩ = some (.int .i64 x.c) ∧ w5.cell? ⟨r, 5, none⟩ = some (.slice x.A x.m x.k)) ∧ (w5.cell? (vd.add (x.n.toNat * 2)) = some (.int .u64 (y0.h : Nat)) ∧ w5.cell? ⟨(vd.add (x.n.toNat * 2)).block, (vd.add (x.n.toNat * 2)).off + 1, none⟩ = some (.int .u64 (y0.l : Nat))) ∧ Below w5.heap.size w5 w5) from ⟨⟨p0, p1, p2, p3, p4, p5⟩, ⟨v0, v1⟩, Below.refl _ _⟩)
        have kp : ∀ y y', ((y.cell? ⟨r, 0, none⟩ = some (.int .i64 x.n) ∧ y.cell? ⟨r, 1, none⟩ = some (.int .u64 (x.h : Nat)) ∧ y.cell? ⟨r, 2, none⟩ = some (.int .u64 (x.l : Nat)) ∧ y.cell? ⟨r, 3, none⟩ = some (.int .i64 x.v) ∧ y.cell? ⟨r, 4, none⟩ = some (.int .i64 x.c) ∧ y.cell? ⟨r, 5, none⟩ = some (.slice x.A x.m x.k)) ∧ (y.cell? (vd.add (x.n.toNat * 2)) = some (.int .u64 (y0.h : Nat)) ∧ y.cell? ⟨(vd.add (x.n.toNat * 2)).block, (vd.add (x.n.toNat * 2)).off + 1, none⟩ = some (.int .u64 (y0.l : Nat))) ∧ Below w5.heap.size w5 y) → Below y.heap.size y y' → ((y'.cell? ⟨r, 0, none⟩ = some (.int .i64 x.n) ∧ y'.cell? ⟨r, 1, none⟩ = some (.int .u64 (x.h : Nat)) ∧ y'.cell? ⟨r, 2, none⟩ = some (.int .u64 (x.l : Nat)) ∧ y'.cell? ⟨r, 3, none⟩ = some (.int .i64 x.v) ∧ y'.cell? ⟨r, 4, none⟩ = some (.int .i64 x.c) ∧ y'.cell? ⟨r, 5, none⟩ = some (.slice x.A x.m x.k)) ∧ (y'.cell? (vd.add (x.n.toNat * 2)) = some (.int .u64 (y0.h : Nat)) ∧ y'.cell? ⟨(vd.add (x.n.toNat * 2)).block, (vd.add (x.n.toNat * 2)).off + 1, none⟩ = some (.int .u64 (y0.l : Nat))) ∧ Below w5.heap.size w5 y') := fun y y' hx hb => ⟨keep6 hb hx.1, ⟨(hb.cell (World.block_lt_of_cell? y _ hx.2.1.1)).trans hx.2.1.1, (hb.cell (World.block_lt_of_cell? y _ hx.2.1.2)).trans hx.2.1.2⟩, hx.2.2.trans (hb.mono hx.2.2.size)⟩
        have Fdraw := Lib.hid (fun y (hx : ((y.cell? ⟨r, 0, none⟩ = some (.int .i64 x.n) ∧ y.cell? ⟨r, 1, none⟩ = some (.int .u64 (x.h : Nat)) ∧ y.cell? ⟨r, 2, none⟩ = some (.int .u64 (x.l : Nat)) ∧ y.cell? ⟨r, 3, none⟩ = some (.int .i64 x.v) ∧ y.cell? ⟨r, 4, none⟩ = some (.int .i64 x.c) ∧ y.cell? ⟨r, 5, none⟩ = some (.slice x.A x.m x.k)) ∧ (y.cell? (vd.add (x.n.toNat * 2)) = some (.int .u64 (y0.h : Nat)) ∧ y.cell? ⟨(vd.add (x.n.toNat * 2)).block, (vd.add (x.n.toNat * 2)).off + 1, none⟩ = some (.int .u64 (y0.l : Nat))) ∧ Below w5.heap.size w5 y)) => (drawAnswer_any x y).mono (fun e y' (h : _ ∧ _) => show e = .returned (.agg #[.int .u64 (x.h : Nat), .int .u64 (x.l : Nat)]) ∧ ((y'.cell? ⟨r, 0, none⟩ = some (.int .i64 x.n) ∧ y'.cell? ⟨r, 1, none⟩ = some (.int .u64 (x.h : Nat)) ∧ y'.cell? ⟨r, 2, none⟩ = some (.int .u64 (x.l : Nat)) ∧ y'.cell? ⟨r, 3, none⟩ = some (.int .i64 x.v) ∧ y'.cell? ⟨r, 4, none⟩ = some (.int .i64 x.c) ∧ y'.cell? ⟨r, 5, none⟩ = some (.slice x.A x.m x.k)) ∧ (y'.cell? (vd.add (x.n.toNat * 2)) = some (.int .u64 (y0.h : Nat)) ∧ y'.cell? ⟨(vd.add (x.n.toNat * 2)).block, (vd.add (x.n.toNat * 2)).off + 1, none⟩ = some (.int .u64 (y0.l : Nat))) ∧ Below w5.heap.size w5 y') from And.intro h.1 (kp y y' hx h.2)))
        have hmdraw := mAnswer_draw
        have FC := Lib.hid (fun y (hx : ((y.cell? ⟨r, 0, none⟩ = some (.int .i64 x.n) ∧ y.cell? ⟨r, 1, none⟩ = some (.int .u64 (x.h : Nat)) ∧ y.cell? ⟨r, 2, none⟩ = some (.int .u64 (x.l : Nat)) ∧ y.cell? ⟨r, 3, none⟩ = some (.int .i64 x.v) ∧ y.cell? ⟨r, 4, none⟩ = some (.int .i64 x.c) ∧ y.cell? ⟨r, 5, none⟩ = some (.slice x.A x.m x.k)) ∧ (y.cell? (vd.add (x.n.toNat * 2)) = some (.int .u64 (y0.h : Nat)) ∧ y.cell? ⟨(vd.add (x.n.toNat * 2)).block, (vd.add (x.n.toNat * 2)).off + 1, none⟩ = some (.int .u64 (y0.l : Nat))) ∧ Below w5.heap.size w5 y)) => (compare_any x.h x.l y0.h y0.l y).mono (fun e y' (h : _ ∧ _) => show e = .returned (.int .i64 (dCmp x.h x.l y0.h y0.l)) ∧ ((y'.cell? ⟨r, 0, none⟩ = some (.int .i64 x.n) ∧ y'.cell? ⟨r, 1, none⟩ = some (.int .u64 (x.h : Nat)) ∧ y'.cell? ⟨r, 2, none⟩ = some (.int .u64 (x.l : Nat)) ∧ y'.cell? ⟨r, 3, none⟩ = some (.int .i64 x.v) ∧ y'.cell? ⟨r, 4, none⟩ = some (.int .i64 x.c) ∧ y'.cell? ⟨r, 5, none⟩ = some (.slice x.A x.m x.k)) ∧ (y'.cell? (vd.add (x.n.toNat * 2)) = some (.int .u64 (y0.h : Nat)) ∧ y'.cell? ⟨(vd.add (x.n.toNat * 2)).block, (vd.add (x.n.toNat * 2)).off + 1, none⟩ = some (.int .u64 (y0.l : Nat))) ∧ Below w5.heap.size w5 y') from And.intro h.1 (kp y y' hx h.2)))
        clear kp hy
        go_region_held3 (fun y => ((y.cell? ⟨r, 0, none⟩ = some (.int .i64 x.n) ∧ y.cell? ⟨r, 1, none⟩ = some (.int .u64 (x.h : Nat)) ∧ y.cell? ⟨r, 2, none⟩ = some (.int .u64 (x.l : Nat)) ∧ y.cell? ⟨r, 3, none⟩ = some (.int .i64 x.v) ∧ y.cell? ⟨r, 4, none⟩ = some (.int .i64 x.c) ∧ y.cell? ⟨r, 5, none⟩ = some (.slice x.A x.m x.k)) ∧ (y.cell? (vd.add (x.n.toNat * 2)) = some (.int .u64 (y0.h : Nat)) ∧ y.cell? ⟨(vd.add (x.n.toNat * 2)).block, (vd.add (x.n.toNat * 2)).off + 1, none⟩ = some (.int .u64 (y0.l : Nat))) ∧ Below w5.heap.size w5 y)) (first | exact ⟨⟨p0, p1, p2, p3, p4, p5⟩, ⟨v0, v1⟩, Below.drew (Below.refl _ _)⟩ | assumption | go_keep)
          (first
           | (go_at_call 135; refine (FC.out _ (by first | assumption | (simp [*]))).mono ?_; rintro e x' ⟨rfl, hx'⟩)
           | (go_at_call 176; refine (Fdraw.out _ (by first | assumption | (simp [*]))).mono ?_; rintro e x' ⟨rfl, hx'⟩))
        have HBF := Lib.hid hx'.2.2
        clear hx'
        go_wp2_with fail
        go_meet
        refine ⟨?_, HBF.out⟩
        rw [HOV.out]
        by_cases hc : dCmp x.h x.l y0.h y0.l < 0
        · rw [decide_eq_true hc, decide_eq_false (by omega)]; rfl
        · rw [decide_eq_false hc, decide_eq_true (by omega)]; rfl
      case rest =>
        obtain ⟨rfl, HC⟩ := hcut
        replace OX := Lib.hid (OX.out.below HC.out)
        replace BX := Lib.hid (BX.out.trans (HC.out.mono BX.out.size))
        replace OO := Lib.hid (own_kept OO.out HC.out)
        replace OP := Lib.hid (OP.out.below HC.out)
        clear HC
        have hk2 : (k : Int) + 1 ≤ 6000000000001 := by have := HKN.out; omega
        obtain ⟨bb, hbb⟩ : ∃ bb, (!x.over V) = bb := ⟨_, rfl⟩
        rw [hbb]
        have HBB := Lib.hid hbb
        clear hbb
        cases bb with
        | false =>
          replace HBB := Lib.hid (show x.over V = true by simpa using HBB.out)
          rw [HBB.out] at HPX
          have HQ : Hid (pruneF (Bt.over V) (L.take (k + 1)) = P) := by rw [HPX.out]; simp [Hid]
          clear HPX
          go_wp2_with fail
          go_roundw
          case rel => exact ⟨k + 1, A', c', R, HKN.out, by go_num, by rw [HQ.out], BX.out, by rw [HQ.out]; exact OO.out, by rw [HQ.out]; exact OP.out⟩
          case measure => have := HKN.out; simp [intOf]; omega
        | true =>
          replace HBB := Lib.hid (show x.over V = false by simpa using HBB.out)
          rw [HBB.out] at HPX
          have HQ : Hid (pruneF (Bt.over V) (L.take (k + 1)) = P ++ [x]) := HPX.out
          clear HPX
          obtain ⟨p0, p1, p2, p3, p4, p5⟩ := OX.out.all6
          have hmf := mAnswer_fresh
          go_wp2_with fail
          clear hmf
          have HL0 := HLG.out _ (List.mem_of_getElem? HXX.out)
          refine (freshAnswer_any x (lg x) _ (HL0.1.below BX.out) HL0.2.1 HL0.2.2).mono ?_
          rintro e x2 ⟨fA, fk, rfl, hb2, hof⟩
          clear HL0
          have B5 : Hid (Below w.heap.size w x2) := BX.out.trans (hb2.mono BX.out.size)
          have O5 : Hid (x2.ownsRow w.heap.size 125 6 (.slice A' P.length c') P.length (CL Bt.cells R)) := own_kept OO.out hb2
          have HBB := Lib.hid hb2
          have HOF := Lib.hid hof
          clear hof
          clear hb2 p0 p1 p2 p3 p4 p5
          go_wp2_with (at_builtin; refine wpList_app rfl (.tmp 38) (.tmp 42) rfl eltAnswer w.heap.size (.slice A' P.length c') P.length (CL Bt.cells R) rfl (O5.out.alloc _) (some ⟨x2.heap.size, 0, none⟩) 1 1 ({ x with A := fA, k := fk } : Bt).cells rfl rfl (fun h => by cases h) (fresh_news x2 ({ x with A := fA, k := fk } : Bt).cells.toArray 125) (Bt.one ({ x with A := fA, k := fk } : Bt)) ?d3 ?d4 ?d5 ?_)
          case d3 => have := HLE.out; have := HKN.out; have := HSM.out; simp only [maxLen]; omega
          case d4 => have := HLE.out; have := HKN.out; have := HSM.out; omega
          case d5 => have := B5.out.size; simp; omega
          intro A9 c9 w9 ho9 hg9 hbk9
          have B9 : Hid (Below w.heap.size w w9) := below_own B5.out B5.out.size O5.out ((World.grownBy_alloc x2 _ _).trans hg9)
          have C9 := Lib.hid (OP.out.push x OO.out BX.out.size HBB.out HOF.out hg9 (q := _) hbk9 (by simp))
          have HE : Hid (P.length + 1 = (pruneF (Bt.over V) (L.take (k + 1))).length) := by rw [HQ.out, List.length_append]; exact rfl
          have O10 : Hid (w9.ownsRow w.heap.size 125 6 (.slice A9 (pruneF (Bt.over V) (L.take (k + 1))).length c9) (pruneF (Bt.over V) (L.take (k + 1))).length (CL Bt.cells (R ++ [({ x with A := fA, k := fk } : Bt)]))) := by rw [← HE.out, CL_push]; exact ho9
          have C10 : Hid (Cpy w.heap.size lg (RowB (.slice A9 (pruneF (Bt.over V) (L.take (k + 1))).length c9)) w9 (R ++ [({ x with A := fA, k := fk } : Bt)]) (pruneF (Bt.over V) (L.take (k + 1)))) := by rw [← HE.out, HQ.out]; exact C9.out
          clear ho9 hg9 O5 B5 hbk9 HBB HOF
          rw [HE.out]
          go_wp2_with fail
          go_roundw
          case rel => exact ⟨k + 1, A9, c9, _, HKN.out, by go_num, rfl, B9.out, O10.out, C10.out⟩
          case measure => have := HKN.out; simp [intOf]; omega
    · obtain rfl : k = n := by omega
      have hki : ¬ (k : Int) < (k : Int) := by omega
      rw [List.take_of_length_le (Nat.le_of_eq HL.out)] at HO HCP ⊢
      clear hkn hk
      go_wp2_with fail
      go_ret
      exact ⟨A', c', _, rfl, HR.out, HO.out, HCP.out⟩
set_option maxHeartbeats 1600000 in
set_option maxRecDepth 100000 in
theorem pruneAnswer_fn (A : Option Addr) (n c : Nat) (L : List Bt) (B : Option Addr) (m d : Nat) (V : List Dw) (lg : Bt → List Et) (w : World) (h : RdC 6 Bt.cells w A n L) (hlg : ∀ r, r ∈ L → LgOk lg w r) (hv : RdC 2 Dw.cells w B m V) (hsm : (n + 2) * 64 ≤ 140737488355328) (hsv : m ≤ 100000000000000) :
    Calls Try.prog 47 #[.slice A n c, .slice B m d] w (RetB 38 lg w (pruneF (Bt.over V) L)) := by
  have H := Lib.hid h
  have HV := Lib.hid hv
  have HL := Lib.hid h.len
  have HSM := Lib.hid hsm
  have HLG := Lib.hid hlg
  have HSV := Lib.hid hsv
  clear h hv hsm hsv hlg
  go_enter Try.func47, Try.ntmps47
  go_wp2_with fail
  refine (turn_toAnswer A n c L _ H.out (by have := HSM.out; omega)).mono ?_
  rintro e w2 ⟨A1, c1, rfl, hb2, ho2⟩
  have B2 := Lib.hid hb2
  have R2 := Lib.hid (rdBt ho2 rfl)
  have V2 := Lib.hid (HV.out.below hb2)
  clear hb2 ho2
  go_wp2_with fail
  refine (pruneAnswer_box A1 L.length c1 L B m d V lg _ R2.out (fun r hr => ⟨(HLG.out r hr).1.below B2.out, (HLG.out r hr).2⟩) V2.out (by have := HSM.out; have := HL.out; omega) HSV.out).mono ?_
  rintro e w3 ⟨A2, c2, RR, rfl, hb3, ho3, hc3⟩
  have hl2 := hc3.len
  have HCP := Lib.hid hc3
  have B3 : Hid (Below w.heap.size w w3) := B2.out.trans (hb3.mono B2.out.size)
  have R3 := Lib.hid (rdBt ho3 hl2)
  clear hb3 ho3 R2 V2
  go_wp2_with fail
  refine (turn_fromAnswer A2 _ c2 RR _ R3.out (by have h0 := pruneF_len (Bt.over V) L; have := HSM.out; have := HL.out; omega)).mono ?_
  rintro e w4 ⟨A3, c3, rfl, hb4, ho4⟩
  have B4 : Hid (Below w.heap.size w w4) := B3.out.trans (hb4.mono B3.out.size)
  have O4 := Lib.hid (own_mono ho4 B3.out.size)
  have HC := Lib.hid (show Cpy w.heap.size lg (RowB (.slice A3 (pruneF (Bt.over V) L).length c3)) w4 RR (pruneF (Bt.over V) L) from ((HCP.out.lower B2.out.size).more.below hb4).mono (fun j e => .inr (ho4.lt j (by rw [hl2]; exact e)).1))
  rw [hl2] at O4 ⊢
  clear hb4 ho4 R3 hc3 hl2 HCP
  go_wp2_with fail
  go_ret
  exact ⟨A3, c3, _, rfl, B4.out, O4.out, HC.out⟩
end Go.Proofs.Ytjjobgolpedgeaa
set_option linter.unusedVariables false
set_option linter.unusedSimpArgs false
namespace Go.Proofs.Ytjjobgolpedgeaa
open Go.RowKit

abbrev Lt.over (V : List Dw) (x : Lt) : Bool := overV V x.n x.h x.l
theorem pruneF_map {α β : Type} {oA : α → Bool} {oB : β → Bool} {g : α → β} (h : ∀ x, oB (g x) = oA x) (L : List α) : (pruneF oA L).map g = pruneF oB (L.map g) := by
  unfold pruneF
  rw [List.filter_map]
  congr 1
  refine List.filter_congr fun x _ => ?_
  simp only [Function.comp, h]
theorem pruneBallot_w (A : Option Addr) (n c : Nat) (V : List Lt) (B : Option Addr) (m d : Nat) (U : List Dw) (w : World) (h : RdV w A n V) (hv : RdC 2 Dw.cells w B m U) (hsm : (n + 2) * 64 ≤ 140737488355328) (hsv : m ≤ 100000000000000) :
    Calls Try.prog 46 #[.slice A n c, .slice B m d] w (RetW w (pruneF (Lt.over U) V)) := by
  obtain ⟨R, h1, h2, h3⟩ := h.raws
  refine (pruneBallot_fn A n c R B m d U (lgAt w) w h1 h2 hv hsm hsv).mono fun e w' h => ?_
  have := retW_of h (fun r hr => h2 r (List.mem_filter.1 hr).1)
  rw [pruneF_map (oA := Bt.over U) (oB := Lt.over U) (g := Bt.abs (lgAt w)) (fun _ => rfl), h3] at this
  exact this
theorem pruneAnswer_w (A : Option Addr) (n c : Nat) (V : List Lt) (B : Option Addr) (m d : Nat) (U : List Dw) (w : World) (h : RdV w A n V) (hv : RdC 2 Dw.cells w B m U) (hsm : (n + 2) * 64 ≤ 140737488355328) (hsv : m ≤ 100000000000000) :
    Calls Try.prog 47 #[.slice A n c, .slice B m d] w (RetW w (pruneF (Lt.over U) V)) := by
  obtain ⟨R, h1, h2, h3⟩ := h.raws
  refine (pruneAnswer_fn A n c R B m d U (lgAt w) w h1 h2 hv hsm hsv).mono fun e w' h => ?_
  have := retW_of h (fun r hr => h2 r (List.mem_filter.1 hr).1)
  rw [pruneF_map (oA := Bt.over U) (oB := Lt.over U) (g := Bt.abs (lgAt w)) (fun _ => rfl), h3] at this
  exact this
end Go.Proofs.Ytjjobgolpedgeaa
