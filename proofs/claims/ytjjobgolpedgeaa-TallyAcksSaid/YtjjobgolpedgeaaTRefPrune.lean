/-
  The walks of the document's over, PruneAcks, PruneMarks.
-/
import Derived.Test.YtjjobgolpedgeaaTRefCmp
import Derived.Test.YtjjobgolpedgeaaTPutX
set_option linter.unusedVariables false
set_option linter.unusedSimpArgs false
namespace Go.Proofs.Ytjjobgolpedgeaa
open Go.RowKit

set_option maxHeartbeats 4000000 in
set_option maxRecDepth 100000 in
theorem refOver_any (B : Option Addr) (m d : Nat) (V : List Dw) (n : Int) (h l : Nat) (w : World) (hv : RdC 2 Dw.cells w B m V) (hsv : m ≤ 100000000000000) :
    Calls Try.prog 104 #[.slice B m d, .int .i64 n, .agg #[.int .u64 (h : Nat), .int .u64 (l : Nat)]] w fun e w' => e = .returned (.bool (overV V n h l)) ∧ Below w.heap.size w w' := by
  have HV := Lib.hid hv
  have HVL := Lib.hid hv.len
  have hm : (m : Int) ≤ 100000000000000 := by omega
  clear hv hsv
  go_enter Try.func104, Try.ntmps104
  go_wp2_with fail
  have OX := Lib.hid (Ob.fresh w #[.int .u64 (h : Nat), .int .u64 (l : Nat)] 27)
  have BX : Hid (Below w.heap.size w (w.alloc (.cells #[.int .u64 (h : Nat), .int .u64 (l : Nat)] 27))) := below_al _ _
  generalize w.alloc (.cells #[.int .u64 (h : Nat), .int .u64 (l : Nat)] 27) = w5 at OX BX ⊢
  generalize w.heap.size = r at OX ⊢
  by_cases h1 : n < 0
  case pos =>
    have HOV : Hid (overV V n h l = false) := overV_neg h1
    have h1' : ¬ (0 : Int) ≤ n := by omega
    go_quiet (fail)
    go_wp2_with fail
    go_ret
    exact ⟨by rw [HOV.out]; exact rfl, Below.drewN BX.out _⟩
  have h4 : (0 : Int) ≤ n := by omega
  by_cases h2 : n < (m : Int)
  case neg =>
    have HOV : Hid (overV V n h l = false) := overV_far HVL.out h2
    go_quiet (fail)
    go_wp2_with fail
    go_ret
    exact ⟨by rw [HOV.out]; exact rfl, Below.drewN BX.out _⟩
  have d1 : decide ((0 : Int) ≤ n) = true := decide_eq_true h4
  have d3 : decide (n < (m : Int)) = true := decide_eq_true h2
  obtain ⟨y0, hy⟩ : ∃ y, V[n.toNat]? = some y := ⟨_, List.getElem?_eq_getElem (by have := HVL.out; omega)⟩
  have HOV := Lib.hid (overV_at (h := h) (l := l) h1 hy)
  obtain ⟨vd, rfl, v0, v1⟩ := (HV.out.below BX.out).atDw hy
  have o0 := OX.out.cell 0 rfl
  have o1 := OX.out.cell 1 rfl
  have FC := Lib.hid (fun y (hx : ((y.cell? ⟨r, 0, none⟩ = some (.int .u64 (h : Nat)) ∧ y.cell? ⟨r, 1, none⟩ = some (.int .u64 (l : Nat))) ∧ (y.cell? (vd.add (n.toNat * 2)) = some (.int .u64 (y0.h : Nat)) ∧ y.cell? ⟨(vd.add (n.toNat * 2)).block, (vd.add (n.toNat * 2)).off + 1, none⟩ = some (.int .u64 (y0.l : Nat))) ∧ Below w5.heap.size w5 y)) => (refCompare_any h l y0.h y0.l y).mono (fun e y' (h9 : _ ∧ _) => show e = .returned (.int .i64 (dCmp h l y0.h y0.l)) ∧ ((y'.cell? ⟨r, 0, none⟩ = some (.int .u64 (h : Nat)) ∧ y'.cell? ⟨r, 1, none⟩ = some (.int .u64 (l : Nat))) ∧ (y'.cell? (vd.add (n.toNat * 2)) = some (.int .u64 (y0.h : Nat)) ∧ y'.cell? ⟨(vd.add (n.toNat * 2)).block, (vd.add (n.toNat * 2)).off + 1, none⟩ = some (.int .u64 (y0.l : Nat))) ∧ Below w5.heap.size w5 y') from ⟨h9.1, ⟨(h9.2.cell (World.block_lt_of_cell? y _ hx.1.1)).trans hx.1.1, (h9.2.cell (World.block_lt_of_cell? y _ hx.1.2)).trans hx.1.2⟩, ⟨(h9.2.cell (World.block_lt_of_cell? y _ hx.2.1.1)).trans hx.2.1.1, (h9.2.cell (World.block_lt_of_cell? y _ hx.2.1.2)).trans hx.2.1.2⟩, hx.2.2.trans (h9.2.mono hx.2.2.size)⟩))
  clear hy
  obtain ⟨cc, hcc⟩ : ∃ cc, dCmp h l y0.h y0.l = cc := ⟨_, rfl⟩
  rw [hcc] at FC HOV
  clear hcc
  go_region_held3 (fun y => ((y.cell? ⟨r, 0, none⟩ = some (.int .u64 (h : Nat)) ∧ y.cell? ⟨r, 1, none⟩ = some (.int .u64 (l : Nat))) ∧ (y.cell? (vd.add (n.toNat * 2)) = some (.int .u64 (y0.h : Nat)) ∧ y.cell? ⟨(vd.add (n.toNat * 2)).block, (vd.add (n.toNat * 2)).off + 1, none⟩ = some (.int .u64 (y0.l : Nat))) ∧ Below w5.heap.size w5 y)) (first | exact ⟨⟨o0, o1⟩, ⟨v0, v1⟩, Below.drew (Below.refl _ _)⟩ | assumption | go_keep)
    (first | (go_at_call 136; refine (FC.out _ (by first | assumption | (simp [*]))).mono ?_; rintro e x' ⟨rfl, hx'⟩))
  have HBF := Lib.hid hx'.2.2
  clear hx'
  go_wp2_with fail
  go_ret
  exact ⟨by rw [HOV.out]; exact rfl, BX.out.trans (HBF.out.mono BX.out.size)⟩
set_option maxHeartbeats 8000000 in
set_option maxRecDepth 100000 in
theorem refPruneAck_fn (A : Option Addr) (n c : Nat) (L : List Ak) (B : Option Addr) (m d : Nat) (V : List Dw) (w : World) (h : RdC 4 Ak.cells w A n L) (hv : RdC 2 Dw.cells w B m V) (hsm : n * 32 ≤ 140737488351232) (hsv : m ≤ 100000000000000) :
    Calls Try.prog 55 #[.slice A n c, .slice B m d] w (RetL 29 4 Ak.cells w (pruneF (Ak.over V) L)) := by
  have H := Lib.hid h
  have HV := Lib.hid hv
  have HL := Lib.hid h.len
  have HSV := Lib.hid hsv
  have hn : (n : Int) ≤ 6000000000000 := by omega
  have HSM := Lib.hid hsm
  clear h hv hsm hsv
  go_enter Try.func55, Try.ntmps55
  go_wp2_with fail
  go_loopw [5, 6] (fun vv iv wr => ∃ (k : Nat) (A' : Option Addr) (c' : Nat), k ≤ n ∧ iv = .int .i64 k ∧ vv = .slice A' (pruneF (Ak.over V) (L.take k)).length c' ∧ Hid (Below w.heap.size w wr) ∧ Hid (wr.ownsRow w.heap.size 29 4 (.slice A' (pruneF (Ak.over V) (L.take k)).length c') (pruneF (Ak.over V) (L.take k)).length (CL Ak.cells (pruneF (Ak.over V) (L.take k))))) (fun _ iv _ => n - (intOf iv).toNat)
  case atStart => exact ⟨0, none, 0, by omega, rfl, rfl, Below.refl _ _, World.ownsRow_nil _ _ _ _⟩
  case round =>
    obtain ⟨k, A', c', hk, rfl, rfl, HR, HO⟩ := hrel
    by_cases hkn : k < n
    · obtain ⟨x, hx⟩ : ∃ x, L[k]? = some x := ⟨_, List.getElem?_eq_getElem (by have := HL.out; omega)⟩
      obtain ⟨ad, rfl, g0, g1, g2, g3⟩ := (H.out.below HR.out).atAk hx
      have hki : (k : Int) < (n : Int) := by omega
      have HPX : Hid (pruneF (Ak.over V) (L.take (k + 1)) = (pruneF (Ak.over V) (L.take k)) ++ if x.over V then [] else [x]) := by rw [take_next hx]; exact pruneF_push _ _ _
      have HLE : Hid ((pruneF (Ak.over V) (L.take k)).length ≤ k) := by have := pruneF_len (Ak.over V) (L.take k); rw [List.length_take] at this; simp only [Hid]; omega
      obtain ⟨P, hP⟩ : ∃ P, (pruneF (Ak.over V) (L.take k)) = P := ⟨_, rfl⟩
      rw [hP] at HO HPX HLE ⊢
      have HKN := Lib.hid hkn
      have HXX := Lib.hid hx
      clear hx hkn hk hP
      go_upto_region 5 with fail
      have VR := Lib.hid (HV.out.below HR.out)
      have FO := Lib.hid (fun y (hx : ((y.cell? (ad.add (k * 4)) = some (.int .i64 x.n) ∧ y.cell? ⟨(ad.add (k * 4)).block, (ad.add (k * 4)).off + 1, none⟩ = some (.int .u64 (x.h : Nat)) ∧ y.cell? ⟨(ad.add (k * 4)).block, (ad.add (k * 4)).off + 2, none⟩ = some (.int .u64 (x.l : Nat))) ∧ Below wr.heap.size wr y)) => (refOver_any B m d V x.n x.h x.l y (VR.out.below hx.2) HSV.out).mono (fun e y' (h9 : _ ∧ _) => show e = .returned (.bool (overV V x.n x.h x.l)) ∧ ((y'.cell? (ad.add (k * 4)) = some (.int .i64 x.n) ∧ y'.cell? ⟨(ad.add (k * 4)).block, (ad.add (k * 4)).off + 1, none⟩ = some (.int .u64 (x.h : Nat)) ∧ y'.cell? ⟨(ad.add (k * 4)).block, (ad.add (k * 4)).off + 2, none⟩ = some (.int .u64 (x.l : Nat))) ∧ Below wr.heap.size wr y') from ⟨h9.1, ⟨(h9.2.cell (World.block_lt_of_cell? y _ hx.1.1)).trans hx.1.1, (h9.2.cell (World.block_lt_of_cell? y _ hx.1.2.1)).trans hx.1.2.1, (h9.2.cell (World.block_lt_of_cell? y _ hx.1.2.2)).trans hx.1.2.2⟩, hx.2.trans (h9.2.mono hx.2.size)⟩))
      obtain ⟨bb, hbb⟩ : ∃ bb, overV V x.n x.h x.l = bb := ⟨_, rfl⟩
      rw [hbb] at FO
      have HBB : Hid (x.over V = bb) := hbb
      clear hbb
      go_region_held3 (fun y => ((y.cell? (ad.add (k * 4)) = some (.int .i64 x.n) ∧ y.cell? ⟨(ad.add (k * 4)).block, (ad.add (k * 4)).off + 1, none⟩ = some (.int .u64 (x.h : Nat)) ∧ y.cell? ⟨(ad.add (k * 4)).block, (ad.add (k * 4)).off + 2, none⟩ = some (.int .u64 (x.l : Nat))) ∧ Below wr.heap.size wr y)) (first | exact ⟨⟨g0, g1, g2⟩, Below.drew (Below.refl _ _)⟩ | assumption | go_keep)
        (first | (go_at_call 104; refine (FO.out _ (by first | assumption | (simp [*]))).mono ?_; rintro e x' ⟨rfl, hx'⟩))
      have HC := Lib.hid hx'.2
      have BX : Hid (Below w.heap.size w x') := HR.out.trans (HC.out.mono HR.out.size)
      have OO := Lib.hid (own_kept HO.out HC.out)
      clear hx' FO VR HO HR HC g0 g1 g2 g3
      have hk2 : (k : Int) + 1 ≤ 6000000000001 := by have := HKN.out; omega
      obtain ⟨nb, hnb⟩ : ∃ nb, (!bb) = nb := ⟨_, rfl⟩
      rw [hnb]
      cases nb with
      | false =>
        have hbt : bb = true := by simpa using hnb
        rw [hbt] at HBB
        rw [HBB.out] at HPX
        clear hnb hbt
        have HQ : Hid (pruneF (Ak.over V) (L.take (k + 1)) = P) := by rw [HPX.out]; simp [Hid]
        clear HPX
        go_wp2_with fail
        go_roundw
        case rel => exact ⟨k + 1, A', c', HKN.out, by go_num, by rw [HQ.out], BX.out, by rw [HQ.out]; exact OO.out⟩
        case measure => have := HKN.out; simp [intOf]; omega
      | true =>
        have hbt : bb = false := by simpa using hnb
        rw [hbt] at HBB
        rw [HBB.out] at HPX
        clear hnb hbt
        have HQ : Hid (pruneF (Ak.over V) (L.take (k + 1)) = P ++ [x]) := HPX.out
        clear HPX
        obtain ⟨ad', e, g0, g1, g2, g3⟩ := (H.out.below BX.out).atAk HXX.out
        cases e
        go_wp2_with (at_builtin; refine wpList_app rfl (.tmp 26) (.tmp 31) rfl eltApiAck w.heap.size (.slice A' P.length c') P.length (CL Ak.cells P) rfl (OO.out.alloc _) (some ⟨x'.heap.size, 0, none⟩) 1 1 x.cells rfl rfl (fun h => by cases h) (fresh_news x' x.cells.toArray 29) (Ak.one x) ?d3 ?d4 ?d5 ?_)
        case d3 => have := HLE.out; have := HKN.out; have := HSM.out; simp only [maxLen]; omega
        case d4 => have := HLE.out; have := HKN.out; have := HSM.out; omega
        case d5 => have := BX.out.size; simp; omega
        intro A9 c9 w9 ho9 hg9 _
        have B9 : Hid (Below w.heap.size w w9) := below_own BX.out BX.out.size OO.out ((World.grownBy_alloc x' _ _).trans hg9)
        have HE : Hid (P.length + 1 = (pruneF (Ak.over V) (L.take (k + 1))).length) := by rw [HQ.out, List.length_append]; exact rfl
        have O10 : Hid (w9.ownsRow w.heap.size 29 4 (.slice A9 (pruneF (Ak.over V) (L.take (k + 1))).length c9) (pruneF (Ak.over V) (L.take (k + 1))).length (CL Ak.cells (pruneF (Ak.over V) (L.take (k + 1))))) := by rw [← HE.out, HQ.out, CL_push]; exact ho9
        clear ho9 hg9 OO g0 g1 g2 g3
        rw [HE.out]
        go_wp2_with fail
        go_roundw
        case rel => exact ⟨k + 1, A9, c9, HKN.out, by go_num, rfl, B9.out, O10.out⟩
        case measure => have := HKN.out; simp [intOf]; omega
    · obtain rfl : k = n := by omega
      have hki : ¬ (k : Int) < (k : Int) := by omega
      rw [List.take_of_length_le (Nat.le_of_eq HL.out)] at HO ⊢
      clear hkn hk
      go_wp2_with fail
      go_ret
      exact ⟨A', c', rfl, HR.out, HO.out⟩
set_option maxHeartbeats 8000000 in
set_option maxRecDepth 100000 in
theorem refPruneMark_fn (A : Option Addr) (n c : Nat) (L : List Mk) (B : Option Addr) (m d : Nat) (V : List Dw) (w : World) (h : RdC 3 Mk.cells w A n L) (hv : RdC 2 Dw.cells w B m V) (hsm : n * 24 ≤ 140737488351232) (hsv : m ≤ 100000000000000) :
    Calls Try.prog 43 #[.slice A n c, .slice B m d] w (RetL 49 3 Mk.cells w (pruneF (Mk.over V) L)) := by
  have H := Lib.hid h
  have HV := Lib.hid hv
  have HL := Lib.hid h.len
  have HSV := Lib.hid hsv
  have hn : (n : Int) ≤ 6000000000000 := by omega
  have HSM := Lib.hid hsm
  clear h hv hsm hsv
  go_enter Try.func43, Try.ntmps43
  go_wp2_with fail
  go_loopw [5, 6] (fun vv iv wr => ∃ (k : Nat) (A' : Option Addr) (c' : Nat), k ≤ n ∧ iv = .int .i64 k ∧ vv = .slice A' (pruneF (Mk.over V) (L.take k)).length c' ∧ Hid (Below w.heap.size w wr) ∧ Hid (wr.ownsRow w.heap.size 49 3 (.slice A' (pruneF (Mk.over V) (L.take k)).length c') (pruneF (Mk.over V) (L.take k)).length (CL Mk.cells (pruneF (Mk.over V) (L.take k))))) (fun _ iv _ => n - (intOf iv).toNat)
  case atStart => exact ⟨0, none, 0, by omega, rfl, rfl, Below.refl _ _, World.ownsRow_nil _ _ _ _⟩
  case round =>
    obtain ⟨k, A', c', hk, rfl, rfl, HR, HO⟩ := hrel
    by_cases hkn : k < n
    · obtain ⟨x, hx⟩ : ∃ x, L[k]? = some x := ⟨_, List.getElem?_eq_getElem (by have := HL.out; omega)⟩
      obtain ⟨ad, rfl, g0, g1, g2⟩ := (H.out.below HR.out).atMk hx
      have hki : (k : Int) < (n : Int) := by omega
      have HPX : Hid (pruneF (Mk.over V) (L.take (k + 1)) = (pruneF (Mk.over V) (L.take k)) ++ if x.over V then [] else [x]) := by rw [take_next hx]; exact pruneF_push _ _ _
      have HLE : Hid ((pruneF (Mk.over V) (L.take k)).length ≤ k) := by have := pruneF_len (Mk.over V) (L.take k); rw [List.length_take] at this; simp only [Hid]; omega
      obtain ⟨P, hP⟩ : ∃ P, (pruneF (Mk.over V) (L.take k)) = P := ⟨_, rfl⟩
      rw [hP] at HO HPX HLE ⊢
      have HKN := Lib.hid hkn
      have HXX := Lib.hid hx
      clear hx hkn hk hP
      go_upto_region 5 with fail
      have VR := Lib.hid (HV.out.below HR.out)
      have FO := Lib.hid (fun y (hx : ((y.cell? (ad.add (k * 3)) = some (.int .i64 x.n) ∧ y.cell? ⟨(ad.add (k * 3)).block, (ad.add (k * 3)).off + 1, none⟩ = some (.int .u64 (x.h : Nat)) ∧ y.cell? ⟨(ad.add (k * 3)).block, (ad.add (k * 3)).off + 2, none⟩ = some (.int .u64 (x.l : Nat))) ∧ Below wr.heap.size wr y)) => (refOver_any B m d V x.n x.h x.l y (VR.out.below hx.2) HSV.out).mono (fun e y' (h9 : _ ∧ _) => show e = .returned (.bool (overV V x.n x.h x.l)) ∧ ((y'.cell? (ad.add (k * 3)) = some (.int .i64 x.n) ∧ y'.cell? ⟨(ad.add (k * 3)).block, (ad.add (k * 3)).off + 1, none⟩ = some (.int .u64 (x.h : Nat)) ∧ y'.cell? ⟨(ad.add (k * 3)).block, (ad.add (k * 3)).off + 2, none⟩ = some (.int .u64 (x.l : Nat))) ∧ Below wr.heap.size wr y') from ⟨h9.1, ⟨(h9.2.cell (World.block_lt_of_cell? y _ hx.1.1)).trans hx.1.1, (h9.2.cell (World.block_lt_of_cell? y _ hx.1.2.1)).trans hx.1.2.1, (h9.2.cell (World.block_lt_of_cell? y _ hx.1.2.2)).trans hx.1.2.2⟩, hx.2.trans (h9.2.mono hx.2.size)⟩))
      obtain ⟨bb, hbb⟩ : ∃ bb, overV V x.n x.h x.l = bb := ⟨_, rfl⟩
      rw [hbb] at FO
      have HBB : Hid (x.over V = bb) := hbb
      clear hbb
      go_region_held3 (fun y => ((y.cell? (ad.add (k * 3)) = some (.int .i64 x.n) ∧ y.cell? ⟨(ad.add (k * 3)).block, (ad.add (k * 3)).off + 1, none⟩ = some (.int .u64 (x.h : Nat)) ∧ y.cell? ⟨(ad.add (k * 3)).block, (ad.add (k * 3)).off + 2, none⟩ = some (.int .u64 (x.l : Nat))) ∧ Below wr.heap.size wr y)) (first | exact ⟨⟨g0, g1, g2⟩, Below.drew (Below.refl _ _)⟩ | assumption | go_keep)
        (first | (go_at_call 104; refine (FO.out _ (by first | assumption | (simp [*]))).mono ?_; rintro e x' ⟨rfl, hx'⟩))
      have HC := Lib.hid hx'.2
      have BX : Hid (Below w.heap.size w x') := HR.out.trans (HC.out.mono HR.out.size)
      have OO := Lib.hid (own_kept HO.out HC.out)
      clear hx' FO VR HO HR HC g0 g1 g2
      have hk2 : (k : Int) + 1 ≤ 6000000000001 := by have := HKN.out; omega
      obtain ⟨nb, hnb⟩ : ∃ nb, (!bb) = nb := ⟨_, rfl⟩
      rw [hnb]
      cases nb with
      | false =>
        have hbt : bb = true := by simpa using hnb
        rw [hbt] at HBB
        rw [HBB.out] at HPX
        clear hnb hbt
        have HQ : Hid (pruneF (Mk.over V) (L.take (k + 1)) = P) := by rw [HPX.out]; simp [Hid]
        clear HPX
        go_wp2_with fail
        go_roundw
        case rel => exact ⟨k + 1, A', c', HKN.out, by go_num, by rw [HQ.out], BX.out, by rw [HQ.out]; exact OO.out⟩
        case measure => have := HKN.out; simp [intOf]; omega
      | true =>
        have hbt : bb = false := by simpa using hnb
        rw [hbt] at HBB
        rw [HBB.out] at HPX
        clear hnb hbt
        have HQ : Hid (pruneF (Mk.over V) (L.take (k + 1)) = P ++ [x]) := HPX.out
        clear HPX
        obtain ⟨ad', e, g0, g1, g2⟩ := (H.out.below BX.out).atMk HXX.out
        cases e
        go_wp2_with (at_builtin; refine wpList_app rfl (.tmp 26) (.tmp 31) rfl eltApiMark w.heap.size (.slice A' P.length c') P.length (CL Mk.cells P) rfl (OO.out.alloc _) (some ⟨x'.heap.size, 0, none⟩) 1 1 x.cells rfl rfl (fun h => by cases h) (fresh_news x' x.cells.toArray 49) (Mk.one x) ?d3 ?d4 ?d5 ?_)
        case d3 => have := HLE.out; have := HKN.out; have := HSM.out; simp only [maxLen]; omega
        case d4 => have := HLE.out; have := HKN.out; have := HSM.out; omega
        case d5 => have := BX.out.size; simp; omega
        intro A9 c9 w9 ho9 hg9 _
        have B9 : Hid (Below w.heap.size w w9) := below_own BX.out BX.out.size OO.out ((World.grownBy_alloc x' _ _).trans hg9)
        have HE : Hid (P.length + 1 = (pruneF (Mk.over V) (L.take (k + 1))).length) := by rw [HQ.out, List.length_append]; exact rfl
        have O10 : Hid (w9.ownsRow w.heap.size 49 3 (.slice A9 (pruneF (Mk.over V) (L.take (k + 1))).length c9) (pruneF (Mk.over V) (L.take (k + 1))).length (CL Mk.cells (pruneF (Mk.over V) (L.take (k + 1))))) := by rw [← HE.out, HQ.out, CL_push]; exact ho9
        clear ho9 hg9 OO g0 g1 g2
        rw [HE.out]
        go_wp2_with fail
        go_roundw
        case rel => exact ⟨k + 1, A9, c9, HKN.out, by go_num, rfl, B9.out, O10.out⟩
        case measure => have := HKN.out; simp [intOf]; omega
    · obtain rfl : k = n := by omega
      have hki : ¬ (k : Int) < (k : Int) := by omega
      rw [List.take_of_length_le (Nat.le_of_eq HL.out)] at HO ⊢
      clear hkn hk
      go_wp2_with fail
      go_ret
      exact ⟨A', c', rfl, HR.out, HO.out⟩
end Go.Proofs.Ytjjobgolpedgeaa
