/-
  The walk of tally.box.put of answers.
-/
import Derived.Test.YtjjobgolpedgeaaTCpy
set_option linter.unusedVariables false
set_option linter.unusedSimpArgs false
namespace Go.Proofs.Ytjjobgolpedgeaa
open Go.RowKit

def PutPostAnswer (L : List Bt) (v : Bt) (lg : Bt → List Et) (w : World) (e : Ending) (w' : World) : Prop := ∃ at_ same, Plc Bt.n L v at_ same ∧ RetB 125 lg w (putL Bt.wins L v at_ same) e w'
set_option maxHeartbeats 4000000 in
set_option maxRecDepth 100000 in
theorem putAnswer_box (A : Option Addr) (n c : Nat) (L : List Bt) (v : Bt) (lg : Bt → List Et) (w : World) (h : RdC 6 Bt.cells w A n L) (hlg : ∀ r, r = v ∨ r ∈ L → RdC 5 Et.cells w r.A r.m (lg r) ∧ (r.A = none → r.m = 0 ∧ r.k = 0) ∧ r.m * 48 ≤ 140737488355328) (hsm : (n + 2) * 64 ≤ 140737488355328) :
    Calls Try.prog 81 #[.agg #[.slice A n c], v.agg] w (PutPostAnswer L v lg w) := by
  have H := Lib.hid h
  have hn : (n : Int) ≤ 6000000000000 := by omega
  have HSM := Lib.hid hsm
  have HLG := Lib.hid hlg
  clear h hsm hlg
  go_enter Try.func81, Try.ntmps81
  go_upto_block 0 with fail
  have BW : Hid (Below w.heap.size w ((w.alloc (.cells #[.slice A n c] 130)).alloc (.cells #[.int .i64 v.n, .int .u64 (v.h : Nat), .int .u64 (v.l : Nat), .int .i64 v.v, .int .i64 v.c, .slice v.A v.m v.k] 125))) := ((Below.refl _ _).alloc (Nat.le_refl _) _).alloc (by simp) _
  have H2 := Lib.hid (H.out.below BW.out)
  have OA2 := Lib.hid ((Ob.fresh w #[.slice A n c] 130).alloc (.cells #[.int .i64 v.n, .int .u64 (v.h : Nat), .int .u64 (v.l : Nat), .int .i64 v.v, .int .i64 v.c, .slice v.A v.m v.k] 125))
  have OV2 := Lib.hid (Ob.fresh (w.alloc (.cells #[.slice A n c] 130)) #[.int .i64 v.n, .int .u64 (v.h : Nat), .int .u64 (v.l : Nat), .int .i64 v.v, .int .i64 v.c, .slice v.A v.m v.k] 125)
  have HZ2 : Hid (w.heap.size + 1 < ((w.alloc (.cells #[.slice A n c] 130)).alloc (.cells #[.int .i64 v.n, .int .u64 (v.h : Nat), .int .u64 (v.l : Nat), .int .i64 v.v, .int .i64 v.c, .slice v.A v.m v.k] 125)).heap.size) := by simp only [Hid, World.size_alloc]; omega
  rw [World.size_alloc] at OV2
  generalize (w.alloc (.cells #[.slice A n c] 130)).alloc (.cells #[.int .i64 v.n, .int .u64 (v.h : Nat), .int .u64 (v.l : Nat), .int .i64 v.v, .int .i64 v.c, .slice v.A v.m v.k] 125) = w2 at H2 BW OA2 OV2 HZ2 ⊢
  obtain ⟨b, hb⟩ : ∃ b, w.heap.size = b := ⟨_, rfl⟩
  rw [hb] at OA2 OV2 HZ2 ⊢
  have HB := Lib.hid hb
  have HLG0 := HLG
  clear HLG
  have HLG : Hid (∀ r, r = v ∨ r ∈ L → RdC 5 Et.cells w2 r.A r.m (lg r) ∧ (r.A = none → r.m = 0 ∧ r.k = 0) ∧ r.m * 48 ≤ 140737488355328) := fun r hr => ⟨(HLG0.out r hr).1.below BW.out, (HLG0.out r hr).2⟩
  clear hb H HLG0
  go_cut [5, 6] (fun av sv wx => ∃ (k : Nat) (same : Bool), av = .int .i64 k ∧ sv = .bool same ∧ Hid (Fnd Bt.n L v k same ∧ Below w2.heap.size w2 wx))
  case first =>
    go_wp2_with fail
    go_loopw [5, 6, 21] (fun av sv iv wr => ∃ (k : Nat), k ≤ n ∧ av = .int .i64 n ∧ sv = .bool false ∧ iv = .int .i64 k ∧ Hid (Below w2.heap.size w2 wr) ∧ Hid (∀ j x, j < k → L[j]? = some x → x.n ≠ v.n)) (fun _ _ iv _ => n - (intOf iv).toNat)
    case atStart => exact ⟨0, by omega, rfl, rfl, rfl, Below.refl _ _, fun j x hj => by omega⟩
    case round =>
      obtain ⟨k, hk, rfl, rfl, rfl, HR, HP⟩ := hrel
      by_cases hkn : k < n
      · obtain ⟨x, hx⟩ : ∃ x, L[k]? = some x := ⟨_, List.getElem?_eq_getElem (by have := H2.out.len; omega)⟩
        obtain ⟨ad, rfl, g0, g1, g2, g3, g4, g5⟩ := (H2.out.below HR.out).atBt hx
        have hki : (k : Int) < (n : Int) := by omega
        have HXX := Lib.hid hx
        have HKN := Lib.hid hkn
        clear hx hkn hk
        go_wp2_with fail
        have OX := Ob.fresh wr #[.int .i64 x.n, .int .u64 (x.h : Nat), .int .u64 (x.l : Nat), .int .i64 x.v, .int .i64 x.c, .slice x.A x.m x.k] 125
        have OV := (OV2.out.below HR.out).alloc (.cells #[.int .i64 x.n, .int .u64 (x.h : Nat), .int .u64 (x.l : Nat), .int .i64 x.v, .int .i64 x.c, .slice x.A x.m x.k] 125)
        have BX : Hid (Below w2.heap.size w2 (wr.alloc (.cells #[.int .i64 x.n, .int .u64 (x.h : Nat), .int .u64 (x.l : Nat), .int .i64 x.v, .int .i64 x.c, .slice x.A x.m x.k] 125))) := HR.out.alloc HR.out.size _
        have HRB : Hid (w2.heap.size ≤ wr.heap.size) := HR.out.size
        have HRZ : Hid (wr.heap.size < (wr.alloc (.cells #[.int .i64 x.n, .int .u64 (x.h : Nat), .int .u64 (x.l : Nat), .int .i64 x.v, .int .i64 x.c, .slice x.A x.m x.k] 125)).heap.size) := by simp only [Hid, World.size_alloc]; omega
        generalize wr.alloc (.cells #[.int .i64 x.n, .int .u64 (x.h : Nat), .int .u64 (x.l : Nat), .int .i64 x.v, .int .i64 x.c, .slice x.A x.m x.k] 125) = w3 at OX OV BX HRZ ⊢
        generalize wr.heap.size = r at OX HRB HRZ ⊢
        clear g0 g1 g2 g3 g4 g5
        have OXH := Lib.hid OX
        have OVH := Lib.hid OV
        replace OX := OX.all6
        replace OV := OV.all6
        have kp : ∀ y y', ((y.cell? ⟨r, 0, none⟩ = some (.int .i64 x.n) ∧ y.cell? ⟨r, 1, none⟩ = some (.int .u64 (x.h : Nat)) ∧ y.cell? ⟨r, 2, none⟩ = some (.int .u64 (x.l : Nat)) ∧ y.cell? ⟨r, 3, none⟩ = some (.int .i64 x.v) ∧ y.cell? ⟨r, 4, none⟩ = some (.int .i64 x.c) ∧ y.cell? ⟨r, 5, none⟩ = some (.slice x.A x.m x.k)) ∧ (y.cell? ⟨b + 1, 0, none⟩ = some (.int .i64 v.n) ∧ y.cell? ⟨b + 1, 1, none⟩ = some (.int .u64 (v.h : Nat)) ∧ y.cell? ⟨b + 1, 2, none⟩ = some (.int .u64 (v.l : Nat)) ∧ y.cell? ⟨b + 1, 3, none⟩ = some (.int .i64 v.v) ∧ y.cell? ⟨b + 1, 4, none⟩ = some (.int .i64 v.c) ∧ y.cell? ⟨b + 1, 5, none⟩ = some (.slice v.A v.m v.k)) ∧ Below w3.heap.size w3 y) → Below y.heap.size y y' → ((y'.cell? ⟨r, 0, none⟩ = some (.int .i64 x.n) ∧ y'.cell? ⟨r, 1, none⟩ = some (.int .u64 (x.h : Nat)) ∧ y'.cell? ⟨r, 2, none⟩ = some (.int .u64 (x.l : Nat)) ∧ y'.cell? ⟨r, 3, none⟩ = some (.int .i64 x.v) ∧ y'.cell? ⟨r, 4, none⟩ = some (.int .i64 x.c) ∧ y'.cell? ⟨r, 5, none⟩ = some (.slice x.A x.m x.k)) ∧ (y'.cell? ⟨b + 1, 0, none⟩ = some (.int .i64 v.n) ∧ y'.cell? ⟨b + 1, 1, none⟩ = some (.int .u64 (v.h : Nat)) ∧ y'.cell? ⟨b + 1, 2, none⟩ = some (.int .u64 (v.l : Nat)) ∧ y'.cell? ⟨b + 1, 3, none⟩ = some (.int .i64 v.v) ∧ y'.cell? ⟨b + 1, 4, none⟩ = some (.int .i64 v.c) ∧ y'.cell? ⟨b + 1, 5, none⟩ = some (.slice v.A v.m v.k)) ∧ Below w3.heap.size w3 y') := fun y y' hx hb => ⟨keep6 hb hx.1, keep6 hb hx.2.1, hx.2.2.trans (hb.mono hx.2.2.size)⟩
        have Fnode := Lib.hid (fun (z : Bt) y (hx : ((y.cell? ⟨r, 0, none⟩ = some (.int .i64 x.n) ∧ y.cell? ⟨r, 1, none⟩ = some (.int .u64 (x.h : Nat)) ∧ y.cell? ⟨r, 2, none⟩ = some (.int .u64 (x.l : Nat)) ∧ y.cell? ⟨r, 3, none⟩ = some (.int .i64 x.v) ∧ y.cell? ⟨r, 4, none⟩ = some (.int .i64 x.c) ∧ y.cell? ⟨r, 5, none⟩ = some (.slice x.A x.m x.k)) ∧ (y.cell? ⟨b + 1, 0, none⟩ = some (.int .i64 v.n) ∧ y.cell? ⟨b + 1, 1, none⟩ = some (.int .u64 (v.h : Nat)) ∧ y.cell? ⟨b + 1, 2, none⟩ = some (.int .u64 (v.l : Nat)) ∧ y.cell? ⟨b + 1, 3, none⟩ = some (.int .i64 v.v) ∧ y.cell? ⟨b + 1, 4, none⟩ = some (.int .i64 v.c) ∧ y.cell? ⟨b + 1, 5, none⟩ = some (.slice v.A v.m v.k)) ∧ Below w3.heap.size w3 y)) => (nodeAnswer_any z y).mono (fun e y' (h : _ ∧ _) => And.intro h.1 (kp y y' hx h.2)))
        have hmnode := mAnswer_node
        clear kp
        go_region_held3 (fun y => ((y.cell? ⟨r, 0, none⟩ = some (.int .i64 x.n) ∧ y.cell? ⟨r, 1, none⟩ = some (.int .u64 (x.h : Nat)) ∧ y.cell? ⟨r, 2, none⟩ = some (.int .u64 (x.l : Nat)) ∧ y.cell? ⟨r, 3, none⟩ = some (.int .i64 x.v) ∧ y.cell? ⟨r, 4, none⟩ = some (.int .i64 x.c) ∧ y.cell? ⟨r, 5, none⟩ = some (.slice x.A x.m x.k)) ∧ (y.cell? ⟨b + 1, 0, none⟩ = some (.int .i64 v.n) ∧ y.cell? ⟨b + 1, 1, none⟩ = some (.int .u64 (v.h : Nat)) ∧ y.cell? ⟨b + 1, 2, none⟩ = some (.int .u64 (v.l : Nat)) ∧ y.cell? ⟨b + 1, 3, none⟩ = some (.int .i64 v.v) ∧ y.cell? ⟨b + 1, 4, none⟩ = some (.int .i64 v.c) ∧ y.cell? ⟨b + 1, 5, none⟩ = some (.slice v.A v.m v.k)) ∧ Below w3.heap.size w3 y)) (first | exact ⟨OX, OV, Below.drew (Below.refl _ _)⟩ | assumption | go_keep)
          (first | (go_at_call 177; refine (Fnode.out x _ (by first | assumption | (simp [*]))).mono ?_; rintro e x' ⟨rfl, hx'⟩) | (go_at_call 177; refine (Fnode.out v _ (by first | assumption | (simp [*]))).mono ?_; rintro e x' ⟨rfl, hx'⟩))
        have HX := Lib.hid hx'.2.2
        clear hx' OX OV Fnode hmnode
        have hk2 : (k : Int) + 1 ≤ 6000000000000 := by have := HKN.out; omega
        have HY : Hid (Below w2.heap.size w2 x') := BX.out.trans (HX.out.mono BX.out.size)
        obtain ⟨bb, hbb⟩ : ∃ bb, (x.n == v.n) = bb := ⟨_, rfl⟩
        rw [hbb]
        cases bb with
        | true =>
          have HNN : Hid (x.n = v.n) := beq_iff_eq.1 hbb
          clear hbb
          go_wp2_with fail
          go_meet
          exact ⟨k, true, rfl, rfl, .inl ⟨rfl, ⟨x, HXX.out, HNN.out⟩, HP.out⟩, HY.out⟩
        | false =>
          have HNN : Hid (x.n ≠ v.n) := beq_eq_false_iff_ne.1 hbb
          clear hbb
          go_wp2_with fail
          go_roundw
          case rel => exact ⟨k + 1, HKN.out, rfl, rfl, by go_num, HY.out, fun j y hj hy => by
            by_cases e : j = k
            · subst e; rw [HXX.out] at hy; cases hy; exact HNN.out
            · exact HP.out j y (by omega) hy⟩
          case measure => have := HKN.out; simp [intOf]; omega
      · obtain rfl : k = n := by omega
        have hki : ¬ (k : Int) < (k : Int) := by omega
        have hl := H2.out.len
        go_wp2_with fail
        go_meet
        exact ⟨k, false, rfl, rfl, .inr ⟨rfl, hl.symm, fun j y hj hy => HP.out j y (by omega) hy⟩, HR.out⟩
  case rest =>
    obtain ⟨a1, same, rfl, rfl, HF⟩ := hcut
    have p0 := (OA2.out.below HF.out.2).cell 0 rfl
    go_upto_if 36 with fail
    go_cut [5] (fun av wx => ∃ (k : Nat), av = .int .i64 k ∧ Hid (Plc Bt.n L v k same ∧ Below w2.heap.size w2 wx))
    case first =>
      have HB1 := Lib.hid HF.out.2
      cases same with
      | true =>
        have HF1 : Hid (Plc Bt.n L v a1 true) := by
          rcases HF.out.1 with h | ⟨h, _⟩
          · exact .inl h
          · cases h
        clear HF
        go_wp2_with fail
        go_meet
        exact ⟨a1, rfl, HF1.out, HB1.out⟩
      | false =>
        have HF1 : Hid (a1 = n ∧ ∀ j x, j < L.length → L[j]? = some x → x.n ≠ v.n) := by
          rcases HF.out.1 with ⟨h, _⟩ | ⟨_, h1, h2⟩
          · cases h
          · exact ⟨h1.trans H2.out.len, h2⟩
        clear HF
        obtain rfl : a1 = n := HF1.out.1
        go_wp2_with fail
        go_loopw [5, 40] (fun av iv wr => ∃ (k : Nat), k ≤ a1 ∧ av = .int .i64 a1 ∧ iv = .int .i64 k ∧ Hid (Below w2.heap.size w2 wr) ∧ Hid (∀ j x, j < k → L[j]? = some x → x.n ≤ v.n)) (fun _ iv _ => a1 - (intOf iv).toNat)
        case atStart => exact ⟨0, by omega, rfl, rfl, HB1.out, fun j x hj => by omega⟩
        case round =>
          obtain ⟨k, hk, rfl, rfl, HR, HP⟩ := hrel
          by_cases hkn : k < a1
          · obtain ⟨x, hx⟩ : ∃ x, L[k]? = some x := ⟨_, List.getElem?_eq_getElem (by have := H2.out.len; omega)⟩
            obtain ⟨ad, rfl, g0, g1, g2, g3, g4, g5⟩ := (H2.out.below HR.out).atBt hx
            have hki : (k : Int) < (a1 : Int) := by omega
            have HXX := Lib.hid hx
            have HKN := Lib.hid hkn
            clear hx hkn hk p0
            go_wp2_with fail
            have OX := Ob.fresh wr #[.int .i64 x.n, .int .u64 (x.h : Nat), .int .u64 (x.l : Nat), .int .i64 x.v, .int .i64 x.c, .slice x.A x.m x.k] 125
            have OV := (OV2.out.below HR.out).alloc (.cells #[.int .i64 x.n, .int .u64 (x.h : Nat), .int .u64 (x.l : Nat), .int .i64 x.v, .int .i64 x.c, .slice x.A x.m x.k] 125)
            have BX : Hid (Below w2.heap.size w2 (wr.alloc (.cells #[.int .i64 x.n, .int .u64 (x.h : Nat), .int .u64 (x.l : Nat), .int .i64 x.v, .int .i64 x.c, .slice x.A x.m x.k] 125))) := HR.out.alloc HR.out.size _
            have HRB : Hid (w2.heap.size ≤ wr.heap.size) := HR.out.size
            have HRZ : Hid (wr.heap.size < (wr.alloc (.cells #[.int .i64 x.n, .int .u64 (x.h : Nat), .int .u64 (x.l : Nat), .int .i64 x.v, .int .i64 x.c, .slice x.A x.m x.k] 125)).heap.size) := by simp only [Hid, World.size_alloc]; omega
            generalize wr.alloc (.cells #[.int .i64 x.n, .int .u64 (x.h : Nat), .int .u64 (x.l : Nat), .int .i64 x.v, .int .i64 x.c, .slice x.A x.m x.k] 125) = w3 at OX OV BX HRZ ⊢
            generalize wr.heap.size = r at OX HRB HRZ ⊢
            clear g0 g1 g2 g3 g4 g5
            have OXH := Lib.hid OX
            have OVH := Lib.hid OV
            replace OX := OX.all6
            replace OV := OV.all6
            have kp : ∀ y y', ((y.cell? ⟨r, 0, none⟩ = some (.int .i64 x.n) ∧ y.cell? ⟨r, 1, none⟩ = some (.int .u64 (x.h : Nat)) ∧ y.cell? ⟨r, 2, none⟩ = some (.int .u64 (x.l : Nat)) ∧ y.cell? ⟨r, 3, none⟩ = some (.int .i64 x.v) ∧ y.cell? ⟨r, 4, none⟩ = some (.int .i64 x.c) ∧ y.cell? ⟨r, 5, none⟩ = some (.slice x.A x.m x.k)) ∧ (y.cell? ⟨b + 1, 0, none⟩ = some (.int .i64 v.n) ∧ y.cell? ⟨b + 1, 1, none⟩ = some (.int .u64 (v.h : Nat)) ∧ y.cell? ⟨b + 1, 2, none⟩ = some (.int .u64 (v.l : Nat)) ∧ y.cell? ⟨b + 1, 3, none⟩ = some (.int .i64 v.v) ∧ y.cell? ⟨b + 1, 4, none⟩ = some (.int .i64 v.c) ∧ y.cell? ⟨b + 1, 5, none⟩ = some (.slice v.A v.m v.k)) ∧ Below w3.heap.size w3 y) → Below y.heap.size y y' → ((y'.cell? ⟨r, 0, none⟩ = some (.int .i64 x.n) ∧ y'.cell? ⟨r, 1, none⟩ = some (.int .u64 (x.h : Nat)) ∧ y'.cell? ⟨r, 2, none⟩ = some (.int .u64 (x.l : Nat)) ∧ y'.cell? ⟨r, 3, none⟩ = some (.int .i64 x.v) ∧ y'.cell? ⟨r, 4, none⟩ = some (.int .i64 x.c) ∧ y'.cell? ⟨r, 5, none⟩ = some (.slice x.A x.m x.k)) ∧ (y'.cell? ⟨b + 1, 0, none⟩ = some (.int .i64 v.n) ∧ y'.cell? ⟨b + 1, 1, none⟩ = some (.int .u64 (v.h : Nat)) ∧ y'.cell? ⟨b + 1, 2, none⟩ = some (.int .u64 (v.l : Nat)) ∧ y'.cell? ⟨b + 1, 3, none⟩ = some (.int .i64 v.v) ∧ y'.cell? ⟨b + 1, 4, none⟩ = some (.int .i64 v.c) ∧ y'.cell? ⟨b + 1, 5, none⟩ = some (.slice v.A v.m v.k)) ∧ Below w3.heap.size w3 y') := fun y y' hx hb => ⟨keep6 hb hx.1, keep6 hb hx.2.1, hx.2.2.trans (hb.mono hx.2.2.size)⟩
            have Fnode := Lib.hid (fun (z : Bt) y (hx : ((y.cell? ⟨r, 0, none⟩ = some (.int .i64 x.n) ∧ y.cell? ⟨r, 1, none⟩ = some (.int .u64 (x.h : Nat)) ∧ y.cell? ⟨r, 2, none⟩ = some (.int .u64 (x.l : Nat)) ∧ y.cell? ⟨r, 3, none⟩ = some (.int .i64 x.v) ∧ y.cell? ⟨r, 4, none⟩ = some (.int .i64 x.c) ∧ y.cell? ⟨r, 5, none⟩ = some (.slice x.A x.m x.k)) ∧ (y.cell? ⟨b + 1, 0, none⟩ = some (.int .i64 v.n) ∧ y.cell? ⟨b + 1, 1, none⟩ = some (.int .u64 (v.h : Nat)) ∧ y.cell? ⟨b + 1, 2, none⟩ = some (.int .u64 (v.l : Nat)) ∧ y.cell? ⟨b + 1, 3, none⟩ = some (.int .i64 v.v) ∧ y.cell? ⟨b + 1, 4, none⟩ = some (.int .i64 v.c) ∧ y.cell? ⟨b + 1, 5, none⟩ = some (.slice v.A v.m v.k)) ∧ Below w3.heap.size w3 y)) => (nodeAnswer_any z y).mono (fun e y' (h : _ ∧ _) => And.intro h.1 (kp y y' hx h.2)))
            have hmnode := mAnswer_node
            clear kp
            go_region_held3 (fun y => ((y.cell? ⟨r, 0, none⟩ = some (.int .i64 x.n) ∧ y.cell? ⟨r, 1, none⟩ = some (.int .u64 (x.h : Nat)) ∧ y.cell? ⟨r, 2, none⟩ = some (.int .u64 (x.l : Nat)) ∧ y.cell? ⟨r, 3, none⟩ = some (.int .i64 x.v) ∧ y.cell? ⟨r, 4, none⟩ = some (.int .i64 x.c) ∧ y.cell? ⟨r, 5, none⟩ = some (.slice x.A x.m x.k)) ∧ (y.cell? ⟨b + 1, 0, none⟩ = some (.int .i64 v.n) ∧ y.cell? ⟨b + 1, 1, none⟩ = some (.int .u64 (v.h : Nat)) ∧ y.cell? ⟨b + 1, 2, none⟩ = some (.int .u64 (v.l : Nat)) ∧ y.cell? ⟨b + 1, 3, none⟩ = some (.int .i64 v.v) ∧ y.cell? ⟨b + 1, 4, none⟩ = some (.int .i64 v.c) ∧ y.cell? ⟨b + 1, 5, none⟩ = some (.slice v.A v.m v.k)) ∧ Below w3.heap.size w3 y)) (first | exact ⟨OX, OV, Below.drew (Below.refl _ _)⟩ | assumption | go_keep)
              (first | (go_at_call 177; refine (Fnode.out x _ (by first | assumption | (simp [*]))).mono ?_; rintro e x' ⟨rfl, hx'⟩) | (go_at_call 177; refine (Fnode.out v _ (by first | assumption | (simp [*]))).mono ?_; rintro e x' ⟨rfl, hx'⟩))
            have HX := Lib.hid hx'.2.2
            clear hx' OX OV Fnode hmnode
            have hk2 : (k : Int) + 1 ≤ 6000000000000 := by have := HKN.out; omega
            have HY : Hid (Below w2.heap.size w2 x') := BX.out.trans (HX.out.mono BX.out.size)
            obtain ⟨bb, hbb⟩ : ∃ bb, decide (v.n < x.n) = bb := ⟨_, rfl⟩
            rw [hbb]
            cases bb with
            | true =>
              have HNN := Lib.hid (of_decide_eq_true hbb)
              clear hbb
              go_wp2_with fail
              go_meet
              exact ⟨k, rfl, .inr ⟨rfl, HF1.out.2, by have := HKN.out; have := H2.out.len; omega, fun y hy => by rw [HXX.out] at hy; cases hy; exact HNN.out, fun j y hj hy => Int.not_lt.2 (HP.out j y hj hy)⟩, HY.out⟩
            | false =>
              have HNN : Hid (x.n ≤ v.n) := Int.not_lt.1 (of_decide_eq_false hbb)
              clear hbb
              go_wp2_with fail
              go_roundw
              case rel => exact ⟨k + 1, HKN.out, rfl, by go_num, HY.out, fun j y hj hy => by
                by_cases e : j = k
                · subst e; rw [HXX.out] at hy; cases hy; exact HNN.out
                · exact HP.out j y (by omega) hy⟩
              case measure => have := HKN.out; simp [intOf]; omega
          · obtain rfl : k = a1 := by omega
            have hki : ¬ (k : Int) < (k : Int) := by omega
            have hl := H2.out.len
            go_wp2_with fail
            go_meet
            exact ⟨k, rfl, .inr ⟨rfl, HF1.out.2, by omega, fun y hy => by have := (List.getElem?_eq_some_iff.1 hy).1; omega, fun j y hj hy => Int.not_lt.2 (HP.out j y hj hy)⟩, HR.out⟩
    case rest =>
      obtain ⟨at_, rfl, HQ⟩ := hcut
      have HPL := Lib.hid HQ.out.1
      have HBW := Lib.hid HQ.out.2
      have HN2 := Lib.hid H2.out.len
      have hat : (at_ : Int) ≤ (n : Int) := by have := HQ.out.1.le; have := HN2.out; omega
      have p0 := (OA2.out.below HQ.out.2).cell 0 rfl
      clear HF HQ
      go_wp2_with fail
      go_loopw [11, 57] (fun vv iv wr => ∃ (k : Nat) (A' : Option Addr) (c' : Nat) (R : List Bt), k ≤ n ∧ vv = .slice A' (outK Bt.wins L v at_ same k).length c' ∧ iv = .int .i64 k ∧ Hid (Below w2.heap.size w2 wr) ∧ Hid (wr.ownsRow w2.heap.size 125 6 (.slice A' (outK Bt.wins L v at_ same k).length c') (outK Bt.wins L v at_ same k).length (CL Bt.cells R)) ∧ Hid (Cpy w2.heap.size lg (RowB (.slice A' (outK Bt.wins L v at_ same k).length c')) wr R (outK Bt.wins L v at_ same k))) (fun _ iv _ => n - (intOf iv).toNat)
      case atStart => exact ⟨0, none, 0, [], by omega, rfl, rfl, HBW.out, World.ownsRow_nil _ _ _ _, Cpy.nil _ _ _ _⟩
      case round =>
        obtain ⟨k, A', c', R, hk, rfl, rfl, HR, HO, HC0⟩ := hrel
        clear HBW p0
        have HC := Lib.hid HC0.out.more
        have HLN : Hid ((outK Bt.wins L v at_ same k).length ≤ n + 1) := by have := outK_len Bt.wins L v at_ same (k := k) (by have := HN2.out; omega); simp only [Hid]; split at this <;> omega
        by_cases hkn : k < n
        · obtain ⟨x, hx⟩ : ∃ x, L[k]? = some x := ⟨_, List.getElem?_eq_getElem (by have := HN2.out; omega)⟩
          obtain ⟨ad, rfl, g0, g1, g2, g3, g4, g5⟩ := (H2.out.below HR.out).atBt hx
          have hki : (k : Int) < (n : Int) := by omega
          have hk2 : (k : Int) + 1 ≤ 6000000000000 := by omega
          have HXX := Lib.hid hx
          have HKN := Lib.hid hkn
          have HOS := Lib.hid (outK_succ Bt.wins v at_ same hx)
          clear hx hkn hk
          by_cases hka : k = at_
          · subst hka
            have hk0 : (k == k) = true := beq_self_eq_true k
            cases same with
            | true =>
              have HOT : Hid (outK Bt.wins L v k true (k + 1) = (outK Bt.wins L v k true k) ++ [if v.wins x then v else x]) := by have := HOS.out; rw [hk0] at this; exact this
              clear hk0
              go_wp2_with fail
              have OX := Ob.fresh wr #[.int .i64 x.n, .int .u64 (x.h : Nat), .int .u64 (x.l : Nat), .int .i64 x.v, .int .i64 x.c, .slice x.A x.m x.k] 125
              have OV := (OV2.out.below HR.out).alloc (.cells #[.int .i64 x.n, .int .u64 (x.h : Nat), .int .u64 (x.l : Nat), .int .i64 x.v, .int .i64 x.c, .slice x.A x.m x.k] 125)
              have BX : Hid (Below w2.heap.size w2 (wr.alloc (.cells #[.int .i64 x.n, .int .u64 (x.h : Nat), .int .u64 (x.l : Nat), .int .i64 x.v, .int .i64 x.c, .slice x.A x.m x.k] 125))) := HR.out.alloc HR.out.size _
              have HRB : Hid (w2.heap.size ≤ wr.heap.size) := HR.out.size
              have HRZ : Hid (wr.heap.size < (wr.alloc (.cells #[.int .i64 x.n, .int .u64 (x.h : Nat), .int .u64 (x.l : Nat), .int .i64 x.v, .int .i64 x.c, .slice x.A x.m x.k] 125)).heap.size) := by simp only [Hid, World.size_alloc]; omega
              have RO : Hid ((wr.alloc (.cells #[.int .i64 x.n, .int .u64 (x.h : Nat), .int .u64 (x.l : Nat), .int .i64 x.v, .int .i64 x.c, .slice x.A x.m x.k] 125)).ownsRow w2.heap.size 125 6 (.slice A' (outK Bt.wins L v k true k).length c') (outK Bt.wins L v k true k).length (CL Bt.cells R)) := HO.out.alloc _
              have RC := Lib.hid (HC.out.alloc (.cells #[.int .i64 x.n, .int .u64 (x.h : Nat), .int .u64 (x.l : Nat), .int .i64 x.v, .int .i64 x.c, .slice x.A x.m x.k] 125))
              have HNR : Hid (∀ j, (Value.slice A' (outK Bt.wins L v k true k).length c').ownBlock = some j → j ≠ wr.heap.size) := fun j e => by have := (HO.out.lt j e).2; omega
              generalize wr.alloc (.cells #[.int .i64 x.n, .int .u64 (x.h : Nat), .int .u64 (x.l : Nat), .int .i64 x.v, .int .i64 x.c, .slice x.A x.m x.k] 125) = w3 at OX OV BX HRZ RO RC ⊢
              generalize wr.heap.size = r at OX HRB HRZ HNR RC ⊢
              clear g0 g1 g2 g3 g4 g5
              have OXH := Lib.hid OX
              have OVH := Lib.hid OV
              replace OX := OX.all6
              replace OV := OV.all6
              have kp : ∀ y y', ((y.cell? ⟨r, 0, none⟩ = some (.int .i64 x.n) ∧ y.cell? ⟨r, 1, none⟩ = some (.int .u64 (x.h : Nat)) ∧ y.cell? ⟨r, 2, none⟩ = some (.int .u64 (x.l : Nat)) ∧ y.cell? ⟨r, 3, none⟩ = some (.int .i64 x.v) ∧ y.cell? ⟨r, 4, none⟩ = some (.int .i64 x.c) ∧ y.cell? ⟨r, 5, none⟩ = some (.slice x.A x.m x.k)) ∧ (y.cell? ⟨b + 1, 0, none⟩ = some (.int .i64 v.n) ∧ y.cell? ⟨b + 1, 1, none⟩ = some (.int .u64 (v.h : Nat)) ∧ y.cell? ⟨b + 1, 2, none⟩ = some (.int .u64 (v.l : Nat)) ∧ y.cell? ⟨b + 1, 3, none⟩ = some (.int .i64 v.v) ∧ y.cell? ⟨b + 1, 4, none⟩ = some (.int .i64 v.c) ∧ y.cell? ⟨b + 1, 5, none⟩ = some (.slice v.A v.m v.k)) ∧ Below w3.heap.size w3 y) → Below y.heap.size y y' → ((y'.cell? ⟨r, 0, none⟩ = some (.int .i64 x.n) ∧ y'.cell? ⟨r, 1, none⟩ = some (.int .u64 (x.h : Nat)) ∧ y'.cell? ⟨r, 2, none⟩ = some (.int .u64 (x.l : Nat)) ∧ y'.cell? ⟨r, 3, none⟩ = some (.int .i64 x.v) ∧ y'.cell? ⟨r, 4, none⟩ = some (.int .i64 x.c) ∧ y'.cell? ⟨r, 5, none⟩ = some (.slice x.A x.m x.k)) ∧ (y'.cell? ⟨b + 1, 0, none⟩ = some (.int .i64 v.n) ∧ y'.cell? ⟨b + 1, 1, none⟩ = some (.int .u64 (v.h : Nat)) ∧ y'.cell? ⟨b + 1, 2, none⟩ = some (.int .u64 (v.l : Nat)) ∧ y'.cell? ⟨b + 1, 3, none⟩ = some (.int .i64 v.v) ∧ y'.cell? ⟨b + 1, 4, none⟩ = some (.int .i64 v.c) ∧ y'.cell? ⟨b + 1, 5, none⟩ = some (.slice v.A v.m v.k)) ∧ Below w3.heap.size w3 y') := fun y y' hx hb => ⟨keep6 hb hx.1, keep6 hb hx.2.1, hx.2.2.trans (hb.mono hx.2.2.size)⟩
              have Fdraw := Lib.hid (fun (z : Bt) y (hx : ((y.cell? ⟨r, 0, none⟩ = some (.int .i64 x.n) ∧ y.cell? ⟨r, 1, none⟩ = some (.int .u64 (x.h : Nat)) ∧ y.cell? ⟨r, 2, none⟩ = some (.int .u64 (x.l : Nat)) ∧ y.cell? ⟨r, 3, none⟩ = some (.int .i64 x.v) ∧ y.cell? ⟨r, 4, none⟩ = some (.int .i64 x.c) ∧ y.cell? ⟨r, 5, none⟩ = some (.slice x.A x.m x.k)) ∧ (y.cell? ⟨b + 1, 0, none⟩ = some (.int .i64 v.n) ∧ y.cell? ⟨b + 1, 1, none⟩ = some (.int .u64 (v.h : Nat)) ∧ y.cell? ⟨b + 1, 2, none⟩ = some (.int .u64 (v.l : Nat)) ∧ y.cell? ⟨b + 1, 3, none⟩ = some (.int .i64 v.v) ∧ y.cell? ⟨b + 1, 4, none⟩ = some (.int .i64 v.c) ∧ y.cell? ⟨b + 1, 5, none⟩ = some (.slice v.A v.m v.k)) ∧ Below w3.heap.size w3 y)) => (drawAnswer_any z y).mono (fun e y' (h : _ ∧ _) => And.intro h.1 (kp y y' hx h.2)))
              have hmdraw := mAnswer_draw
              have FC := Lib.hid (fun a1 a2 a3 a4 y (hx : ((y.cell? ⟨r, 0, none⟩ = some (.int .i64 x.n) ∧ y.cell? ⟨r, 1, none⟩ = some (.int .u64 (x.h : Nat)) ∧ y.cell? ⟨r, 2, none⟩ = some (.int .u64 (x.l : Nat)) ∧ y.cell? ⟨r, 3, none⟩ = some (.int .i64 x.v) ∧ y.cell? ⟨r, 4, none⟩ = some (.int .i64 x.c) ∧ y.cell? ⟨r, 5, none⟩ = some (.slice x.A x.m x.k)) ∧ (y.cell? ⟨b + 1, 0, none⟩ = some (.int .i64 v.n) ∧ y.cell? ⟨b + 1, 1, none⟩ = some (.int .u64 (v.h : Nat)) ∧ y.cell? ⟨b + 1, 2, none⟩ = some (.int .u64 (v.l : Nat)) ∧ y.cell? ⟨b + 1, 3, none⟩ = some (.int .i64 v.v) ∧ y.cell? ⟨b + 1, 4, none⟩ = some (.int .i64 v.c) ∧ y.cell? ⟨b + 1, 5, none⟩ = some (.slice v.A v.m v.k)) ∧ Below w3.heap.size w3 y)) => (compare_any a1 a2 a3 a4 y).mono (fun e y' (h : _ ∧ _) => And.intro h.1 (kp y y' hx h.2)))
              clear kp
              go_region_held3 (fun y => ((y.cell? ⟨r, 0, none⟩ = some (.int .i64 x.n) ∧ y.cell? ⟨r, 1, none⟩ = some (.int .u64 (x.h : Nat)) ∧ y.cell? ⟨r, 2, none⟩ = some (.int .u64 (x.l : Nat)) ∧ y.cell? ⟨r, 3, none⟩ = some (.int .i64 x.v) ∧ y.cell? ⟨r, 4, none⟩ = some (.int .i64 x.c) ∧ y.cell? ⟨r, 5, none⟩ = some (.slice x.A x.m x.k)) ∧ (y.cell? ⟨b + 1, 0, none⟩ = some (.int .i64 v.n) ∧ y.cell? ⟨b + 1, 1, none⟩ = some (.int .u64 (v.h : Nat)) ∧ y.cell? ⟨b + 1, 2, none⟩ = some (.int .u64 (v.l : Nat)) ∧ y.cell? ⟨b + 1, 3, none⟩ = some (.int .i64 v.v) ∧ y.cell? ⟨b + 1, 4, none⟩ = some (.int .i64 v.c) ∧ y.cell? ⟨b + 1, 5, none⟩ = some (.slice v.A v.m v.k)) ∧ Below w3.heap.size w3 y)) (first | exact ⟨OX, OV, Below.drew (Below.refl _ _)⟩ | assumption | go_keep)
                (first | (go_at_call 176; refine (Fdraw.out x _ (by first | assumption | (simp [*]))).mono ?_; rintro e x' ⟨rfl, hx'⟩) | (go_at_call 176; refine (Fdraw.out v _ (by first | assumption | (simp [*]))).mono ?_; rintro e x' ⟨rfl, hx'⟩) | (go_at_call 135; refine (FC.out _ _ _ _ _ (by first | assumption | (simp [*]))).mono ?_; rintro e x' ⟨rfl, hx'⟩))
              have HX := Lib.hid hx'.2.2
              clear hx' OX OV Fdraw FC hmdraw
              have RX := Lib.hid (OXH.out.below HX.out)
              have RV := Lib.hid (OVH.out.below HX.out)
              have RO2 := Lib.hid (own_kept RO.out HX.out)
              have HY : Hid (Below w2.heap.size w2 x') := BX.out.trans (HX.out.mono BX.out.size)
              have RC2 := Lib.hid (RC.out.below HX.out)
              clear RC RO HX OXH OVH BX HRZ
              obtain ⟨q0, q1, q2, q3, q4, q5⟩ := (RX.out).all6
              obtain ⟨t0, t1, t2, t3, t4, t5⟩ := (RV.out).all6
              obtain ⟨f0, f1, f2, f3, f4, f5⟩ := (RX.out).fro6
              obtain ⟨cc, hcc⟩ : ∃ cc, dCmp v.h v.l x.h x.l = cc := ⟨_, rfl⟩
              rw [hcc]
              have HCC := Lib.hid hcc
              clear hcc
              by_cases hc1 : 0 < cc
              · have HW := Lib.hid (Bt.wins_gt (v := v) (x := x) (by rw [HCC.out]; exact hc1))
                go_wp2_with fail
                have RC6 := Lib.hid (show Cpy _ _ _ ((((((x'.setCell ⟨r, 0, none⟩ (.int .i64 v.n)).setCell ⟨r, 1, none⟩ (.int .u64 (v.h : Nat))).setCell ⟨r, 2, none⟩ (.int .u64 (v.l : Nat))).setCell ⟨r, 3, none⟩ (.int .i64 v.v)).setCell ⟨r, 4, none⟩ (.int .i64 v.c)).setCell ⟨r, 5, none⟩ (.slice v.A v.m v.k)) _ _ from ((((((RC2.out.set (.inr (Nat.le_refl _)) _).set (.inr (Nat.le_refl _)) _).set (.inr (Nat.le_refl _)) _).set (.inr (Nat.le_refl _)) _).set (.inr (Nat.le_refl _)) _).set (.inr (Nat.le_refl _)) _))
                have RO6 : Hid (((((((x'.setCell ⟨r, 0, none⟩ (.int .i64 v.n)).setCell ⟨r, 1, none⟩ (.int .u64 (v.h : Nat))).setCell ⟨r, 2, none⟩ (.int .u64 (v.l : Nat))).setCell ⟨r, 3, none⟩ (.int .i64 v.v)).setCell ⟨r, 4, none⟩ (.int .i64 v.c)).setCell ⟨r, 5, none⟩ (.slice v.A v.m v.k)).ownsRow w2.heap.size 125 6 (.slice A' (outK Bt.wins L v k true k).length c') (outK Bt.wins L v k true k).length (CL Bt.cells R)) := (ownsRow_setCell_other (ownsRow_setCell_other (ownsRow_setCell_other (ownsRow_setCell_other (ownsRow_setCell_other (ownsRow_setCell_other RO2.out (fun e => HNR.out _ e rfl) _) (fun e => HNR.out _ e rfl) _) (fun e => HNR.out _ e rfl) _) (fun e => HNR.out _ e rfl) _) (fun e => HNR.out _ e rfl) _) (fun e => HNR.out _ e rfl) _)
                have B6 : Hid (Below w2.heap.size w2 ((((((x'.setCell ⟨r, 0, none⟩ (.int .i64 v.n)).setCell ⟨r, 1, none⟩ (.int .u64 (v.h : Nat))).setCell ⟨r, 2, none⟩ (.int .u64 (v.l : Nat))).setCell ⟨r, 3, none⟩ (.int .i64 v.v)).setCell ⟨r, 4, none⟩ (.int .i64 v.c)).setCell ⟨r, 5, none⟩ (.slice v.A v.m v.k))) := ((((((HY.out.setCell HRB.out _).setCell HRB.out _).setCell HRB.out _).setCell HRB.out _).setCell HRB.out _).setCell HRB.out _)
                have HOW : Hid (outK Bt.wins L v k true (k + 1) = (outK Bt.wins L v k true k) ++ [v]) := by rw [HOT.out, HW.out]; rfl
                generalize ((((((x'.setCell ⟨r, 0, none⟩ (.int .i64 v.n)).setCell ⟨r, 1, none⟩ (.int .u64 (v.h : Nat))).setCell ⟨r, 2, none⟩ (.int .u64 (v.l : Nat))).setCell ⟨r, 3, none⟩ (.int .i64 v.v)).setCell ⟨r, 4, none⟩ (.int .i64 v.c)).setCell ⟨r, 5, none⟩ (.slice v.A v.m v.k)) = w6 at RC6 RO6 B6 ⊢
                clear HOT q0 q1 q2 q3 q4 q5 t0 t1 t2 t3 t4 t5 f0 f1 f2 f3 f4 f5 RO2 HY RC2
                have HOT := HOW
                have HL0 := HLG.out _ (.inl rfl)
                refine (freshAnswer_any v (lg v) _ (HL0.1.below B6.out) HL0.2.1 HL0.2.2).mono ?_
                rintro e x2 ⟨fA, fk, rfl, hb2, hof⟩
                clear HL0
                have B5 : Hid (Below w2.heap.size w2 x2) := B6.out.trans (hb2.mono B6.out.size)
                have O5 : Hid (x2.ownsRow w2.heap.size 125 6 (.slice A' (outK Bt.wins L v k true k).length c') ((outK Bt.wins L v k true k).length) (CL Bt.cells R)) := own_kept RO6.out hb2
                have HBB := Lib.hid hb2
                have HOF := Lib.hid hof
                clear hof
                clear hb2
                go_wp2_with (at_builtin; refine wpList_app rfl (.tmp 97) (.tmp 101) rfl eltAnswer w2.heap.size (.slice A' (outK Bt.wins L v k true k).length c') ((outK Bt.wins L v k true k).length) (CL Bt.cells R) rfl (O5.out.alloc _) (some ⟨x2.heap.size, 0, none⟩) 1 1 ({ v with A := fA, k := fk } : Bt).cells rfl rfl (fun h => by cases h) (fresh_news x2 ({ v with A := fA, k := fk } : Bt).cells.toArray 125) (Bt.one ({ v with A := fA, k := fk } : Bt)) ?d3 ?d4 ?d5 ?_)
                case d3 => have := HLN.out; have := HSM.out; simp only [maxLen]; omega
                case d4 => have := HLN.out; have := HSM.out; omega
                case d5 => have := B5.out.size; simp; omega
                intro A9 c9 w9 ho9 hg9 hbk9
                have B9 : Hid (Below w2.heap.size w2 w9) := below_own B5.out B5.out.size O5.out ((World.grownBy_alloc x2 _ _).trans hg9)
                have C9 := Lib.hid ((RC6.out.mono (fun j e => .inl e)).push v RO6.out B6.out.size HBB.out HOF.out hg9 (q := _) hbk9 (by simp))
                have O9 := Lib.hid ho9
                clear ho9 hg9 O5 B5 hbk9 HBB HOF
                have HNX := HOT
                have HE : Hid ((outK Bt.wins L v k true k).length + 1 = (outK Bt.wins L v k true (k + 1)).length) := by rw [HNX.out, List.length_append]; exact rfl
                have O10 := Lib.hid (show w9.ownsRow w2.heap.size 125 6 (.slice A9 (outK Bt.wins L v k true (k + 1)).length c9) (outK Bt.wins L v k true (k + 1)).length (CL Bt.cells (R ++ [({ v with A := fA, k := fk } : Bt)])) by rw [CL_push, ← HE.out]; exact O9.out)
                have C10 := Lib.hid (show Cpy w2.heap.size lg (RowB (.slice A9 (outK Bt.wins L v k true (k + 1)).length c9)) w9 (R ++ [({ v with A := fA, k := fk } : Bt)]) (outK Bt.wins L v k true (k + 1)) by rw [← HE.out, HNX.out]; exact C9.out)
                rw [HE.out]
                go_wp2_with fail
                go_roundw
                case rel => exact ⟨k + 1, A9, c9, _, HKN.out, rfl, by go_num, B9.out, O10.out, C10.out⟩
                case measure => have := HKN.out; simp [intOf]; omega
              · by_cases hc2 : cc = 0
                · subst hc2
                  go_wp2_with fail
                  refine (aboveAnswer_any v x _).mono ?_
                  rintro e x3 ⟨rfl, hb3⟩
                  have HW := Lib.hid (Bt.wins_eq (v := v) (x := x) HCC.out)
                  obtain ⟨bb, hbb⟩ : ∃ bb, v.above x = bb := ⟨_, rfl⟩
                  rw [hbb] at HW ⊢
                  have RX3 := Lib.hid (RX.out.below hb3)
                  have RV3 := Lib.hid (RV.out.below hb3)
                  have RO3 := Lib.hid (own_kept RO2.out hb3)
                  have HY3 : Hid (Below w2.heap.size w2 x3) := HY.out.trans (hb3.mono HY.out.size)
                  clear q0 q1 q2 q3 q4 q5 t0 t1 t2 t3 t4 t5 f0 f1 f2 f3 f4 f5 hbb RX RV RO2 HY
                  have RO2 := RO3
                  have HY := HY3
                  have RC3 := Lib.hid (RC2.out.below hb3)
                  clear RC2
                  have RC2 := RC3
                  clear RC3
                  clear hb3 RO3 HY3
                  obtain ⟨q0, q1, q2, q3, q4, q5⟩ := (RX3.out).all6
                  obtain ⟨t0, t1, t2, t3, t4, t5⟩ := (RV3.out).all6
                  obtain ⟨f0, f1, f2, f3, f4, f5⟩ := (RX3.out).fro6
                  cases bb with
                  | true =>
                    go_wp2_with fail
                    have RC6 := Lib.hid (show Cpy _ _ _ ((((((x3.setCell ⟨r, 0, none⟩ (.int .i64 v.n)).setCell ⟨r, 1, none⟩ (.int .u64 (v.h : Nat))).setCell ⟨r, 2, none⟩ (.int .u64 (v.l : Nat))).setCell ⟨r, 3, none⟩ (.int .i64 v.v)).setCell ⟨r, 4, none⟩ (.int .i64 v.c)).setCell ⟨r, 5, none⟩ (.slice v.A v.m v.k)) _ _ from ((((((RC2.out.set (.inr (Nat.le_refl _)) _).set (.inr (Nat.le_refl _)) _).set (.inr (Nat.le_refl _)) _).set (.inr (Nat.le_refl _)) _).set (.inr (Nat.le_refl _)) _).set (.inr (Nat.le_refl _)) _))
                    have RO6 : Hid (((((((x3.setCell ⟨r, 0, none⟩ (.int .i64 v.n)).setCell ⟨r, 1, none⟩ (.int .u64 (v.h : Nat))).setCell ⟨r, 2, none⟩ (.int .u64 (v.l : Nat))).setCell ⟨r, 3, none⟩ (.int .i64 v.v)).setCell ⟨r, 4, none⟩ (.int .i64 v.c)).setCell ⟨r, 5, none⟩ (.slice v.A v.m v.k)).ownsRow w2.heap.size 125 6 (.slice A' (outK Bt.wins L v k true k).length c') (outK Bt.wins L v k true k).length (CL Bt.cells R)) := (ownsRow_setCell_other (ownsRow_setCell_other (ownsRow_setCell_other (ownsRow_setCell_other (ownsRow_setCell_other (ownsRow_setCell_other RO2.out (fun e => HNR.out _ e rfl) _) (fun e => HNR.out _ e rfl) _) (fun e => HNR.out _ e rfl) _) (fun e => HNR.out _ e rfl) _) (fun e => HNR.out _ e rfl) _) (fun e => HNR.out _ e rfl) _)
                    have B6 : Hid (Below w2.heap.size w2 ((((((x3.setCell ⟨r, 0, none⟩ (.int .i64 v.n)).setCell ⟨r, 1, none⟩ (.int .u64 (v.h : Nat))).setCell ⟨r, 2, none⟩ (.int .u64 (v.l : Nat))).setCell ⟨r, 3, none⟩ (.int .i64 v.v)).setCell ⟨r, 4, none⟩ (.int .i64 v.c)).setCell ⟨r, 5, none⟩ (.slice v.A v.m v.k))) := ((((((HY.out.setCell HRB.out _).setCell HRB.out _).setCell HRB.out _).setCell HRB.out _).setCell HRB.out _).setCell HRB.out _)
                    have HOW : Hid (outK Bt.wins L v k true (k + 1) = (outK Bt.wins L v k true k) ++ [v]) := by rw [HOT.out, HW.out]; rfl
                    generalize ((((((x3.setCell ⟨r, 0, none⟩ (.int .i64 v.n)).setCell ⟨r, 1, none⟩ (.int .u64 (v.h : Nat))).setCell ⟨r, 2, none⟩ (.int .u64 (v.l : Nat))).setCell ⟨r, 3, none⟩ (.int .i64 v.v)).setCell ⟨r, 4, none⟩ (.int .i64 v.c)).setCell ⟨r, 5, none⟩ (.slice v.A v.m v.k)) = w6 at RC6 RO6 B6 ⊢
                    clear HOT q0 q1 q2 q3 q4 q5 t0 t1 t2 t3 t4 t5 f0 f1 f2 f3 f4 f5 RO2 HY RC2
                    have HOT := HOW
                    have HL0 := HLG.out _ (.inl rfl)
                    refine (freshAnswer_any v (lg v) _ (HL0.1.below B6.out) HL0.2.1 HL0.2.2).mono ?_
                    rintro e x2 ⟨fA, fk, rfl, hb2, hof⟩
                    clear HL0
                    have B5 : Hid (Below w2.heap.size w2 x2) := B6.out.trans (hb2.mono B6.out.size)
                    have O5 : Hid (x2.ownsRow w2.heap.size 125 6 (.slice A' (outK Bt.wins L v k true k).length c') ((outK Bt.wins L v k true k).length) (CL Bt.cells R)) := own_kept RO6.out hb2
                    have HBB := Lib.hid hb2
                    have HOF := Lib.hid hof
                    clear hof
                    clear hb2
                    go_wp2_with (at_builtin; refine wpList_app rfl (.tmp 97) (.tmp 101) rfl eltAnswer w2.heap.size (.slice A' (outK Bt.wins L v k true k).length c') ((outK Bt.wins L v k true k).length) (CL Bt.cells R) rfl (O5.out.alloc _) (some ⟨x2.heap.size, 0, none⟩) 1 1 ({ v with A := fA, k := fk } : Bt).cells rfl rfl (fun h => by cases h) (fresh_news x2 ({ v with A := fA, k := fk } : Bt).cells.toArray 125) (Bt.one ({ v with A := fA, k := fk } : Bt)) ?d3 ?d4 ?d5 ?_)
                    case d3 => have := HLN.out; have := HSM.out; simp only [maxLen]; omega
                    case d4 => have := HLN.out; have := HSM.out; omega
                    case d5 => have := B5.out.size; simp; omega
                    intro A9 c9 w9 ho9 hg9 hbk9
                    have B9 : Hid (Below w2.heap.size w2 w9) := below_own B5.out B5.out.size O5.out ((World.grownBy_alloc x2 _ _).trans hg9)
                    have C9 := Lib.hid ((RC6.out.mono (fun j e => .inl e)).push v RO6.out B6.out.size HBB.out HOF.out hg9 (q := _) hbk9 (by simp))
                    have O9 := Lib.hid ho9
                    clear ho9 hg9 O5 B5 hbk9 HBB HOF
                    have HNX := HOT
                    have HE : Hid ((outK Bt.wins L v k true k).length + 1 = (outK Bt.wins L v k true (k + 1)).length) := by rw [HNX.out, List.length_append]; exact rfl
                    have O10 := Lib.hid (show w9.ownsRow w2.heap.size 125 6 (.slice A9 (outK Bt.wins L v k true (k + 1)).length c9) (outK Bt.wins L v k true (k + 1)).length (CL Bt.cells (R ++ [({ v with A := fA, k := fk } : Bt)])) by rw [CL_push, ← HE.out]; exact O9.out)
                    have C10 := Lib.hid (show Cpy w2.heap.size lg (RowB (.slice A9 (outK Bt.wins L v k true (k + 1)).length c9)) w9 (R ++ [({ v with A := fA, k := fk } : Bt)]) (outK Bt.wins L v k true (k + 1)) by rw [← HE.out, HNX.out]; exact C9.out)
                    rw [HE.out]
                    go_wp2_with fail
                    go_roundw
                    case rel => exact ⟨k + 1, A9, c9, _, HKN.out, rfl, by go_num, B9.out, O10.out, C10.out⟩
                    case measure => have := HKN.out; simp [intOf]; omega
                  | false =>
                    go_wp2_with fail
                    have HOW : Hid (outK Bt.wins L v k true (k + 1) = (outK Bt.wins L v k true k) ++ [x]) := by rw [HOT.out, HW.out]; rfl
                    clear HOT q0 q1 q2 q3 q4 q5 t0 t1 t2 t3 t4 t5 f0 f1 f2 f3 f4 f5
                    have HOT := HOW
                    have HL0 := HLG.out _ (.inr (List.mem_of_getElem? HXX.out))
                    refine (freshAnswer_any x (lg x) _ (HL0.1.below HY.out) HL0.2.1 HL0.2.2).mono ?_
                    rintro e x2 ⟨fA, fk, rfl, hb2, hof⟩
                    clear HL0
                    have B5 : Hid (Below w2.heap.size w2 x2) := HY.out.trans (hb2.mono HY.out.size)
                    have O5 : Hid (x2.ownsRow w2.heap.size 125 6 (.slice A' (outK Bt.wins L v k true k).length c') ((outK Bt.wins L v k true k).length) (CL Bt.cells R)) := own_kept RO2.out hb2
                    have HBB := Lib.hid hb2
                    have HOF := Lib.hid hof
                    clear hof
                    clear hb2
                    go_wp2_with (at_builtin; refine wpList_app rfl (.tmp 97) (.tmp 101) rfl eltAnswer w2.heap.size (.slice A' (outK Bt.wins L v k true k).length c') ((outK Bt.wins L v k true k).length) (CL Bt.cells R) rfl (O5.out.alloc _) (some ⟨x2.heap.size, 0, none⟩) 1 1 ({ x with A := fA, k := fk } : Bt).cells rfl rfl (fun h => by cases h) (fresh_news x2 ({ x with A := fA, k := fk } : Bt).cells.toArray 125) (Bt.one ({ x with A := fA, k := fk } : Bt)) ?d3 ?d4 ?d5 ?_)
                    case d3 => have := HLN.out; have := HSM.out; simp only [maxLen]; omega
                    case d4 => have := HLN.out; have := HSM.out; omega
                    case d5 => have := B5.out.size; simp; omega
                    intro A9 c9 w9 ho9 hg9 hbk9
                    have B9 : Hid (Below w2.heap.size w2 w9) := below_own B5.out B5.out.size O5.out ((World.grownBy_alloc x2 _ _).trans hg9)
                    have C9 := Lib.hid ((RC2.out.mono (fun j e => .inl e)).push x RO2.out HY.out.size HBB.out HOF.out hg9 (q := _) hbk9 (by simp))
                    have O9 := Lib.hid ho9
                    clear ho9 hg9 O5 B5 hbk9 HBB HOF
                    have HNX := HOT
                    have HE : Hid ((outK Bt.wins L v k true k).length + 1 = (outK Bt.wins L v k true (k + 1)).length) := by rw [HNX.out, List.length_append]; exact rfl
                    have O10 := Lib.hid (show w9.ownsRow w2.heap.size 125 6 (.slice A9 (outK Bt.wins L v k true (k + 1)).length c9) (outK Bt.wins L v k true (k + 1)).length (CL Bt.cells (R ++ [({ x with A := fA, k := fk } : Bt)])) by rw [CL_push, ← HE.out]; exact O9.out)
                    have C10 := Lib.hid (show Cpy w2.heap.size lg (RowB (.slice A9 (outK Bt.wins L v k true (k + 1)).length c9)) w9 (R ++ [({ x with A := fA, k := fk } : Bt)]) (outK Bt.wins L v k true (k + 1)) by rw [← HE.out, HNX.out]; exact C9.out)
                    rw [HE.out]
                    go_wp2_with fail
                    go_roundw
                    case rel => exact ⟨k + 1, A9, c9, _, HKN.out, rfl, by go_num, B9.out, O10.out, C10.out⟩
                    case measure => have := HKN.out; simp [intOf]; omega
                · have hc3 : cc < 0 := by omega
                  have HW := Lib.hid (Bt.wins_lt (v := v) (x := x) (by rw [HCC.out]; exact hc3))
                  have hc4 : (cc == 0) = false := beq_eq_false_iff_ne.2 hc2
                  go_wp2_with fail
                  have HOW : Hid (outK Bt.wins L v k true (k + 1) = (outK Bt.wins L v k true k) ++ [x]) := by rw [HOT.out, HW.out]; rfl
                  clear HOT q0 q1 q2 q3 q4 q5 t0 t1 t2 t3 t4 t5 f0 f1 f2 f3 f4 f5
                  have HOT := HOW
                  have HL0 := HLG.out _ (.inr (List.mem_of_getElem? HXX.out))
                  refine (freshAnswer_any x (lg x) _ (HL0.1.below HY.out) HL0.2.1 HL0.2.2).mono ?_
                  rintro e x2 ⟨fA, fk, rfl, hb2, hof⟩
                  clear HL0
                  have B5 : Hid (Below w2.heap.size w2 x2) := HY.out.trans (hb2.mono HY.out.size)
                  have O5 : Hid (x2.ownsRow w2.heap.size 125 6 (.slice A' (outK Bt.wins L v k true k).length c') ((outK Bt.wins L v k true k).length) (CL Bt.cells R)) := own_kept RO2.out hb2
                  have HBB := Lib.hid hb2
                  have HOF := Lib.hid hof
                  clear hof
                  clear hb2
                  go_wp2_with (at_builtin; refine wpList_app rfl (.tmp 97) (.tmp 101) rfl eltAnswer w2.heap.size (.slice A' (outK Bt.wins L v k true k).length c') ((outK Bt.wins L v k true k).length) (CL Bt.cells R) rfl (O5.out.alloc _) (some ⟨x2.heap.size, 0, none⟩) 1 1 ({ x with A := fA, k := fk } : Bt).cells rfl rfl (fun h => by cases h) (fresh_news x2 ({ x with A := fA, k := fk } : Bt).cells.toArray 125) (Bt.one ({ x with A := fA, k := fk } : Bt)) ?d3 ?d4 ?d5 ?_)
                  case d3 => have := HLN.out; have := HSM.out; simp only [maxLen]; omega
                  case d4 => have := HLN.out; have := HSM.out; omega
                  case d5 => have := B5.out.size; simp; omega
                  intro A9 c9 w9 ho9 hg9 hbk9
                  have B9 : Hid (Below w2.heap.size w2 w9) := below_own B5.out B5.out.size O5.out ((World.grownBy_alloc x2 _ _).trans hg9)
                  have C9 := Lib.hid ((RC2.out.mono (fun j e => .inl e)).push x RO2.out HY.out.size HBB.out HOF.out hg9 (q := _) hbk9 (by simp))
                  have O9 := Lib.hid ho9
                  clear ho9 hg9 O5 B5 hbk9 HBB HOF
                  have HNX := HOT
                  have HE : Hid ((outK Bt.wins L v k true k).length + 1 = (outK Bt.wins L v k true (k + 1)).length) := by rw [HNX.out, List.length_append]; exact rfl
                  have O10 := Lib.hid (show w9.ownsRow w2.heap.size 125 6 (.slice A9 (outK Bt.wins L v k true (k + 1)).length c9) (outK Bt.wins L v k true (k + 1)).length (CL Bt.cells (R ++ [({ x with A := fA, k := fk } : Bt)])) by rw [CL_push, ← HE.out]; exact O9.out)
                  have C10 := Lib.hid (show Cpy w2.heap.size lg (RowB (.slice A9 (outK Bt.wins L v k true (k + 1)).length c9)) w9 (R ++ [({ x with A := fA, k := fk } : Bt)]) (outK Bt.wins L v k true (k + 1)) by rw [← HE.out, HNX.out]; exact C9.out)
                  rw [HE.out]
                  go_wp2_with fail
                  go_roundw
                  case rel => exact ⟨k + 1, A9, c9, _, HKN.out, rfl, by go_num, B9.out, O10.out, C10.out⟩
                  case measure => have := HKN.out; simp [intOf]; omega
            | false =>
              have HOT : Hid (outK Bt.wins L v k false (k + 1) = (outK Bt.wins L v k false k) ++ [v, x]) := by have := HOS.out; rw [hk0] at this; exact this
              clear hk0
              obtain ⟨t0, t1, t2, t3, t4, t5⟩ := (OV2.out.below HR.out).all6
              have hbl : b + 1 < wr.heap.size := World.block_lt_of_cell? _ _ t0
              have HNR : Hid (∀ j, (Value.slice A' (outK Bt.wins L v k false k).length c').ownBlock = some j → j ≠ wr.heap.size) := fun j e => by have := (HO.out.lt j e).2; omega
              have RX := Lib.hid (Ob.fresh wr #[.int .i64 x.n, .int .u64 (x.h : Nat), .int .u64 (x.l : Nat), .int .i64 x.v, .int .i64 x.c, .slice x.A x.m x.k] 125)
              have RO := Lib.hid (HO.out.alloc (.cells #[.int .i64 x.n, .int .u64 (x.h : Nat), .int .u64 (x.l : Nat), .int .i64 x.v, .int .i64 x.c, .slice x.A x.m x.k] 125))
              have BX : Hid (Below w2.heap.size w2 (wr.alloc (.cells #[.int .i64 x.n, .int .u64 (x.h : Nat), .int .u64 (x.l : Nat), .int .i64 x.v, .int .i64 x.c, .slice x.A x.m x.k] 125))) := HR.out.alloc HR.out.size _
              have HRZ : Hid (wr.heap.size < (wr.alloc (.cells #[.int .i64 x.n, .int .u64 (x.h : Nat), .int .u64 (x.l : Nat), .int .i64 x.v, .int .i64 x.c, .slice x.A x.m x.k] 125)).heap.size) := by simp only [Hid, World.size_alloc]; omega
              go_wp2_with fail
              have RC := Lib.hid (HC.out.alloc (.cells #[.int .i64 x.n, .int .u64 (x.h : Nat), .int .u64 (x.l : Nat), .int .i64 x.v, .int .i64 x.c, .slice x.A x.m x.k] 125))
              generalize wr.alloc (.cells #[.int .i64 x.n, .int .u64 (x.h : Nat), .int .u64 (x.l : Nat), .int .i64 x.v, .int .i64 x.c, .slice x.A x.m x.k] 125) = w3 at RX RO BX HRZ RC ⊢
              generalize wr.heap.size = r at RX HNR HRZ RC ⊢
              clear hbl g0 g1 g2 g3 g4 g5 t0 t1 t2 t3 t4 t5
              have HL0 := HLG.out _ (.inl rfl)
              refine (freshAnswer_any v (lg v) _ (HL0.1.below BX.out) HL0.2.1 HL0.2.2).mono ?_
              rintro e x2 ⟨fA, fk, rfl, hb2, hof⟩
              clear HL0
              have B5 : Hid (Below w2.heap.size w2 x2) := BX.out.trans (hb2.mono BX.out.size)
              have O5 : Hid (x2.ownsRow w2.heap.size 125 6 (.slice A' (outK Bt.wins L v k false k).length c') ((outK Bt.wins L v k false k).length) (CL Bt.cells R)) := own_kept RO.out hb2
              have R5 := Lib.hid (RX.out.below hb2)
              have HBB := Lib.hid hb2
              have HOF := Lib.hid hof
              clear hof
              clear hb2
              go_wp2_with (at_builtin; refine wpList_app rfl (.tmp 91) (.tmp 95) rfl eltAnswer w2.heap.size (.slice A' (outK Bt.wins L v k false k).length c') ((outK Bt.wins L v k false k).length) (CL Bt.cells R) rfl (O5.out.alloc _) (some ⟨x2.heap.size, 0, none⟩) 1 1 ({ v with A := fA, k := fk } : Bt).cells rfl rfl (fun h => by cases h) (fresh_news x2 ({ v with A := fA, k := fk } : Bt).cells.toArray 125) (Bt.one ({ v with A := fA, k := fk } : Bt)) ?d3 ?d4 ?d5 ?_)
              case d3 => have := HLN.out; have := HSM.out; simp only [maxLen]; omega
              case d4 => have := HLN.out; have := HSM.out; omega
              case d5 => have := B5.out.size; simp; omega
              intro A7 c7 w7 ho7 hg7 hbk7
              have B7 : Hid (Below w2.heap.size w2 w7) := below_own B5.out B5.out.size O5.out ((World.grownBy_alloc x2 _ _).trans hg7)
              have R7 := Lib.hid ((R5.out.alloc _).kept hg7 (fun e => HNR.out _ e.symm rfl))
              have C7 := Lib.hid ((RC.out.mono (fun j e => .inl e)).push v RO.out BX.out.size HBB.out HOF.out hg7 (q := _) hbk7 (by simp))
              have O7 := Lib.hid ho7
              clear ho7 hg7 O5 B5 R5 hbk7 HBB HOF
              obtain ⟨m7, hm7⟩ : ∃ m, (outK Bt.wins L v k false k).length + 1 = m := ⟨_, rfl⟩
              have HM7 : Hid (((outK Bt.wins L v k false k) ++ [v]).length = m7) := by rw [← hm7]; simp [Hid]
              have RO7 : Hid (w7.ownsRow w2.heap.size 125 6 (.slice A7 m7 c7) m7 (CL Bt.cells (R ++ [({ v with A := fA, k := fk } : Bt)]))) := by rw [← hm7, CL_push]; exact O7.out
              rw [hm7] at C7 ⊢
              generalize (R ++ [({ v with A := fA, k := fk } : Bt)]) = L7 at RO7 C7
              clear HLN
              have HLN : Hid (m7 ≤ n + 1) := by
                have h1 := outK_len Bt.wins L v k false (k := k) (by have := HN2.out; have := HKN.out; omega)
                rw [if_neg (by omega)] at h1
                have := HKN.out; simp only [Hid]; omega
              obtain ⟨q0, q1, q2, q3, q4, q5⟩ := R7.out.all6
              clear O7 RX RO RC BX HNR R7 hm7
              go_wp2_with fail
              have HL0 := HLG.out _ (.inr (List.mem_of_getElem? HXX.out))
              refine (freshAnswer_any x (lg x) _ (HL0.1.below B7.out) HL0.2.1 HL0.2.2).mono ?_
              rintro e x2 ⟨fA, fk, rfl, hb2, hof⟩
              clear HL0
              have B5 : Hid (Below w2.heap.size w2 x2) := B7.out.trans (hb2.mono B7.out.size)
              have O5 : Hid (x2.ownsRow w2.heap.size 125 6 (.slice A7 m7 c7) (m7) (CL Bt.cells L7)) := own_kept RO7.out hb2
              have HBB := Lib.hid hb2
              have HOF := Lib.hid hof
              clear hof
              clear hb2
              go_wp2_with (at_builtin; refine wpList_app rfl (.tmp 97) (.tmp 101) rfl eltAnswer w2.heap.size (.slice A7 m7 c7) (m7) (CL Bt.cells L7) rfl (O5.out.alloc _) (some ⟨x2.heap.size, 0, none⟩) 1 1 ({ x with A := fA, k := fk } : Bt).cells rfl rfl (fun h => by cases h) (fresh_news x2 ({ x with A := fA, k := fk } : Bt).cells.toArray 125) (Bt.one ({ x with A := fA, k := fk } : Bt)) ?d3 ?d4 ?d5 ?_)
              case d3 => have := HLN.out; have := HSM.out; simp only [maxLen]; omega
              case d4 => have := HLN.out; have := HSM.out; omega
              case d5 => have := B5.out.size; simp; omega
              intro A9 c9 w9 ho9 hg9 hbk9
              have B9 : Hid (Below w2.heap.size w2 w9) := below_own B5.out B5.out.size O5.out ((World.grownBy_alloc x2 _ _).trans hg9)
              have C9 := Lib.hid (C7.out.push x RO7.out B7.out.size HBB.out HOF.out hg9 (q := _) hbk9 (by simp))
              have O9 := Lib.hid ho9
              clear ho9 hg9 O5 B5 hbk9 HBB HOF
              have HNX : Hid ((outK Bt.wins L v k false (k + 1)) = ((outK Bt.wins L v k false k) ++ [v]) ++ [x]) := by rw [HOT.out]; simp [Hid]
              have HE : Hid (m7 + 1 = (outK Bt.wins L v k false (k + 1)).length) := by rw [HNX.out, List.length_append, HM7.out]; exact rfl
              have O10 := Lib.hid (show w9.ownsRow w2.heap.size 125 6 (.slice A9 (outK Bt.wins L v k false (k + 1)).length c9) (outK Bt.wins L v k false (k + 1)).length (CL Bt.cells (L7 ++ [({ x with A := fA, k := fk } : Bt)])) by rw [CL_push, ← HE.out]; exact O9.out)
              have C10 := Lib.hid (show Cpy w2.heap.size lg (RowB (.slice A9 (outK Bt.wins L v k false (k + 1)).length c9)) w9 (L7 ++ [({ x with A := fA, k := fk } : Bt)]) (outK Bt.wins L v k false (k + 1)) by rw [← HE.out, HNX.out]; exact C9.out)
              rw [HE.out]
              go_wp2_with fail
              go_roundw
              case rel => exact ⟨k + 1, A9, c9, _, HKN.out, rfl, by go_num, B9.out, O10.out, C10.out⟩
              case measure => have := HKN.out; simp [intOf]; omega
          · have hb0 : ((k : Int) == (at_ : Int)) = false := beq_eq_false_iff_ne.2 (by omega)
            have hk0 : (k == at_) = false := beq_eq_false_iff_ne.2 hka
            have HOT : Hid (outK Bt.wins L v at_ same (k + 1) = (outK Bt.wins L v at_ same k) ++ [x]) := by have := HOS.out; rw [hk0] at this; exact this
            have RO := Lib.hid (HO.out.alloc (.cells #[.int .i64 x.n, .int .u64 (x.h : Nat), .int .u64 (x.l : Nat), .int .i64 x.v, .int .i64 x.c, .slice x.A x.m x.k] 125))
            have BX : Hid (Below w2.heap.size w2 (wr.alloc (.cells #[.int .i64 x.n, .int .u64 (x.h : Nat), .int .u64 (x.l : Nat), .int .i64 x.v, .int .i64 x.c, .slice x.A x.m x.k] 125))) := HR.out.alloc HR.out.size _
            have RC := Lib.hid (HC.out.alloc (.cells #[.int .i64 x.n, .int .u64 (x.h : Nat), .int .u64 (x.l : Nat), .int .i64 x.v, .int .i64 x.c, .slice x.A x.m x.k] 125))
            clear hka hk0
            go_wp2_with fail
            have HL0 := HLG.out _ (.inr (List.mem_of_getElem? HXX.out))
            refine (freshAnswer_any x (lg x) _ (HL0.1.below BX.out) HL0.2.1 HL0.2.2).mono ?_
            rintro e x2 ⟨fA, fk, rfl, hb2, hof⟩
            clear HL0
            have B5 : Hid (Below w2.heap.size w2 x2) := BX.out.trans (hb2.mono BX.out.size)
            have O5 : Hid (x2.ownsRow w2.heap.size 125 6 (.slice A' (outK Bt.wins L v at_ same k).length c') ((outK Bt.wins L v at_ same k).length) (CL Bt.cells R)) := own_kept RO.out hb2
            have HBB := Lib.hid hb2
            have HOF := Lib.hid hof
            clear hof
            clear hb2
            go_wp2_with (at_builtin; refine wpList_app rfl (.tmp 97) (.tmp 101) rfl eltAnswer w2.heap.size (.slice A' (outK Bt.wins L v at_ same k).length c') ((outK Bt.wins L v at_ same k).length) (CL Bt.cells R) rfl (O5.out.alloc _) (some ⟨x2.heap.size, 0, none⟩) 1 1 ({ x with A := fA, k := fk } : Bt).cells rfl rfl (fun h => by cases h) (fresh_news x2 ({ x with A := fA, k := fk } : Bt).cells.toArray 125) (Bt.one ({ x with A := fA, k := fk } : Bt)) ?d3 ?d4 ?d5 ?_)
            case d3 => have := HLN.out; have := HSM.out; simp only [maxLen]; omega
            case d4 => have := HLN.out; have := HSM.out; omega
            case d5 => have := B5.out.size; simp; omega
            intro A9 c9 w9 ho9 hg9 hbk9
            have B9 : Hid (Below w2.heap.size w2 w9) := below_own B5.out B5.out.size O5.out ((World.grownBy_alloc x2 _ _).trans hg9)
            have C9 := Lib.hid ((RC.out.mono (fun j e => .inl e)).push x RO.out BX.out.size HBB.out HOF.out hg9 (q := _) hbk9 (by simp))
            have O9 := Lib.hid ho9
            clear ho9 hg9 O5 B5 hbk9 HBB HOF
            have HNX := HOT
            have HE : Hid ((outK Bt.wins L v at_ same k).length + 1 = (outK Bt.wins L v at_ same (k + 1)).length) := by rw [HNX.out, List.length_append]; exact rfl
            have O10 := Lib.hid (show w9.ownsRow w2.heap.size 125 6 (.slice A9 (outK Bt.wins L v at_ same (k + 1)).length c9) (outK Bt.wins L v at_ same (k + 1)).length (CL Bt.cells (R ++ [({ x with A := fA, k := fk } : Bt)])) by rw [CL_push, ← HE.out]; exact O9.out)
            have C10 := Lib.hid (show Cpy w2.heap.size lg (RowB (.slice A9 (outK Bt.wins L v at_ same (k + 1)).length c9)) w9 (R ++ [({ x with A := fA, k := fk } : Bt)]) (outK Bt.wins L v at_ same (k + 1)) by rw [← HE.out, HNX.out]; exact C9.out)
            rw [HE.out]
            go_wp2_with fail
            go_roundw
            case rel => exact ⟨k + 1, A9, c9, _, HKN.out, rfl, by go_num, B9.out, O10.out, C10.out⟩
            case measure => have := HKN.out; simp [intOf]; omega
        · obtain rfl : k = n := by omega
          have hki : ¬ (k : Int) < (k : Int) := by omega
          have p0 := (OA2.out.below HR.out).cell 0 rfl
          clear hkn hk
          by_cases hak : at_ = k
          · subst hak
            have HPU : Hid (putL Bt.wins L v at_ same = outK Bt.wins L v at_ same at_ ++ [v]) := by simp only [Hid, putL]; rw [HN2.out, if_pos rfl]
            obtain ⟨t0, t1, t2, t3, t4, t5⟩ := (OV2.out.below HR.out).all6
            go_wp2_with fail
            have HL0 := HLG.out _ (.inl rfl)
            refine (freshAnswer_any v (lg v) _ (HL0.1.below HR.out) HL0.2.1 HL0.2.2).mono ?_
            rintro e x2 ⟨fA, fk, rfl, hb2, hof⟩
            clear HL0
            have B5 : Hid (Below w2.heap.size w2 x2) := HR.out.trans (hb2.mono HR.out.size)
            have O5 : Hid (x2.ownsRow w2.heap.size 125 6 (.slice A' (outK Bt.wins L v at_ same at_).length c') ((outK Bt.wins L v at_ same at_).length) (CL Bt.cells R)) := own_kept HO.out hb2
            have HBB := Lib.hid hb2
            have HOF := Lib.hid hof
            clear hof
            clear hb2
            go_wp2_with (at_builtin; refine wpList_app rfl (.tmp 109) (.tmp 113) rfl eltAnswer w2.heap.size (.slice A' (outK Bt.wins L v at_ same at_).length c') ((outK Bt.wins L v at_ same at_).length) (CL Bt.cells R) rfl (O5.out.alloc _) (some ⟨x2.heap.size, 0, none⟩) 1 1 ({ v with A := fA, k := fk } : Bt).cells rfl rfl (fun h => by cases h) (fresh_news x2 ({ v with A := fA, k := fk } : Bt).cells.toArray 125) (Bt.one ({ v with A := fA, k := fk } : Bt)) ?d3 ?d4 ?d5 ?_)
            case d3 => have := HLN.out; have := HSM.out; simp only [maxLen]; omega
            case d4 => have := HLN.out; have := HSM.out; omega
            case d5 => have := B5.out.size; simp; omega
            intro A9 c9 w9 ho9 hg9 hbk9
            have B9 : Hid (Below w2.heap.size w2 w9) := below_own B5.out B5.out.size O5.out ((World.grownBy_alloc x2 _ _).trans hg9)
            have C9 := Lib.hid ((HC.out.mono (fun j e => .inl e)).push v HO.out HR.out.size HBB.out HOF.out hg9 (q := _) hbk9 (by simp))
            have O9 := Lib.hid ho9
            clear ho9 hg9 O5 B5 hbk9 HBB HOF
            have HE : Hid ((outK Bt.wins L v at_ same at_).length + 1 = (putL Bt.wins L v at_ same).length) := by rw [HPU.out]; simp [Hid]
            rw [HE.out]
            have O10 := Lib.hid (show w9.ownsRow w2.heap.size 125 6 (.slice A9 (putL Bt.wins L v at_ same).length c9) (putL Bt.wins L v at_ same).length (CL Bt.cells (R ++ [({ v with A := fA, k := fk } : Bt)])) by rw [CL_push, ← HE.out]; exact O9.out)
            have C10 := Lib.hid (show Cpy w2.heap.size lg (RowB (.slice A9 (putL Bt.wins L v at_ same).length c9)) w9 _ (putL Bt.wins L v at_ same) by rw [← HE.out, HPU.out]; exact C9.out)
            clear p0
            go_wp2_with fail
            go_ret
            refine ⟨at_, same, HPL.out, A9, c9, _, rfl, BW.out.trans (B9.out.mono BW.out.size), own_mono O10.out BW.out.size, C10.out.lower BW.out.size⟩
          · have hb0 : ((at_ : Int) == (k : Int)) = false := beq_eq_false_iff_ne.2 (by omega)
            have HPU : Hid (outK Bt.wins L v at_ same k = putL Bt.wins L v at_ same) := by simp only [Hid, putL]; rw [HN2.out, if_neg hak, List.append_nil]
            rw [HPU.out] at HO HC0 ⊢
            clear hak
            go_wp2_with fail
            go_ret
            refine ⟨at_, same, HPL.out, A', c', _, rfl, BW.out.trans (HR.out.mono BW.out.size), own_mono HO.out BW.out.size, HC0.out.lower BW.out.size⟩
end Go.Proofs.Ytjjobgolpedgeaa
