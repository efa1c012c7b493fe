/-
  Parts of the walks of TallyBallots and TallyAnswers. Merged by merge.py: TChoose, TRefChoose.
-/
import Derived.Test.YtjjobgolpedgeaaTGA
set_option linter.unusedVariables false
set_option linter.unusedSimpArgs false
namespace Go.Proofs.Ytjjobgolpedgeaa
open Go.RowKit

/-- is x to be taken rather than b? -/
def better (x b : Lt) : Bool := decide (b.v < x.v) || (x.v == b.v && (decide ((b.log.length : Int) < x.log.length) || (decide (x.log.length = b.log.length) && decide (x.n < b.n))))
theorem better_iff (x b : Lt) : better x b = true ↔ (b.v < x.v ∨ (x.v = b.v ∧ (b.log.length < x.log.length ∨ (x.log.length = b.log.length ∧ x.n < b.n)))) := by
  unfold better
  rw [Bool.or_eq_true, Bool.and_eq_true, Bool.or_eq_true, Bool.and_eq_true, decide_eq_true_iff, decide_eq_true_iff, decide_eq_true_iff, decide_eq_true_iff, beq_iff_eq]
  omega
theorem better_not {x b : Lt} (h : ¬ (b.v < x.v ∨ (x.v = b.v ∧ (b.log.length < x.log.length ∨ (x.log.length = b.log.length ∧ x.n < b.n))))) : better x b = false := by
  cases e : better x b with
  | false => rfl
  | true => exact absurd ((better_iff x b).1 e) h
def bestV (own : Lt) (L : List Lt) : Lt := L.foldl (fun b x => if better x b then x else b) own
def mostV (own : Lt) (L : List Lt) : Int := L.foldl (fun m x => max m x.c) own.c
def chooseV (own : Lt) (L : List Lt) : Lt := { bestV own L with c := max 0 (min (mostV own L) (bestV own L).log.length) }
theorem bestV_push (own : Lt) (L : List Lt) (x : Lt) : bestV own (L ++ [x]) = if better x (bestV own L) then x else bestV own L := by
  simp only [bestV, List.foldl_append, List.foldl_cons, List.foldl_nil]
  first | done | rfl
theorem mostV_push (own : Lt) (L : List Lt) (x : Lt) : mostV own (L ++ [x]) = max (mostV own L) x.c := by simp [mostV]
theorem min_if (a b : Int) : (if b < a then b else a) = min a b := by omega
/-- what Choose answers -/
def ChoV (W : World) (x : Lt) (e : Ending) (w' : World) : Prop := Below W.heap.size W w' ∧ ∃ A k, e = .returned (.tuple #[x.agg A k, .int .i64 0]) ∧ OkL w' A k x.log
abbrev six (w : World) (r : Nat) (v0 v1 v2 v3 v4 v5 : Value) : World := (((((w.setCell ⟨r, 0, none⟩ v0).setCell ⟨r, 1, none⟩ v1).setCell ⟨r, 2, none⟩ v2).setCell ⟨r, 3, none⟩ v3).setCell ⟨r, 4, none⟩ v4).setCell ⟨r, 5, none⟩ v5
theorem ob_six {w : World} {r : Nat} {u0 u1 u2 u3 u4 u5 : Value} (h : Ob w r [u0, u1, u2, u3, u4, u5]) (v0 v1 v2 v3 v4 v5 : Value) : Ob (six w r v0 v1 v2 v3 v4 v5) r [v0, v1, v2, v3, v4, v5] :=
  ((((((h.set 0 (by simp) v0).set 1 (by simp) v1).set 2 (by simp) v2).set 3 (by simp) v3).set 4 (by simp) v4).set 5 (by simp) v5)
theorem below_six {B r : Nat} {W w : World} (h : Below B W w) (hr : B ≤ r) (v0 v1 v2 v3 v4 v5 : Value) : Below B W (six w r v0 v1 v2 v3 v4 v5) :=
  ((((((h.setCell hr v0).setCell hr v1).setCell hr v2).setCell hr v3).setCell hr v4).setCell hr v5)
theorem own_six {w : World} {B r n : Nat} {e : TypeId} {size : Nat} {v : Value} {xs : List Value} (h : w.ownsRow B e size v n xs) (hr : r < B) (v0 v1 v2 v3 v4 v5 : Value) : (six w r v0 v1 v2 v3 v4 v5).ownsRow B e size v n xs :=
  (((((ownsRow_setCell_below h (by simp only; omega) v0 |> (ownsRow_setCell_below · (by simp only; omega) v1)) |> (ownsRow_setCell_below · (by simp only; omega) v2)) |> (ownsRow_setCell_below · (by simp only; omega) v3)) |> (ownsRow_setCell_below · (by simp only; omega) v4)) |> (ownsRow_setCell_below · (by simp only; omega) v5))
set_option maxHeartbeats 16000000 in
set_option maxRecDepth 100000 in
theorem choose_few (f : Int) (own : Lt) (C : Option Addr) (kc : Nat) (A : Option Addr) (n c : Nat) (w : World) (hf : (n : Int) < f) :
    Calls Try.prog 30 #[.int .i64 f, own.agg C kc, .slice A n c] w fun e w' => e = .returned (.tuple #[(default : Lt).agg none 0, .int .i64 81]) ∧ Below w.heap.size w w' := by
  go_enter Try.func30, Try.ntmps30
  go_wp2
  go_returns
  exact ⟨rfl, by go_grown⟩
set_option maxHeartbeats 16000000 in
set_option maxRecDepth 100000 in
theorem choose_v (f : Int) (own : Lt) (C : Option Addr) (kc : Nat) (A : Option Addr) (n c : Nat) (V : List Lt) (w : World) (hf : ¬ (n : Int) < f) (ho : OkL w C kc own.log) (h : RdV w A n V) (hsm : n * 64 ≤ 140737488355328) :
    Calls Try.prog 30 #[.int .i64 f, own.agg C kc, .slice A n c] w (ChoV w (chooseV own V)) := by
  have H := Lib.hid h
  have HO := Lib.hid ho
  have HL := Lib.hid h.len
  have hnb : (n : Int) ≤ 6000000000000 := by omega
  clear h ho hsm
  go_enter Try.func30, Try.ntmps30
  go_upto_region 3 with fail
  have O4 := Lib.hid ((Ob.fresh w #[.int .i64 own.n, .int .u64 (own.h : Nat), .int .u64 (own.l : Nat), .int .i64 own.v, .int .i64 own.c, .slice C own.log.length kc] 53).alloc (.cells #[.int .i64 0, .int .u64 0, .int .u64 0, .int .i64 0, .int .i64 0, .slice none 0 0] 53))
  have O6 : Hid (Ob ((w.alloc (.cells #[.int .i64 own.n, .int .u64 (own.h : Nat), .int .u64 (own.l : Nat), .int .i64 own.v, .int .i64 own.c, .slice C own.log.length kc] 53)).alloc (.cells #[.int .i64 0, .int .u64 0, .int .u64 0, .int .i64 0, .int .i64 0, .slice none 0 0] 53)) (w.heap.size + 1) [.int .i64 0, .int .u64 0, .int .u64 0, .int .i64 0, .int .i64 0, .slice none 0 0]) := by
    have h := Ob.fresh (w.alloc (.cells #[.int .i64 own.n, .int .u64 (own.h : Nat), .int .u64 (own.l : Nat), .int .i64 own.v, .int .i64 own.c, .slice C own.log.length kc] 53)) #[.int .i64 0, .int .u64 0, .int .u64 0, .int .i64 0, .int .i64 0, .slice none 0 0] 53
    rw [World.size_alloc] at h
    exact h
  have BW : Hid (Below w.heap.size w ((w.alloc (.cells #[.int .i64 own.n, .int .u64 (own.h : Nat), .int .u64 (own.l : Nat), .int .i64 own.v, .int .i64 own.c, .slice C own.log.length kc] 53)).alloc (.cells #[.int .i64 0, .int .u64 0, .int .u64 0, .int .i64 0, .int .i64 0, .slice none 0 0] 53))) := (below_alloc _ _).alloc (by simp) _
  generalize (w.alloc (.cells #[.int .i64 own.n, .int .u64 (own.h : Nat), .int .u64 (own.l : Nat), .int .i64 own.v, .int .i64 own.c, .slice C own.log.length kc] 53)).alloc (.cells #[.int .i64 0, .int .u64 0, .int .u64 0, .int .i64 0, .int .i64 0, .slice none 0 0] 53) = w2 at O4 O6 BW ⊢
  obtain ⟨r4, hr4⟩ : ∃ r, w.heap.size = r := ⟨_, rfl⟩
  rw [hr4] at O4 O6 ⊢
  obtain ⟨r6, hr6⟩ : ∃ r, r4 + 1 = r := ⟨_, rfl⟩
  rw [hr6] at O6 ⊢
  have HR6 : Hid (w.heap.size ≤ r6) := by simp only [Hid]; omega
  clear hr4 hr6
  go_cut [8, 9] (fun pv mv wx => ∃ r8 : Nat, pv = .pointer (some ⟨r8, 0, none⟩) ∧ mv = .int .i64 own.c ∧ Hid (w2.heap.size ≤ r8 ∧ Ob wx r8 [.int .i64 own.n, .int .u64 (own.h : Nat), .int .u64 (own.l : Nat), .int .i64 own.v, .int .i64 own.c, .slice C own.log.length kc] ∧ Below w2.heap.size w2 wx))
  case first =>
    obtain ⟨p0, p1, p2, p3, p4, p5⟩ := O4.out.all6
    have z4 := O4.out.lt (by simp)
    go_region
    all_goals
      go_wp2_with fail
      go_meet
      exact ⟨w2.heap.size, rfl, rfl, Nat.le_refl _, Ob.drewN (Ob.fresh w2 #[.int .i64 own.n, .int .u64 (own.h : Nat), .int .u64 (own.l : Nat), .int .i64 own.v, .int .i64 own.c, .slice C own.log.length kc] 53) 1, Below.drew (below_alloc _ _)⟩
  case rest =>
    obtain ⟨r8, rfl, rfl, h8⟩ := hcut
    have HR8 := Lib.hid h8.1
    have O8 := Lib.hid h8.2.1
    have H8 := Lib.hid h8.2.2
    have HB8 : Hid (w.heap.size ≤ r8) := Nat.le_trans BW.out.size h8.1
    have HN68 : Hid (r6 ≠ r8) := by have := O6.out.lt (by simp); have := h8.1; simp only [Hid]; omega
    replace O6 := Lib.hid (O6.out.below H8.out)
    replace BW := Lib.hid (BW.out.trans (H8.out.mono BW.out.size))
    clear h8 H8 O4 HR8
    go_wp2_with fail
    go_loopw [9, 23] (fun mv iv wr => ∃ (k : Nat) (B : Option Addr) (j : Nat), k ≤ n ∧ iv = .int .i64 k ∧ mv = .int .i64 (mostV own (V.take k)) ∧ Hid (Ob wr r8 [.int .i64 (bestV own (V.take k)).n, .int .u64 ((bestV own (V.take k)).h : Nat), .int .u64 ((bestV own (V.take k)).l : Nat), .int .i64 (bestV own (V.take k)).v, .int .i64 (bestV own (V.take k)).c, .slice B (bestV own (V.take k)).log.length j] ∧ Ob wr r6 [.int .i64 0, .int .u64 0, .int .u64 0, .int .i64 0, .int .i64 0, .slice none 0 0] ∧ OkL w B j (bestV own (V.take k)).log ∧ Below w.heap.size w wr)) (fun _ iv _ => n - (intOf iv).toNat)
    case atStart => exact ⟨0, C, kc, by omega, rfl, rfl, O8.out, O6.out, HO.out, BW.out⟩
    case round =>
      obtain ⟨k, B, j, hk, rfl, rfl, HX⟩ := hrel
      obtain ⟨b, hb⟩ : ∃ b, bestV own (V.take k) = b := ⟨_, rfl⟩
      rw [hb] at HX
      have HBB := Lib.hid hb
      clear hb
      have O8r := Lib.hid HX.out.1
      have O6r := Lib.hid HX.out.2.1
      have LBr := Lib.hid HX.out.2.2.1
      have BWr := Lib.hid HX.out.2.2.2
      clear HX
      by_cases hkn : k < n
      · obtain ⟨x, hx⟩ : ∃ x, V[k]? = some x := ⟨_, List.getElem?_eq_getElem (by have := HL.out; omega)⟩
        obtain ⟨ad, D, i, rfl, o1, g0, g1, g2, g3, g4, g5⟩ := (H.out.below BWr.out).atV hx
        have LX : Hid (OkL w D i x.log) := by
          obtain ⟨ad', D', i', e, o2, _, _, _, _, _, g5'⟩ := H.out.atV hx
          cases e
          have := (BWr.out.cell (World.block_lt_of_cell? w _ g5')).trans g5'
          rw [g5] at this
          cases this
          exact o2
        have hki : (k : Int) < (n : Int) := by omega
        have hk2 : (k : Int) + 1 ≤ 6000000000000 := by omega
        have HKN := Lib.hid hkn
        have HMX : Hid (mostV own (V.take (k + 1)) = max (mostV own (V.take k)) x.c) := by rw [take_next hx]; exact mostV_push _ _ _
        have HBX : Hid (bestV own (V.take (k + 1)) = if better x b then x else b) := by rw [take_next hx, bestV_push, HBB.out]; exact rfl
        have hxl : (x.log.length : Int) ≤ 6000000000000 := by have := LX.out.small; omega
        have hbl : (b.log.length : Int) ≤ 6000000000000 := by have := LBr.out.small; omega
        clear hx hkn hk o1
        go_upto_region 8 with fail
        obtain ⟨mx, hmx⟩ : ∃ mx, (if mostV own (V.take k) < x.c then x.c else mostV own (V.take k)) = mx := ⟨_, rfl⟩
        rw [hmx]
        replace HMX : Hid (mostV own (V.take (k + 1)) = mx) := by rw [HMX.out, ← max_if]; exact hmx
        clear hmx
        obtain ⟨mk, hmk⟩ : ∃ mk, mostV own (V.take k) = mk := ⟨_, rfl⟩
        rw [hmk]
        clear hmk
        have OX := Lib.hid (Ob.fresh wr #[.int .i64 x.n, .int .u64 (x.h : Nat), .int .u64 (x.l : Nat), .int .i64 x.v, .int .i64 x.c, .slice D x.log.length i] 53)
        have HX : Hid (Below wr.heap.size wr (wr.alloc (.cells #[.int .i64 x.n, .int .u64 (x.h : Nat), .int .u64 (x.l : Nat), .int .i64 x.v, .int .i64 x.c, .slice D x.log.length i] 53))) := below_alloc _ _
        generalize wr.alloc (.cells #[.int .i64 x.n, .int .u64 (x.h : Nat), .int .u64 (x.l : Nat), .int .i64 x.v, .int .i64 x.c, .slice D x.log.length i] 53) = w3 at OX HX ⊢
        generalize wr.heap.size = r11 at OX ⊢
        replace O8r := Lib.hid (O8r.out.below HX.out)
        replace O6r := Lib.hid (O6r.out.below HX.out)
        replace BWr := Lib.hid (BWr.out.trans (HX.out.mono BWr.out.size))
        clear HX g0 g1 g2 g3 g4 g5
        go_cut [67] (fun bv wx => bv = .bool (better x b) ∧ w3 = wx)
        case first =>
          obtain ⟨p0, p1, p2, p3, p4, p5⟩ := OX.out.all6
          obtain ⟨y0, y1, y2, y3, y4, y5⟩ := O8r.out.all6
          by_cases c1 : b.v < x.v
          case pos =>
            have HBT : Hid (better x b = true) := (better_iff x b).2 (by have := c1; omega)
            go_wp2_with fail
            go_meet
            exact ⟨by rw [HBT.out], rfl⟩
          have C1 := Lib.hid c1
          by_cases c2 : x.v = b.v
          case neg =>
            have hx2 : (x.v == b.v) = false := beq_eq_false_iff_ne.2 c2
            have C2 := Lib.hid c2
            clear c2
            have HBT : Hid (better x b = false) := better_not (by have := C1.out; have := C2.out; omega)
            go_wp2_with fail
            go_meet
            exact ⟨by rw [HBT.out], rfl⟩
          have C2 := Lib.hid c2
          rw [c2] at p3
          clear c2
          have c1' : ¬ b.v < b.v := by omega
          by_cases c3 : (b.log.length : Int) < (x.log.length : Int)
          case pos =>
            have HBT : Hid (better x b = true) := (better_iff x b).2 (by have := C2.out; have := c3; omega)
            go_wp2_with fail
            go_meet
            exact ⟨by rw [HBT.out], rfl⟩
          have C3 := Lib.hid c3
          by_cases c4 : x.log.length = b.log.length
          case neg =>
            have hx4 : ((x.log.length : Int) == (b.log.length : Int)) = false := beq_eq_false_iff_ne.2 (by omega)
            have C4 := Lib.hid c4
            clear c4
            have HBT : Hid (better x b = false) := better_not (by have := C1.out; have := C3.out; have := C4.out; omega)
            go_wp2_with fail
            go_meet
            exact ⟨by rw [HBT.out], rfl⟩
          have C4 := Lib.hid c4
          rw [c4] at p5
          clear c4
          have c3' : ¬ (b.log.length : Int) < (b.log.length : Int) := by omega
          by_cases c5 : x.n < b.n
          case pos =>
            have HBT : Hid (better x b = true) := (better_iff x b).2 (by have := C2.out; have := C4.out; have := c5; omega)
            go_wp2_with fail
            go_meet
            exact ⟨by rw [HBT.out], rfl⟩
          case neg =>
            have HBT : Hid (better x b = false) := better_not (by have := C1.out; have := C3.out; have := c5; omega)
            go_wp2_with fail
            go_meet
            exact ⟨by rw [HBT.out], rfl⟩
        case rest =>
          obtain ⟨rfl, rfl⟩ := hcut
          obtain ⟨p0, p1, p2, p3, p4, p5⟩ := OX.out.all6
          obtain ⟨y0, y1, y2, y3, y4, y5⟩ := O8r.out.all6
          obtain ⟨s0, s1, s2, s3, s4, s5⟩ := O8r.out.fro6
          have z8 := O8r.out.lt (by simp)
          have z11 := OX.out.lt (by simp)
          obtain ⟨bb, hbb⟩ : ∃ bb, better x b = bb := ⟨_, rfl⟩
          rw [hbb] at HBX ⊢
          clear hbb
          cases bb with
          | true =>
            have HBE : Hid (bestV own (V.take (k + 1)) = x) := HBX.out
            go_wp2_with fail
            go_roundw
            case rel => exact ⟨k + 1, D, i, HKN.out, by go_num, by rw [HMX.out], by
              rw [HBE.out]
              exact ⟨ob_six O8r.out (.int .i64 x.n) (.int .u64 (x.h : Nat)) (.int .u64 (x.l : Nat)) (.int .i64 x.v) (.int .i64 x.c) (.slice D x.log.length i), ((((((O6r.out.setOther _ HN68.out).setOther _ HN68.out).setOther _ HN68.out).setOther _ HN68.out).setOther _ HN68.out).setOther _ HN68.out), LX.out, below_six BWr.out HB8.out (.int .i64 x.n) (.int .u64 (x.h : Nat)) (.int .u64 (x.l : Nat)) (.int .i64 x.v) (.int .i64 x.c) (.slice D x.log.length i)⟩⟩
            case measure => have := HKN.out; simp [intOf]; omega
          | false =>
            have HBE : Hid (bestV own (V.take (k + 1)) = b) := HBX.out
            go_wp2_with fail
            go_roundw
            case rel => exact ⟨k + 1, B, j, HKN.out, by go_num, by rw [HMX.out], by
              rw [HBE.out]
              exact ⟨O8r.out, O6r.out, LBr.out, BWr.out⟩⟩
            case measure => have := HKN.out; simp [intOf]; omega
      · obtain rfl : k = n := by omega
        have hki : ¬ (k : Int) < (k : Int) := by omega
        have hbl : (b.log.length : Int) ≤ 6000000000000 := by have := LBr.out.small; omega
        obtain ⟨mo, hmo⟩ : ∃ mo, mostV own (V.take k) = mo := ⟨_, rfl⟩
        rw [hmo]
        have HRES : Hid (chooseV own V = { b with c := max 0 (min mo b.log.length) }) := by
          rw [List.take_of_length_le (Nat.le_of_eq HL.out)] at HBB hmo
          unfold chooseV
          rw [HBB.out, hmo]
          exact rfl
        clear hkn hk hmo HBB
        obtain ⟨y0, y1, y2, y3, y4, y5⟩ := O8r.out.all6
        go_wp2_with fail
        have LB2 := Lib.hid (LBr.out.below BWr.out)
        refine (freshBallot_any (b.raw B j) b.log _ LB2.out.rd LB2.out.non LB2.out.small).mono ?_
        rintro e x5 ⟨fA, fk, rfl, hb5, hof⟩
        have H5 := Lib.hid hb5
        have OWN5 := Lib.hid hof
        have OWNX : Hid (∀ j, (Value.slice fA b.log.length fk).ownBlock = some j → j < x5.heap.size) := fun j hj => (hof.lt j hj).2
        have HLT : Hid (r6 < wr.heap.size) := O6r.out.lt (by simp)
        replace O8r := Lib.hid (O8r.out.below H5.out)
        replace O6r := Lib.hid (O6r.out.below H5.out)
        replace BWr := Lib.hid (BWr.out.trans (H5.out.mono BWr.out.size))
        clear hb5 hof y0 y1 y2 y3 y4 y5
        obtain ⟨y0, y1, y2, y3, y4, y5⟩ := O8r.out.all6
        have z8 := O8r.out.lt (by simp)
        go_upto_region 12 with fail
        have OF := Lib.hid (Ob.fresh x5 #[.int .i64 b.n, .int .u64 (b.h : Nat), .int .u64 (b.l : Nat), .int .i64 b.v, .int .i64 b.c, .slice fA b.log.length fk] 53)
        have HF : Hid (Below x5.heap.size x5 (x5.alloc (.cells #[.int .i64 b.n, .int .u64 (b.h : Nat), .int .u64 (b.l : Nat), .int .i64 b.v, .int .i64 b.c, .slice fA b.log.length fk] 53))) := below_alloc _ _
        have HRF : Hid (x5.heap.size ≤ x5.heap.size) := Nat.le_refl _
        clear y0 y1 y2 y3 y4 y5 z8
        generalize x5.alloc (.cells #[.int .i64 b.n, .int .u64 (b.h : Nat), .int .u64 (b.l : Nat), .int .i64 b.v, .int .i64 b.c, .slice fA b.log.length fk] 53) = w6 at OF HF ⊢
        obtain ⟨rf, hrf⟩ : ∃ r, x5.heap.size = r := ⟨_, rfl⟩
        rw [hrf] at OF ⊢
        have HGE : Hid (x5.heap.size ≤ rf) := by simp only [Hid]; omega
        have HNF6 : Hid (r6 ≠ rf) := by have := O6r.out.lt (by simp); simp only [Hid]; omega
        have HBF : Hid (w.heap.size ≤ rf) := Nat.le_trans BWr.out.size HGE.out
        clear hrf HRF
        have O8f := Lib.hid (O8r.out.below HF.out)
        have O6f := Lib.hid (O6r.out.below HF.out)
        have BWf := Lib.hid (BWr.out.trans (HF.out.mono BWr.out.size))
        have OWNf := Lib.hid (own_kept OWN5.out HF.out)
        clear O8r O6r BWr OWN5 HF
        go_cut [77] (fun v wx => v = .int .i64 (max 0 (min mo (b.log.length : Int))) ∧ Hid (wx = w6.setCell ⟨rf, 4, none⟩ (.int .i64 (max 0 (min mo (b.log.length : Int))))))
        case first =>
          have y5 := O8f.out.cell 5 rfl
          have q4 := OF.out.cell 4 rfl
          have f4 := OF.out.fr 4 (by simp)
          have zf := OF.out.lt (by simp)
          have z8 := O8f.out.lt (by simp)
          by_cases m1 : (b.log.length : Int) < mo
          case pos =>
            by_cases m2 : (0 : Int) < (b.log.length : Int)
            case pos =>
              have HT : Hid (max 0 (min mo (b.log.length : Int)) = (b.log.length : Int)) := by simp only [Hid]; omega
              go_wp2_with fail
              go_meet
              exact ⟨by rw [HT.out], by rw [HT.out]; exact rfl⟩
            case neg =>
              have HT : Hid (max 0 (min mo (b.log.length : Int)) = 0) := by simp only [Hid]; omega
              go_wp2_with fail
              go_meet
              exact ⟨by rw [HT.out], by rw [HT.out]; exact rfl⟩
          case neg =>
            by_cases m2 : (0 : Int) < mo
            case pos =>
              have HT : Hid (max 0 (min mo (b.log.length : Int)) = mo) := by simp only [Hid]; omega
              go_wp2_with fail
              go_meet
              exact ⟨by rw [HT.out], by rw [HT.out]; exact rfl⟩
            case neg =>
              have HT : Hid (max 0 (min mo (b.log.length : Int)) = 0) := by simp only [Hid]; omega
              go_wp2_with fail
              go_meet
              exact ⟨by rw [HT.out], by rw [HT.out]; exact rfl⟩
        case rest =>
          obtain ⟨rfl, HW⟩ := hcut
          obtain ⟨T, hT⟩ : ∃ T, max 0 (min mo (b.log.length : Int)) = T := ⟨_, rfl⟩
          rw [hT] at HW HRES ⊢
          clear hT
          have OG : Hid (Ob wc rf [.int .i64 b.n, .int .u64 (b.h : Nat), .int .u64 (b.l : Nat), .int .i64 b.v, .int .i64 T, .slice fA b.log.length fk]) := by rw [HW.out]; exact OF.out.set 4 (by simp) (.int .i64 T)
          have O6g : Hid (Ob wc r6 [.int .i64 0, .int .u64 0, .int .u64 0, .int .i64 0, .int .i64 0, .slice none 0 0]) := by rw [HW.out]; exact O6f.out.setOther _ HNF6.out
          have BWg : Hid (Below w.heap.size w wc) := by rw [HW.out]; exact BWf.out.setCell HBF.out _
          have OWNg : Hid (wc.ownsRow wr.heap.size 156 5 (.slice fA b.log.length fk) b.log.length (CL Et.cells b.log)) := by
            rw [HW.out]
            refine OWNf.out.kept (grown_setCell _ _ _) ?_
            cases hv : (Value.slice fA b.log.length fk).ownBlock with
            | none => exact .inl rfl
            | some j => exact .inr (fun e => by have h1 := OWNX.out j hv; have h2 := HGE.out; simp at e; omega)
          clear HW O8f O6f OF BWf OWNf
          obtain ⟨q0, q1, q2, q3, q4, q5⟩ := OG.out.all6
          obtain ⟨x0, x1, x2, x3, x4, x6⟩ := O6g.out.all6
          obtain ⟨s0, s1, s2, s3, s4, s5⟩ := O6g.out.fro6
          have z6 := O6g.out.lt (by simp)
          have zf := OG.out.lt (by simp)
          go_wp2_with fail
          (try simp only [Exit.inBlock, Exit.then])
          have R0 := ob_six O6g.out (.int .i64 b.n) (.int .u64 (b.h : Nat)) (.int .u64 (b.l : Nat)) (.int .i64 b.v) (.int .i64 T) (.slice fA b.log.length fk)
          refine ret_cells Try.results30 (b := r6) Try.underlying53 (by kernel_rfl) rfl rfl R0 rfl ?_
          refine ⟨below_six BWg.out HR6.out (.int .i64 b.n) (.int .u64 (b.h : Nat)) (.int .u64 (b.l : Nat)) (.int .i64 b.v) (.int .i64 T) (.slice fA b.log.length fk), fA, fk, ?_, ?_⟩
          · rw [HRES.out]; exact rfl
          · rw [HRES.out]; exact okL_own (own_six OWNg.out HLT.out (.int .i64 b.n) (.int .u64 (b.h : Nat)) (.int .u64 (b.l : Nat)) (.int .i64 b.v) (.int .i64 T) (.slice fA b.log.length fk)) rfl LB2.out.small
end Go.Proofs.Ytjjobgolpedgeaa
set_option linter.unusedVariables false
set_option linter.unusedSimpArgs false
namespace Go.Proofs.Ytjjobgolpedgeaa
open Go.RowKit

set_option maxHeartbeats 16000000 in
set_option maxRecDepth 100000 in
theorem refChoose_few (f : Int) (own : Lt) (C : Option Addr) (kc : Nat) (A : Option Addr) (n c : Nat) (w : World) (hf : (n : Int) < f) :
    Calls Try.prog 70 #[.int .i64 f, own.agg C kc, .slice A n c] w fun e w' => e = .returned (.tuple #[(default : Lt).agg none 0, .int .i64 81]) ∧ Below w.heap.size w w' := by
  go_enter Try.func70, Try.ntmps70
  go_wp2
  go_returns
  exact ⟨rfl, by go_grown⟩
set_option maxHeartbeats 16000000 in
set_option maxRecDepth 100000 in
theorem refChoose_v (f : Int) (own : Lt) (C : Option Addr) (kc : Nat) (A : Option Addr) (n c : Nat) (V : List Lt) (w : World) (hf : ¬ (n : Int) < f) (ho : OkL w C kc own.log) (h : RdV w A n V) (hsm : n * 64 ≤ 140737488355328) :
    Calls Try.prog 70 #[.int .i64 f, own.agg C kc, .slice A n c] w (ChoV w (chooseV own V)) := by
  have H := Lib.hid h
  have HO := Lib.hid ho
  have HL := Lib.hid h.len
  have hnb : (n : Int) ≤ 6000000000000 := by omega
  clear h ho hsm
  go_enter Try.func70, Try.ntmps70
  go_upto_region 3 with fail
  have O4 := Lib.hid ((Ob.fresh w #[.int .i64 own.n, .int .u64 (own.h : Nat), .int .u64 (own.l : Nat), .int .i64 own.v, .int .i64 own.c, .slice C own.log.length kc] 53).alloc (.cells #[.int .i64 0, .int .u64 0, .int .u64 0, .int .i64 0, .int .i64 0, .slice none 0 0] 53))
  have O6 : Hid (Ob ((w.alloc (.cells #[.int .i64 own.n, .int .u64 (own.h : Nat), .int .u64 (own.l : Nat), .int .i64 own.v, .int .i64 own.c, .slice C own.log.length kc] 53)).alloc (.cells #[.int .i64 0, .int .u64 0, .int .u64 0, .int .i64 0, .int .i64 0, .slice none 0 0] 53)) (w.heap.size + 1) [.int .i64 0, .int .u64 0, .int .u64 0, .int .i64 0, .int .i64 0, .slice none 0 0]) := by
    have h := Ob.fresh (w.alloc (.cells #[.int .i64 own.n, .int .u64 (own.h : Nat), .int .u64 (own.l : Nat), .int .i64 own.v, .int .i64 own.c, .slice C own.log.length kc] 53)) #[.int .i64 0, .int .u64 0, .int .u64 0, .int .i64 0, .int .i64 0, .slice none 0 0] 53
    rw [World.size_alloc] at h
    exact h
  have BW : Hid (Below w.heap.size w ((w.alloc (.cells #[.int .i64 own.n, .int .u64 (own.h : Nat), .int .u64 (own.l : Nat), .int .i64 own.v, .int .i64 own.c, .slice C own.log.length kc] 53)).alloc (.cells #[.int .i64 0, .int .u64 0, .int .u64 0, .int .i64 0, .int .i64 0, .slice none 0 0] 53))) := (below_al _ _).alloc (by simp) _
  generalize ((w.alloc (.cells #[.int .i64 own.n, .int .u64 (own.h : Nat), .int .u64 (own.l : Nat), .int .i64 own.v, .int .i64 own.c, .slice C own.log.length kc] 53)).alloc (.cells #[.int .i64 0, .int .u64 0, .int .u64 0, .int .i64 0, .int .i64 0, .slice none 0 0] 53)) = w2 at O4 O6 BW ⊢
  obtain ⟨r4, hr4⟩ : ∃ r, w.heap.size = r := ⟨_, rfl⟩
  rw [hr4] at O4 O6 ⊢
  obtain ⟨r6, hr6⟩ : ∃ r, r4 + 1 = r := ⟨_, rfl⟩
  rw [hr6] at O6 ⊢
  have HR6 : Hid (w.heap.size ≤ r6) := by simp only [Hid]; omega
  clear hr4 hr6
  obtain ⟨p0, p1, p2, p3, p4, p5⟩ := O4.out.all6
  have z4 := O4.out.lt (by simp)
  go_upto_region 5 with fail
  have O8 := Lib.hid (Ob.fresh w2 #[.int .i64 own.n, .int .u64 (own.h : Nat), .int .u64 (own.l : Nat), .int .i64 own.v, .int .i64 own.c, .slice C own.log.length kc] 53)
  have HB8 : Hid (w.heap.size ≤ w2.heap.size) := BW.out.size
  have HN68 : Hid (r6 ≠ w2.heap.size) := by have := O6.out.lt (by simp); simp only [Hid]; omega
  replace O6 := Lib.hid (O6.out.alloc (.cells #[.int .i64 own.n, .int .u64 (own.h : Nat), .int .u64 (own.l : Nat), .int .i64 own.v, .int .i64 own.c, .slice C own.log.length kc] 53))
  replace BW := Lib.hid (BW.out.alloc BW.out.size (.cells #[.int .i64 own.n, .int .u64 (own.h : Nat), .int .u64 (own.l : Nat), .int .i64 own.v, .int .i64 own.c, .slice C own.log.length kc] 53))
  clear p0 p1 p2 p3 p4 p5 z4 O4
  generalize w2.alloc (.cells #[.int .i64 own.n, .int .u64 (own.h : Nat), .int .u64 (own.l : Nat), .int .i64 own.v, .int .i64 own.c, .slice C own.log.length kc] 53) = w3 at O8 O6 BW ⊢
  generalize w2.heap.size = r8 at O8 HB8 HN68 ⊢
  go_wp2_with fail
  go_loopw [9, 10] (fun mv iv wr => ∃ (k : Nat) (B : Option Addr) (j : Nat), k ≤ n ∧ iv = .int .i64 k ∧ mv = .int .i64 (mostV own (V.take k)) ∧ Hid (Ob wr r8 [.int .i64 (bestV own (V.take k)).n, .int .u64 ((bestV own (V.take k)).h : Nat), .int .u64 ((bestV own (V.take k)).l : Nat), .int .i64 (bestV own (V.take k)).v, .int .i64 (bestV own (V.take k)).c, .slice B (bestV own (V.take k)).log.length j] ∧ Ob wr r6 [.int .i64 0, .int .u64 0, .int .u64 0, .int .i64 0, .int .i64 0, .slice none 0 0] ∧ OkL w B j (bestV own (V.take k)).log ∧ Below w.heap.size w wr)) (fun _ iv _ => n - (intOf iv).toNat)
  case atStart => exact ⟨0, C, kc, by omega, rfl, rfl, O8.out, O6.out, HO.out, BW.out⟩
  case round =>
    obtain ⟨k, B, j, hk, rfl, rfl, HX⟩ := hrel
    obtain ⟨b, hb⟩ : ∃ b, bestV own (V.take k) = b := ⟨_, rfl⟩
    rw [hb] at HX
    have HBB := Lib.hid hb
    clear hb
    have O8r := Lib.hid HX.out.1
    have O6r := Lib.hid HX.out.2.1
    have LBr := Lib.hid HX.out.2.2.1
    have BWr := Lib.hid HX.out.2.2.2
    clear HX
    by_cases hkn : k < n
    · obtain ⟨x, hx⟩ : ∃ x, V[k]? = some x := ⟨_, List.getElem?_eq_getElem (by have := HL.out; omega)⟩
      obtain ⟨ad, D, i, rfl, o1, g0, g1, g2, g3, g4, g5⟩ := (H.out.below BWr.out).atV hx
      have LX : Hid (OkL w D i x.log) := by
        obtain ⟨ad', D', i', e, o2, _, _, _, _, _, g5'⟩ := H.out.atV hx
        cases e
        have := (BWr.out.cell (World.block_lt_of_cell? w _ g5')).trans g5'
        rw [g5] at this
        cases this
        exact o2
      have hki : (k : Int) < (n : Int) := by omega
      have hk2 : (k : Int) + 1 ≤ 6000000000000 := by omega
      have HKN := Lib.hid hkn
      have HXX := Lib.hid hx
      have HMX : Hid (mostV own (V.take (k + 1)) = max (mostV own (V.take k)) x.c) := by rw [take_next hx]; exact mostV_push _ _ _
      have HBX : Hid (bestV own (V.take (k + 1)) = if better x b then x else b) := by rw [take_next hx, bestV_push, HBB.out]; exact rfl
      obtain ⟨mk, hmk⟩ : ∃ mk, mostV own (V.take k) = mk := ⟨_, rfl⟩
      rw [hmk] at HMX ⊢
      clear hx hkn hk o1 hmk
      go_upto_region 8 with fail
      go_cut [73] (fun bv wx => bv = .bool (better x b) ∧ Hid (∃ z, wx = wr.drewN z))
      case first =>
        obtain ⟨y0, y1, y2, y3, y4, y5⟩ := O8r.out.all6
        by_cases c1 : b.v < x.v
        case pos =>
          have HBT : Hid (better x b = true) := (better_iff x b).2 (by have := c1; omega)
          have C1 := Lib.hid c1
          clear c1
          have Q : Hid (∀ nq, Calls Try.prog 128 #[.int .i64 x.v, .int .i64 (x.log.length : Nat), .int .i64 (-1), .int .i64 b.v, .int .i64 (b.log.length : Nat), .int .i64 (-1)] (wr.drewN nq) fun e w' => e = .returned (.bool true) ∧ w' = wr.drewN nq) := fun nq => (more_any x.v (x.log.length : Nat) (-1) b.v (b.log.length : Nat) (-1) _).mono (fun e w' h9 => ⟨by rw [h9.1, show moreF x.v (x.log.length : Nat) (-1) b.v (b.log.length : Nat) (-1) = true by unfold moreF; rw [if_pos (show x.v ≠ b.v by have := C1.out; omega)]; exact decide_eq_true C1.out], h9.2.symm⟩)
          go_quiet ((go_at_call 128; (with_reducible exact Calls.quiet_of_same (Q.out _))))
          go_wp2_with fail
          go_meet
          exact ⟨by rw [HBT.out], nq, rfl⟩
        have C1 := Lib.hid c1
        clear c1
        by_cases c2 : x.v = b.v
        case neg =>
          have hx2 : (x.v == b.v) = false := beq_eq_false_iff_ne.2 c2
          have C2 := Lib.hid c2
          clear c2
          have HBT : Hid (better x b = false) := better_not (by have := C1.out; have := C2.out; omega)
          have Q : Hid (∀ nq, Calls Try.prog 128 #[.int .i64 x.v, .int .i64 (x.log.length : Nat), .int .i64 (-1), .int .i64 b.v, .int .i64 (b.log.length : Nat), .int .i64 (-1)] (wr.drewN nq) fun e w' => e = .returned (.bool false) ∧ w' = wr.drewN nq) := fun nq => (more_any x.v (x.log.length : Nat) (-1) b.v (b.log.length : Nat) (-1) _).mono (fun e w' h9 => ⟨by rw [h9.1, show moreF x.v (x.log.length : Nat) (-1) b.v (b.log.length : Nat) (-1) = false by unfold moreF; rw [if_pos C2.out]; exact decide_eq_false C1.out], h9.2.symm⟩)
          go_quiet ((go_at_call 128; (with_reducible exact Calls.quiet_of_same (Q.out _))))
          go_wp2_with fail
          go_meet
          exact ⟨by rw [HBT.out], nq, rfl⟩
        have hx2 : (x.v == b.v) = true := beq_iff_eq.2 c2
        have C2 := Lib.hid c2
        clear c2
        by_cases c3 : b.log.length < x.log.length
        case pos =>
          have C3 := Lib.hid c3
          clear c3 hx2
          have HBT : Hid (better x b = true) := (better_iff x b).2 (by have := C2.out; have := C3.out; omega)
          have Q : Hid (∀ nq, Calls Try.prog 128 #[.int .i64 x.v, .int .i64 (x.log.length : Nat), .int .i64 (-1), .int .i64 b.v, .int .i64 (b.log.length : Nat), .int .i64 (-1)] (wr.drewN nq) fun e w' => e = .returned (.bool true) ∧ w' = wr.drewN nq) := fun nq => (more_any x.v (x.log.length : Nat) (-1) b.v (b.log.length : Nat) (-1) _).mono (fun e w' h9 => ⟨by rw [h9.1, show moreF x.v (x.log.length : Nat) (-1) b.v (b.log.length : Nat) (-1) = true by unfold moreF; rw [if_neg (show ¬ x.v ≠ b.v from fun h => h C2.out), if_pos (show ((x.log.length : Nat) : Int) ≠ (b.log.length : Nat) by have := C3.out; omega)]; exact decide_eq_true (by have := C3.out; omega)], h9.2.symm⟩)
          go_quiet ((go_at_call 128; (with_reducible exact Calls.quiet_of_same (Q.out _))))
          go_wp2_with fail
          go_meet
          exact ⟨by rw [HBT.out], nq, rfl⟩
        have C3 := Lib.hid c3
        clear c3
        by_cases c4 : x.log.length = b.log.length
        case neg =>
          have hx4 : ((x.log.length : Int) == (b.log.length : Int)) = false := beq_eq_false_iff_ne.2 (by omega)
          have C4 := Lib.hid c4
          clear c4
          have HBT : Hid (better x b = false) := better_not (by have := C1.out; have := C3.out; have := C4.out; omega)
          have Q : Hid (∀ nq, Calls Try.prog 128 #[.int .i64 x.v, .int .i64 (x.log.length : Nat), .int .i64 (-1), .int .i64 b.v, .int .i64 (b.log.length : Nat), .int .i64 (-1)] (wr.drewN nq) fun e w' => e = .returned (.bool false) ∧ w' = wr.drewN nq) := fun nq => (more_any x.v (x.log.length : Nat) (-1) b.v (b.log.length : Nat) (-1) _).mono (fun e w' h9 => ⟨by rw [h9.1, show moreF x.v (x.log.length : Nat) (-1) b.v (b.log.length : Nat) (-1) = false by unfold moreF; rw [if_neg (show ¬ x.v ≠ b.v from fun h => h C2.out), if_pos (show ((x.log.length : Nat) : Int) ≠ (b.log.length : Nat) by have := C4.out; omega)]; exact decide_eq_false (by have := C3.out; omega)], h9.2.symm⟩)
          go_quiet ((go_at_call 128; (with_reducible exact Calls.quiet_of_same (Q.out _))))
          go_wp2_with fail
          go_meet
          exact ⟨by rw [HBT.out], nq, rfl⟩
        have hx4 : ((x.log.length : Int) == (b.log.length : Int)) = true := beq_iff_eq.2 (by omega)
        have C4 := Lib.hid c4
        clear c4
        have MF : Hid (moreF x.v (x.log.length : Nat) (-1) b.v (b.log.length : Nat) (-1) = false) := by unfold moreF; rw [if_neg (show ¬ x.v ≠ b.v from fun h => h C2.out), if_neg (show ¬ ((x.log.length : Nat) : Int) ≠ (b.log.length : Nat) by have := C4.out; omega)]; exact rfl
        by_cases c5 : x.n < b.n
        case pos =>
          have HBT : Hid (better x b = true) := (better_iff x b).2 (by have := C2.out; have := C4.out; have := c5; omega)
          have d5 : decide (x.n < b.n) = true := decide_eq_true c5
          have Q : Hid (∀ nq, Calls Try.prog 128 #[.int .i64 x.v, .int .i64 (x.log.length : Nat), .int .i64 (-1), .int .i64 b.v, .int .i64 (b.log.length : Nat), .int .i64 (-1)] (wr.drewN nq) fun e w' => e = .returned (.bool false) ∧ w' = wr.drewN nq) := fun nq => (more_any x.v (x.log.length : Nat) (-1) b.v (b.log.length : Nat) (-1) _).mono (fun e w' h9 => ⟨by rw [h9.1, show moreF x.v (x.log.length : Nat) (-1) b.v (b.log.length : Nat) (-1) = false by exact MF.out], h9.2.symm⟩)
          go_quiet ((go_at_call 128; (with_reducible exact Calls.quiet_of_same (Q.out _))))
          go_wp2_with fail
          go_meet
          exact ⟨by rw [HBT.out], nq, rfl⟩
        case neg =>
          have HBT : Hid (better x b = false) := better_not (by have := C1.out; have := C3.out; have := c5; omega)
          have d5 : decide (x.n < b.n) = false := decide_eq_false c5
          have Q : Hid (∀ nq, Calls Try.prog 128 #[.int .i64 x.v, .int .i64 (x.log.length : Nat), .int .i64 (-1), .int .i64 b.v, .int .i64 (b.log.length : Nat), .int .i64 (-1)] (wr.drewN nq) fun e w' => e = .returned (.bool false) ∧ w' = wr.drewN nq) := fun nq => (more_any x.v (x.log.length : Nat) (-1) b.v (b.log.length : Nat) (-1) _).mono (fun e w' h9 => ⟨by rw [h9.1, show moreF x.v (x.log.length : Nat) (-1) b.v (b.log.length : Nat) (-1) = false by exact MF.out], h9.2.symm⟩)
          go_quiet ((go_at_call 128; (with_reducible exact Calls.quiet_of_same (Q.out _))))
          go_wp2_with fail
          go_meet
          exact ⟨by rw [HBT.out], nq, rfl⟩
      case rest =>
        obtain ⟨rfl, HZ⟩ := hcut
        obtain ⟨w5, rfl⟩ : ∃ z, z = wc := ⟨_, rfl⟩
        replace O8r : Hid (Ob w5 r8 [.int .i64 b.n, .int .u64 (b.h : Nat), .int .u64 (b.l : Nat), .int .i64 b.v, .int .i64 b.c, .slice B b.log.length j]) := by obtain ⟨z, hz⟩ := HZ.out; rw [hz]; exact O8r.out.drewN z
        replace O6r : Hid (Ob w5 r6 [.int .i64 0, .int .u64 0, .int .u64 0, .int .i64 0, .int .i64 0, .slice none 0 0]) := by obtain ⟨z, hz⟩ := HZ.out; rw [hz]; exact O6r.out.drewN z
        replace BWr : Hid (Below w.heap.size w w5) := by obtain ⟨z, hz⟩ := HZ.out; rw [hz]; exact Below.drewN BWr.out z
        clear HZ g0 g1 g2 g3 g4 g5
        obtain ⟨bb, hbb⟩ : ∃ bb, better x b = bb := ⟨_, rfl⟩
        rw [hbb] at HBX ⊢
        clear hbb
        go_upto_if 73 with fail
        go_cut [73] (fun _ wx => ∃ (D' : Option Addr) (i' : Nat), Hid (Ob wx r8 [.int .i64 (bestV own (V.take (k + 1))).n, .int .u64 ((bestV own (V.take (k + 1))).h : Nat), .int .u64 ((bestV own (V.take (k + 1))).l : Nat), .int .i64 (bestV own (V.take (k + 1))).v, .int .i64 (bestV own (V.take (k + 1))).c, .slice D' (bestV own (V.take (k + 1))).log.length i'] ∧ Ob wx r6 [.int .i64 0, .int .u64 0, .int .u64 0, .int .i64 0, .int .i64 0, .slice none 0 0] ∧ OkL w D' i' (bestV own (V.take (k + 1))).log ∧ Below w.heap.size w wx))
        case first =>
          obtain ⟨y0, y1, y2, y3, y4, y5⟩ := O8r.out.all6
          obtain ⟨s0, s1, s2, s3, s4, s5⟩ := O8r.out.fro6
          have z8 := O8r.out.lt (by simp)
          cases bb with
          | true =>
            have HBE : Hid (bestV own (V.take (k + 1)) = x) := HBX.out
            obtain ⟨ad', D1, i1, e, ho1, g0, g1, g2, g3, g4, g5⟩ := (H.out.below BWr.out).atV HXX.out
            cases e
            have LX1 : Hid (OkL w D1 i1 x.log) := by
              obtain ⟨ad', D', i', e, o2, _, _, _, _, _, g5'⟩ := H.out.atV HXX.out
              cases e
              have := (BWr.out.cell (World.block_lt_of_cell? w _ g5')).trans g5'
              rw [g5] at this
              cases this
              exact o2
            clear ho1
            go_wp2_with fail
            go_meet
            refine ⟨D1, i1, ?_⟩
            rw [HBE.out]
            exact ⟨ob_six O8r.out (.int .i64 x.n) (.int .u64 (x.h : Nat)) (.int .u64 (x.l : Nat)) (.int .i64 x.v) (.int .i64 x.c) (.slice D1 x.log.length i1), ((((((O6r.out.setOther _ HN68.out).setOther _ HN68.out).setOther _ HN68.out).setOther _ HN68.out).setOther _ HN68.out).setOther _ HN68.out), LX1.out, below_six BWr.out HB8.out (.int .i64 x.n) (.int .u64 (x.h : Nat)) (.int .u64 (x.l : Nat)) (.int .i64 x.v) (.int .i64 x.c) (.slice D1 x.log.length i1)⟩
          | false =>
            have HBE : Hid (bestV own (V.take (k + 1)) = b) := HBX.out
            go_wp2_with fail
            go_meet
            refine ⟨B, j, ?_⟩
            rw [HBE.out]
            exact ⟨O8r.out, O6r.out, LBr.out, BWr.out⟩
        case rest =>
          obtain ⟨D', i', HY⟩ := hcut
          obtain ⟨w6, rfl⟩ : ∃ z, z = wc := ⟨_, rfl⟩
          obtain ⟨ad', D1, i1, e, ho1, g0, g1, g2, g3, g4, g5⟩ := (H.out.below HY.out.2.2.2).atV HXX.out
          cases e
          clear ho1 g0 g1 g2 g3 g5 O8r O6r BWr
          by_cases hm : mk < x.c
          · have HME : Hid (mostV own (V.take (k + 1)) = x.c) := by rw [HMX.out]; simp only [Hid]; omega
            go_wp2_with fail
            go_roundw
            case rel => exact ⟨k + 1, D', i', HKN.out, by go_num, by rw [HME.out], HY.out⟩
            case measure => have := HKN.out; simp [intOf]; omega
          · have HME : Hid (mostV own (V.take (k + 1)) = mk) := by rw [HMX.out]; simp only [Hid]; omega
            go_wp2_with fail
            go_roundw
            case rel => exact ⟨k + 1, D', i', HKN.out, by go_num, by rw [HME.out], HY.out⟩
            case measure => have := HKN.out; simp [intOf]; omega
    · obtain rfl : k = n := by omega
      have hki : ¬ (k : Int) < (k : Int) := by omega
      have hbl : (b.log.length : Int) ≤ 6000000000000 := by have := LBr.out.small; omega
      obtain ⟨mo, hmo⟩ : ∃ mo, mostV own (V.take k) = mo := ⟨_, rfl⟩
      rw [hmo]
      have HRES : Hid (chooseV own V = { b with c := max 0 (min mo b.log.length) }) := by
        rw [List.take_of_length_le (Nat.le_of_eq HL.out)] at HBB hmo
        unfold chooseV
        rw [HBB.out, hmo]
        exact rfl
      clear hkn hk hmo HBB
      obtain ⟨TT, hTT⟩ : ∃ T, max 0 (min mo (b.log.length : Int)) = T := ⟨_, rfl⟩
      rw [hTT] at HRES
      have HTT := Lib.hid hTT
      clear hTT
      by_cases m1 : (b.log.length : Int) < mo
      case pos =>
        obtain rfl : TT = (b.log.length : Int) := by have := HTT.out; omega
        have m3 : ¬ ((b.log.length : Int) < 0) := by omega
        obtain ⟨y0, y1, y2, y3, y4, y5⟩ := O8r.out.all6
        have s4 := O8r.out.fr 4 (by simp)
        have z8 := O8r.out.lt (by simp)
        go_upto_region 17 with fail
        clear m1 m3
        clear y0 y1 y2 y3 y4 y5 s4 z8
        have B7 : Hid (Below w.heap.size w (wr.setCell ⟨r8, 4, none⟩ (.int .i64 (b.log.length : Int)))) := BWr.out.setCell (by have := HB8.out; show _ ≤ r8; omega) _
        have O87 := Lib.hid (O8r.out.set 4 (by simp) (.int .i64 (b.log.length : Int)))
        have O67 := Lib.hid (O6r.out.setOther (a := ⟨r8, 4, none⟩) (.int .i64 (b.log.length : Int)) HN68.out)
        generalize wr.setCell ⟨r8, 4, none⟩ (.int .i64 (b.log.length : Int)) = w7 at B7 O87 O67 ⊢
        obtain ⟨y0, y1, y2, y3, y4, y5⟩ := O87.out.all6
        go_wp2_with fail
        clear y0 y1 y2 y3 y4 y5
        refine (refCopy_any B b.log.length j b.log _ (LBr.out.rd.below B7.out) LBr.out.non LBr.out.small).mono ?_
        rintro e x5 ⟨fA, fk, rfl, hb5, hof⟩
        have B8 : Hid (Below w.heap.size w x5) := B7.out.trans (hb5.mono B7.out.size)
        have O88 := Lib.hid (O87.out.below hb5)
        have O68 := Lib.hid (O67.out.below hb5)
        have OWN := Lib.hid hof
        have HL8 : Hid (r8 < w7.heap.size ∧ r6 < w7.heap.size) := ⟨O87.out.lt (by simp), O67.out.lt (by simp)⟩
        clear hb5 hof
        obtain ⟨y0, y1, y2, y3, y4, y5⟩ := O88.out.all6
        have s5 := O88.out.fr 5 (by simp)
        have z8 := O88.out.lt (by simp)
        go_upto_region 18 with fail
        clear y0 y1 y2 y3 y4 y5 s5 z8
        have B9 : Hid (Below w.heap.size w (x5.setCell ⟨r8, 5, none⟩ (.slice fA b.log.length fk))) := B8.out.setCell (by have := HB8.out; show _ ≤ r8; omega) _
        have O89 := Lib.hid (O88.out.set 5 (by simp) (.slice fA b.log.length fk))
        have O69 := Lib.hid (O68.out.setOther (a := ⟨r8, 5, none⟩) (.slice fA b.log.length fk) HN68.out)
        have OWN9 := Lib.hid (ownsRow_setCell_below OWN.out (a := ⟨r8, 5, none⟩) (by have := HL8.out; show r8 < _; omega) (.slice fA b.log.length fk))
        generalize x5.setCell ⟨r8, 5, none⟩ (.slice fA b.log.length fk) = w9 at B9 O89 O69 OWN9 ⊢
        obtain ⟨q0, q1, q2, q3, q4, q5⟩ := O89.out.all6
        obtain ⟨x0, x1, x2, x3, x4, x6⟩ := O69.out.all6
        obtain ⟨s0, s1, s2, s3, s4, s5⟩ := O69.out.fro6
        have z6 := O69.out.lt (by simp)
        have zf := O89.out.lt (by simp)
        go_wp2_with fail
        (try simp only [Exit.inBlock, Exit.then])
        have R0 := ob_six O69.out (.int .i64 b.n) (.int .u64 (b.h : Nat)) (.int .u64 (b.l : Nat)) (.int .i64 b.v) (.int .i64 (b.log.length : Int)) (.slice fA b.log.length fk)
        refine ret_cells Try.results70 (b := r6) Try.underlying53 (by kernel_rfl) rfl rfl R0 rfl ?_
        refine ⟨below_six B9.out HR6.out (.int .i64 b.n) (.int .u64 (b.h : Nat)) (.int .u64 (b.l : Nat)) (.int .i64 b.v) (.int .i64 (b.log.length : Int)) (.slice fA b.log.length fk), fA, fk, ?_, ?_⟩
        · rw [HRES.out]; exact rfl
        · rw [HRES.out]; exact okL_own (own_six OWN9.out (by have := HL8.out; omega) (.int .i64 b.n) (.int .u64 (b.h : Nat)) (.int .u64 (b.l : Nat)) (.int .i64 b.v) (.int .i64 (b.log.length : Int)) (.slice fA b.log.length fk)) rfl LBr.out.small
      by_cases m2 : mo < 0
      case pos =>
        obtain rfl : TT = 0 := by have := HTT.out; omega
        obtain ⟨y0, y1, y2, y3, y4, y5⟩ := O8r.out.all6
        have s4 := O8r.out.fr 4 (by simp)
        have z8 := O8r.out.lt (by simp)
        go_upto_region 17 with fail
        clear m1 m2
        clear y0 y1 y2 y3 y4 y5 s4 z8
        have B7 : Hid (Below w.heap.size w (wr.setCell ⟨r8, 4, none⟩ (.int .i64 0))) := BWr.out.setCell (by have := HB8.out; show _ ≤ r8; omega) _
        have O87 := Lib.hid (O8r.out.set 4 (by simp) (.int .i64 0))
        have O67 := Lib.hid (O6r.out.setOther (a := ⟨r8, 4, none⟩) (.int .i64 0) HN68.out)
        generalize wr.setCell ⟨r8, 4, none⟩ (.int .i64 0) = w7 at B7 O87 O67 ⊢
        obtain ⟨y0, y1, y2, y3, y4, y5⟩ := O87.out.all6
        go_wp2_with fail
        clear y0 y1 y2 y3 y4 y5
        refine (refCopy_any B b.log.length j b.log _ (LBr.out.rd.below B7.out) LBr.out.non LBr.out.small).mono ?_
        rintro e x5 ⟨fA, fk, rfl, hb5, hof⟩
        have B8 : Hid (Below w.heap.size w x5) := B7.out.trans (hb5.mono B7.out.size)
        have O88 := Lib.hid (O87.out.below hb5)
        have O68 := Lib.hid (O67.out.below hb5)
        have OWN := Lib.hid hof
        have HL8 : Hid (r8 < w7.heap.size ∧ r6 < w7.heap.size) := ⟨O87.out.lt (by simp), O67.out.lt (by simp)⟩
        clear hb5 hof
        obtain ⟨y0, y1, y2, y3, y4, y5⟩ := O88.out.all6
        have s5 := O88.out.fr 5 (by simp)
        have z8 := O88.out.lt (by simp)
        go_upto_region 18 with fail
        clear y0 y1 y2 y3 y4 y5 s5 z8
        have B9 : Hid (Below w.heap.size w (x5.setCell ⟨r8, 5, none⟩ (.slice fA b.log.length fk))) := B8.out.setCell (by have := HB8.out; show _ ≤ r8; omega) _
        have O89 := Lib.hid (O88.out.set 5 (by simp) (.slice fA b.log.length fk))
        have O69 := Lib.hid (O68.out.setOther (a := ⟨r8, 5, none⟩) (.slice fA b.log.length fk) HN68.out)
        have OWN9 := Lib.hid (ownsRow_setCell_below OWN.out (a := ⟨r8, 5, none⟩) (by have := HL8.out; show r8 < _; omega) (.slice fA b.log.length fk))
        generalize x5.setCell ⟨r8, 5, none⟩ (.slice fA b.log.length fk) = w9 at B9 O89 O69 OWN9 ⊢
        obtain ⟨q0, q1, q2, q3, q4, q5⟩ := O89.out.all6
        obtain ⟨x0, x1, x2, x3, x4, x6⟩ := O69.out.all6
        obtain ⟨s0, s1, s2, s3, s4, s5⟩ := O69.out.fro6
        have z6 := O69.out.lt (by simp)
        have zf := O89.out.lt (by simp)
        go_wp2_with fail
        (try simp only [Exit.inBlock, Exit.then])
        have R0 := ob_six O69.out (.int .i64 b.n) (.int .u64 (b.h : Nat)) (.int .u64 (b.l : Nat)) (.int .i64 b.v) (.int .i64 0) (.slice fA b.log.length fk)
        refine ret_cells Try.results70 (b := r6) Try.underlying53 (by kernel_rfl) rfl rfl R0 rfl ?_
        refine ⟨below_six B9.out HR6.out (.int .i64 b.n) (.int .u64 (b.h : Nat)) (.int .u64 (b.l : Nat)) (.int .i64 b.v) (.int .i64 0) (.slice fA b.log.length fk), fA, fk, ?_, ?_⟩
        · rw [HRES.out]; exact rfl
        · rw [HRES.out]; exact okL_own (own_six OWN9.out (by have := HL8.out; omega) (.int .i64 b.n) (.int .u64 (b.h : Nat)) (.int .u64 (b.l : Nat)) (.int .i64 b.v) (.int .i64 0) (.slice fA b.log.length fk)) rfl LBr.out.small
      case neg =>
        obtain rfl : TT = mo := by have := HTT.out; omega
        obtain ⟨y0, y1, y2, y3, y4, y5⟩ := O8r.out.all6
        have s4 := O8r.out.fr 4 (by simp)
        have z8 := O8r.out.lt (by simp)
        go_upto_region 17 with fail
        clear m1 m2
        clear y0 y1 y2 y3 y4 y5 s4 z8
        have B7 : Hid (Below w.heap.size w (wr.setCell ⟨r8, 4, none⟩ (.int .i64 TT))) := BWr.out.setCell (by have := HB8.out; show _ ≤ r8; omega) _
        have O87 := Lib.hid (O8r.out.set 4 (by simp) (.int .i64 TT))
        have O67 := Lib.hid (O6r.out.setOther (a := ⟨r8, 4, none⟩) (.int .i64 TT) HN68.out)
        generalize wr.setCell ⟨r8, 4, none⟩ (.int .i64 TT) = w7 at B7 O87 O67 ⊢
        obtain ⟨y0, y1, y2, y3, y4, y5⟩ := O87.out.all6
        go_wp2_with fail
        clear y0 y1 y2 y3 y4 y5
        refine (refCopy_any B b.log.length j b.log _ (LBr.out.rd.below B7.out) LBr.out.non LBr.out.small).mono ?_
        rintro e x5 ⟨fA, fk, rfl, hb5, hof⟩
        have B8 : Hid (Below w.heap.size w x5) := B7.out.trans (hb5.mono B7.out.size)
        have O88 := Lib.hid (O87.out.below hb5)
        have O68 := Lib.hid (O67.out.below hb5)
        have OWN := Lib.hid hof
        have HL8 : Hid (r8 < w7.heap.size ∧ r6 < w7.heap.size) := ⟨O87.out.lt (by simp), O67.out.lt (by simp)⟩
        clear hb5 hof
        obtain ⟨y0, y1, y2, y3, y4, y5⟩ := O88.out.all6
        have s5 := O88.out.fr 5 (by simp)
        have z8 := O88.out.lt (by simp)
        go_upto_region 18 with fail
        clear y0 y1 y2 y3 y4 y5 s5 z8
        have B9 : Hid (Below w.heap.size w (x5.setCell ⟨r8, 5, none⟩ (.slice fA b.log.length fk))) := B8.out.setCell (by have := HB8.out; show _ ≤ r8; omega) _
        have O89 := Lib.hid (O88.out.set 5 (by simp) (.slice fA b.log.length fk))
        have O69 := Lib.hid (O68.out.setOther (a := ⟨r8, 5, none⟩) (.slice fA b.log.length fk) HN68.out)
        have OWN9 := Lib.hid (ownsRow_setCell_below OWN.out (a := ⟨r8, 5, none⟩) (by have := HL8.out; show r8 < _; omega) (.slice fA b.log.length fk))
        generalize x5.setCell ⟨r8, 5, none⟩ (.slice fA b.log.length fk) = w9 at B9 O89 O69 OWN9 ⊢
        obtain ⟨q0, q1, q2, q3, q4, q5⟩ := O89.out.all6
        obtain ⟨x0, x1, x2, x3, x4, x6⟩ := O69.out.all6
        obtain ⟨s0, s1, s2, s3, s4, s5⟩ := O69.out.fro6
        have z6 := O69.out.lt (by simp)
        have zf := O89.out.lt (by simp)
        go_wp2_with fail
        (try simp only [Exit.inBlock, Exit.then])
        have R0 := ob_six O69.out (.int .i64 b.n) (.int .u64 (b.h : Nat)) (.int .u64 (b.l : Nat)) (.int .i64 b.v) (.int .i64 TT) (.slice fA b.log.length fk)
        refine ret_cells Try.results70 (b := r6) Try.underlying53 (by kernel_rfl) rfl rfl R0 rfl ?_
        refine ⟨below_six B9.out HR6.out (.int .i64 b.n) (.int .u64 (b.h : Nat)) (.int .u64 (b.l : Nat)) (.int .i64 b.v) (.int .i64 TT) (.slice fA b.log.length fk), fA, fk, ?_, ?_⟩
        · rw [HRES.out]; exact rfl
        · rw [HRES.out]; exact okL_own (own_six OWN9.out (by have := HL8.out; omega) (.int .i64 b.n) (.int .u64 (b.h : Nat)) (.int .u64 (b.l : Nat)) (.int .i64 b.v) (.int .i64 TT) (.slice fA b.log.length fk)) rfl LBr.out.small
end Go.Proofs.Ytjjobgolpedgeaa
