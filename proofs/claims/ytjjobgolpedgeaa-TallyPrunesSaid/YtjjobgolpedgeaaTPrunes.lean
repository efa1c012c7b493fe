/-
  The walk of TallyPrunes.
-/
import Derived.Test.YtjjobgolpedgeaaTPrunesP
import Derived.Test.YtjjobgolpedgeaaTPruneAck
import Derived.Test.YtjjobgolpedgeaaTSmall
import Derived.Test.YtjjobgolpedgeaaTWorks
set_option linter.unusedVariables false
set_option linter.unusedSimpArgs false
namespace Go.Proofs.Ytjjobgolpedgeaa
open Go.RowKit

/-- 'make([]T, n)', guarded or not -/
theorem make_want {P : Program} (w : World) {ops : Array Oper} {rest : List Oper} {o : Oper} {a : Act} {Q : Exit → Act → World → Prop}
    (hw : Region.wanted o (yielded ops a.tmps) = true) (l c : Operand) (t : TypeId) (hop : o.op = Op.makeSlice t l c)
    (base : Nat) (e : TypeId) (i : TypeInfo) (z : Value) (size : Nat) (h1 : P.underlying t = some (.slice e)) (h2 : P.info? e = some i) (h3 : i.zero = some z) (h4 : i.size = size)
    (kl kc : IntKind) (L C : Int) (n : Nat) (hl : a.eval l = .int kl L) (hc : a.eval c = .int kc C) (hL : L = (n : Int)) (hC : C = (n : Int)) (b2 : i.bytes * n ≤ 281474976710656) (b3 : n ≤ maxLen) (b4 : base ≤ w.heap.size)
    (hK : ∀ w', w'.ownsRow base e size (.slice (some ⟨w.heap.size, 0, none⟩) n n) n (madeCells z.cells (n * size)).toList → w.grownBy w' none → wpList P ops Q rest (a.put o.dst (.slice (some ⟨w.heap.size, 0, none⟩) n n)) w') :
    wpList P ops Q (o :: rest) a w := by
  refine BigFrame.wpList_want hw fun K hK' => ?_
  obtain ⟨w', hrun, r1, r2⟩ := run_make_full (P := P) w base t e i z size h1 h2 h3 h4 kl kc n b2 b3 b4
  subst hL
  subst hC
  unfold Oper.wp
  simp [execOp, hop, hl, hc, hrun, Result.andThen]
  exact hK' _ _ (hK w' r1 r2)
theorem dw_len (L : List Dw) : (CL Dw.cells L).length = L.length * 2 := CL_len (size := 2) (fun _ => rfl) L
theorem made_zero (n : Nat) : (madeCells (Value.agg #[.int .u64 0, .int .u64 0]).cells (n * 2)).toList = CL Dw.cells (List.replicate n (⟨0, 0⟩ : Dw)) := by
  have hz : ∀ m, (madeCells (Value.agg #[.int .u64 0, .int .u64 0]).cells m).toList = List.replicate m (.int .u64 0) := by
    intro m
    refine List.eq_replicate_iff.2 ⟨by simp [size_madeCells], fun u hu => ?_⟩
    simp only [madeCells, Array.toList_map, List.mem_map] at hu
    obtain ⟨j, _, rfl⟩ := hu
    have : j % 2 = 0 ∨ j % 2 = 1 := by omega
    rcases this with h | h <;> simp [Value.cells, h]
  rw [hz]
  induction n with
  | zero => rfl
  | succ n ih =>
    rw [List.replicate_succ, Nat.succ_mul]
    simp only [CL, List.flatMap_cons] at ih ⊢
    rw [← ih]
    rfl
theorem ackI : Try.prog.info? 27 = some (Try.prog.types[27]!) := by kernel_rfl
set_option maxRecDepth 100000 in
set_option maxHeartbeats 16000000 in
theorem tallyPrunes_walk (A : Option Addr) (n c : Nat) (I : List Ak) (B : Option Addr) (m d : Nat) (V : List Dw) (C : Option Addr) (p q : Nat) (U : List Dw) (W : World) (h : RdC 4 Ak.cells W A n I) (hsm : n * 32 ≤ 140737488351232)
    (h2 : RdC 2 Dw.cells W B m V) (hsm2 : m * 16 ≤ 140737488351232) (h3 : RdC 2 Dw.cells W C p U) (hsm3 : p * 16 ≤ 140737488351232) :
    Calls Try.prog 8 #[.slice A n c, .slice B m d, .slice C p q] W fun e w' => e = .returned (.bool true) ∧ Below W.heap.size W w' := by
  have H := Lib.hid h
  have HSM := Lib.hid hsm
  have HL := Lib.hid h.len
  have HV := Lib.hid h2
  have HVL := Lib.hid h2.len
  have HU := Lib.hid h3
  have HUL := Lib.hid h3.len
  have hnb : (n : Int) ≤ 6000000000000 := by omega
  have hmb : (m : Int) ≤ 10000000000000 := by omega
  have hpb : (p : Int) ≤ 10000000000000 := by omega
  have HSM2 := Lib.hid hsm2
  have HSM3 := Lib.hid hsm3
  clear h hsm h2 hsm2 h3 hsm3
  go_enter Try.func8, Try.ntmps8
  go_wp2_with fail
  refine (works_any _).mono ?_
  rintro e w1 ⟨rfl, hb1⟩
  have B1 := Lib.hid hb1
  clear hb1
  go_wp2_with fail
  refine (put_any A n c I _ (H.out.below B1.out) HSM.out).mono ?_
  rintro e w2 ⟨Al, cl, rfl, hb2, ho2⟩
  have B2 : Hid (Below W.heap.size W w2) := B1.out.trans (hb2.mono B1.out.size)
  have Q2 := Lib.hid (rdAk ho2 rfl)
  have BP := Lib.hid (best_putAll I).rise
  have hpn : ((putAll I).length : Int) ≤ (n : Int) := by have := putAll_len I; have := HL.out; omega
  obtain ⟨P, hP⟩ : ∃ P, putAll I = P := ⟨_, rfl⟩
  rw [hP] at Q2 BP hpn ⊢
  have HPS : Hid ((P.length + 2) * 32 ≤ 140737488355328) := by have := HSM.out; simp only [Hid]; omega
  have V2 := Lib.hid (HV.out.below B2.out)
  have U2 := Lib.hid (HU.out.below B2.out)
  clear hb2 ho2 hP B1 HV HU H HL
  go_wp2_with fail
  refine (pruneAck_fn Al P.length cl P B m d V _ Q2.out V2.out HPS.out (by omega)).mono ?_
  rintro e w3 ⟨Aq, cq, rfl, hb3, ho3⟩
  have B3 : Hid (Below W.heap.size W w3) := B2.out.trans (hb3.mono B2.out.size)
  have P3 := Lib.hid (Q2.out.below hb3)
  have V3 := Lib.hid (V2.out.below hb3)
  have U3 := Lib.hid (U2.out.below hb3)
  have Q3 := Lib.hid (rdAk ho3 rfl)
  have hqn : ((pruneF (Ak.over V) P).length : Int) ≤ (P.length : Int) := by have := pruneF_len (Ak.over V) P; omega
  obtain ⟨Q, hQ⟩ : ∃ Q, pruneF (Ak.over V) P = Q := ⟨_, rfl⟩
  have HQ := Lib.hid hQ
  rw [hQ] at Q3 hqn ⊢
  clear hQ hb3 ho3 Q2 V2 U2 B2
  go_wp2_with fail
  go_loopw [9, 10] (fun kv iv wr => ∃ (i : Nat), i ≤ P.length ∧ iv = .int .i64 i ∧ kv = .int .i64 ((pruneF (Ak.over V) (P.take i)).length : Nat) ∧ Hid (Below w3.heap.size w3 wr)) (fun _ iv _ => P.length - (intOf iv).toNat)
  case atStart => exact ⟨0, by omega, rfl, rfl, Below.refl _ _⟩
  case round =>
    obtain ⟨i, hi, rfl, rfl, HR⟩ := hrel
    by_cases hin : i < P.length
    · obtain ⟨x, hx⟩ : ∃ x, P[i]? = some x := ⟨_, List.getElem?_eq_getElem hin⟩
      obtain ⟨al, rfl, g0, g1, g2, g3⟩ := (P3.out.below HR.out).atAk hx
      have hii : (i : Int) < (P.length : Int) := by omega
      have HPX : Hid (pruneF (Ak.over V) (P.take (i + 1)) = pruneF (Ak.over V) (P.take i) ++ if x.over V then [] else [x]) := by rw [take_next hx]; exact pruneF_push _ _ _
      have HAT : Hid (x.over V = false → Q[(pruneF (Ak.over V) (P.take i)).length]? = some x) := fun h => by rw [← HQ.out]; exact prune_at hx h
      have hk0 : ((pruneF (Ak.over V) (P.take i)).length : Int) ≤ (i : Int) := by have := pruneF_len (Ak.over V) (P.take i); rw [List.length_take] at this; omega
      obtain ⟨k, hk⟩ : ∃ k, (pruneF (Ak.over V) (P.take i)).length = k := ⟨_, rfl⟩
      have HK : Hid ((pruneF (Ak.over V) (P.take (i + 1))).length = k + if x.over V then 0 else 1) := by rw [HPX.out, List.length_append, hk]; split <;> rfl
      rw [hk] at HAT hk0 ⊢
      have HIN := Lib.hid hin
      have HXX := Lib.hid hx
      clear hx hin hi hk HPX
      go_upto_region 10 with fail
      go_cut [12] (fun bv wx => bv = .bool (x.over V) ∧ Hid (Below wr.heap.size wr wx))
      case first =>
        by_cases h1 : x.n < 0
        case pos =>
          have HOV : Hid (x.over V = false) := overV_neg h1
          have h1' : ¬ (0 : Int) ≤ x.n := by omega
          go_quiet (fail)
          go_wp2_with fail
          go_meet
          exact ⟨by rw [HOV.out], Below.drewN (Below.refl _ _) _⟩
        have h4 : (0 : Int) ≤ x.n := by omega
        by_cases h2 : x.n < (m : Int)
        case neg =>
          have HOV : Hid (x.over V = false) := overV_far HVL.out h2
          go_quiet (fail)
          go_wp2_with fail
          go_meet
          exact ⟨by rw [HOV.out], Below.drewN (Below.refl _ _) _⟩
        have d1 : decide ((0 : Int) ≤ x.n) = true := decide_eq_true h4
        have d3 : decide (x.n < (m : Int)) = true := decide_eq_true h2
        obtain ⟨y0, hy⟩ : ∃ y, V[x.n.toNat]? = some y := ⟨_, List.getElem?_eq_getElem (by have := HVL.out; omega)⟩
        have HOV : Hid (x.over V = decide (dCmp x.h x.l y0.h y0.l < 0)) := overV_at h1 hy
        obtain ⟨vd, rfl, v0, v1⟩ := (V3.out.below HR.out).atDw hy
        have FB := Lib.hid (fun y (hx : ((y.cell? (al.add (i * 4)) = some (.int .i64 x.n) ∧ y.cell? ⟨(al.add (i * 4)).block, (al.add (i * 4)).off + 1, none⟩ = some (.int .u64 (x.h : Nat)) ∧ y.cell? ⟨(al.add (i * 4)).block, (al.add (i * 4)).off + 2, none⟩ = some (.int .u64 (x.l : Nat))) ∧ (y.cell? (vd.add (x.n.toNat * 2)) = some (.int .u64 (y0.h : Nat)) ∧ y.cell? ⟨(vd.add (x.n.toNat * 2)).block, (vd.add (x.n.toNat * 2)).off + 1, none⟩ = some (.int .u64 (y0.l : Nat))) ∧ Below wr.heap.size wr y)) => (below_any x.h x.l y0.h y0.l y).mono (fun e y' (h : _ ∧ _) => show e = .returned (.bool (blw x.h x.l y0.h y0.l)) ∧ ((y'.cell? (al.add (i * 4)) = some (.int .i64 x.n) ∧ y'.cell? ⟨(al.add (i * 4)).block, (al.add (i * 4)).off + 1, none⟩ = some (.int .u64 (x.h : Nat)) ∧ y'.cell? ⟨(al.add (i * 4)).block, (al.add (i * 4)).off + 2, none⟩ = some (.int .u64 (x.l : Nat))) ∧ (y'.cell? (vd.add (x.n.toNat * 2)) = some (.int .u64 (y0.h : Nat)) ∧ y'.cell? ⟨(vd.add (x.n.toNat * 2)).block, (vd.add (x.n.toNat * 2)).off + 1, none⟩ = some (.int .u64 (y0.l : Nat))) ∧ Below wr.heap.size wr y') from ⟨h.1, ⟨(h.2.cell (World.block_lt_of_cell? y _ hx.1.1)).trans hx.1.1, (h.2.cell (World.block_lt_of_cell? y _ hx.1.2.1)).trans hx.1.2.1, (h.2.cell (World.block_lt_of_cell? y _ hx.1.2.2)).trans hx.1.2.2⟩, ⟨(h.2.cell (World.block_lt_of_cell? y _ hx.2.1.1)).trans hx.2.1.1, (h.2.cell (World.block_lt_of_cell? y _ hx.2.1.2)).trans hx.2.1.2⟩, hx.2.2.trans (h.2.mono hx.2.2.size)⟩))
        clear hy
        go_region_held3 (fun y => ((y.cell? (al.add (i * 4)) = some (.int .i64 x.n) ∧ y.cell? ⟨(al.add (i * 4)).block, (al.add (i * 4)).off + 1, none⟩ = some (.int .u64 (x.h : Nat)) ∧ y.cell? ⟨(al.add (i * 4)).block, (al.add (i * 4)).off + 2, none⟩ = some (.int .u64 (x.l : Nat))) ∧ (y.cell? (vd.add (x.n.toNat * 2)) = some (.int .u64 (y0.h : Nat)) ∧ y.cell? ⟨(vd.add (x.n.toNat * 2)).block, (vd.add (x.n.toNat * 2)).off + 1, none⟩ = some (.int .u64 (y0.l : Nat))) ∧ Below wr.heap.size wr y)) (first | exact ⟨⟨g0, g1, g2⟩, ⟨v0, v1⟩, Below.drew (Below.refl _ _)⟩ | assumption | go_keep)
          (first | (go_at_call 19; refine (FB.out _ (by first | assumption | (simp [*]))).mono ?_; rintro e x' ⟨rfl, hx'⟩))
        have HBF := Lib.hid hx'.2.2
        clear hx'
        go_wp2_with fail
        go_meet
        exact ⟨by rw [HOV.out, blw_dCmp], HBF.out⟩
      case rest =>
        obtain ⟨rfl, HC⟩ := hcut
        obtain ⟨w4, rfl⟩ : ∃ z, z = wc := ⟨_, rfl⟩
        have HR4 : Hid (Below w3.heap.size w3 w4) := HR.out.trans (HC.out.mono HR.out.size)
        have P4 := Lib.hid (P3.out.below HR4.out)
        have Q4 := Lib.hid (Q3.out.below HR4.out)
        clear HR HC g0 g1 g2 g3
        obtain ⟨bb, hbb⟩ : ∃ bb, x.over V = bb := ⟨_, rfl⟩
        rw [hbb] at HK HAT ⊢
        have HBB := Lib.hid hbb
        clear hbb
        have hi2 : (i : Int) + 1 ≤ 6000000000001 := by have := HIN.out; omega
        obtain ⟨al', e, g0, g1, g2, g3⟩ := P4.out.atAk HXX.out
        cases e
        cases bb with
        | false =>
          have hq := HAT.out rfl
          have hkq : (k : Int) < (Q.length : Int) := by have := (List.getElem?_eq_some_iff.1 hq).1; omega
          obtain ⟨aq, rfl, q0, q1, q2, q3⟩ := Q4.out.atAk hq
          clear hq HAT
          obtain ⟨xn, xh, xl, xp⟩ := x
          simp only at g0 g1 g2 g3 q0 q1 q2 q3
          go_upto_region 11 with fail
          go_quiet (fail)
          have HR5 : Hid (Below w3.heap.size w3 (w4.drewN nq)) := Below.drewN HR4.out nq
          generalize w4.drewN nq = w5 at HR5 ⊢
          clear g0 g1 g2 g3 q0 q1 q2 q3 HR4 P4 Q4
          have hk2 : (k : Int) + 1 ≤ 6000000000001 := by omega
          go_wp2_with fail
          go_roundw
          case rel => exact ⟨i + 1, HIN.out, by go_num, by rw [HK.out]; go_num, HR5.out⟩
          case measure => have := HIN.out; simp [intOf]; omega
        | true =>
          clear HAT
          go_upto_region 11 with fail
          go_cut [74] (fun bv wx => bv = .bool false ∧ Hid (∃ z, wx = w4.drewN z))
          case first =>
            by_cases hkq : (k : Int) < (Q.length : Int)
            case neg =>
              go_quiet (fail)
              go_wp2_with fail
              go_meet
              exact ⟨rfl, nq, rfl⟩
            obtain ⟨y, hy⟩ : ∃ y, Q[k]? = some y := ⟨_, List.getElem?_eq_getElem (by omega)⟩
            obtain ⟨aq, rfl, q0, q1, q2, q3⟩ := Q4.out.atAk hy
            have HNE := Lib.hid (show y.over V = false by
              have h := List.mem_of_getElem? hy
              rw [← HQ.out] at h
              have := (List.mem_filter.1 h).2
              simpa using this)
            clear hy
            by_cases e0 : y.n = x.n
            case neg =>
              have hb : (y.n == x.n) = false := beq_eq_false_iff_ne.2 e0
              clear e0
              go_quiet (fail)
              go_wp2_with fail
              go_meet
              exact ⟨rfl, nq, rfl⟩
            by_cases e1 : y.h = x.h
            case neg =>
              have hb : ((y.h : Int) == (x.h : Int)) = false := beq_eq_false_iff_ne.2 (by omega)
              rw [e0] at q0
              clear e0 e1
              go_quiet (fail)
              go_wp2_with fail
              go_meet
              exact ⟨rfl, nq, rfl⟩
            by_cases e2 : y.l = x.l
            case neg =>
              have hb : ((y.l : Int) == (x.l : Int)) = false := beq_eq_false_iff_ne.2 (by omega)
              rw [e0] at q0
              rw [e1] at q1
              clear e0 e1 e2
              go_quiet (fail)
              go_wp2_with fail
              go_meet
              exact ⟨rfl, nq, rfl⟩
            exfalso
            have h1 := HBB.out
            have h2 := HNE.out
            simp only [Ak.over] at h1 h2
            rw [e0, e1, e2, h1] at h2
            cases h2
          case rest =>
            obtain ⟨rfl, HZ⟩ := hcut
            have HR5 : Hid (Below w3.heap.size w3 wc) := by obtain ⟨z, hz⟩ := HZ.out; rw [hz]; exact Below.drewN HR4.out z
            clear g0 g1 g2 g3 HR4 P4 Q4 HZ
            go_wp2_with fail
            go_roundw
            case rel => exact ⟨i + 1, HIN.out, by go_num, by rw [HK.out]; rfl, HR5.out⟩
            case measure => have := HIN.out; simp [intOf]; omega
    · obtain rfl : i = P.length := by omega
      have hii : ¬ (P.length : Int) < (P.length : Int) := by omega
      rw [List.take_length, HQ.out]
      clear hin hi
      have B4 : Hid (Below W.heap.size W wr) := B3.out.trans (HR.out.mono B3.out.size)
      obtain ⟨w4, rfl⟩ : ∃ z, z = wr := ⟨_, rfl⟩
      have P4 := Lib.hid (P3.out.below HR.out)
      have Q4 := Lib.hid (Q3.out.below HR.out)
      have V4 := Lib.hid (V3.out.below HR.out)
      have U4 := Lib.hid (U3.out.below HR.out)
      have HPZ : Hid (pruneF (Ak.over (List.replicate m (⟨0, 0⟩ : Dw))) P = P) := prune_none fun x _ => over_zero m _ _ _
      have HQQ : Hid (pruneF (Ak.over V) Q = Q) := by rw [← HQ.out]; exact prune_twice _ _
      clear HR P3 Q3 V3 U3 B3
      have hqq : ((Q.length : Int) == (Q.length : Int)) = true := beq_self_eq_true _
      go_wp2_with (at_make; refine make_want _ (by rfl) (.tmp 86) (.tmp 86) 63 rfl w4.heap.size 27 _ (.agg #[.int .u64 0, .int .u64 0]) 2 Try.underlying63 ackI rfl rfl .i64 .i64 (m : Int) (m : Int) m rfl rfl rfl rfl ?b2 ?b3 (Nat.le_refl _) ?_)
      case b2 => show 16 * m ≤ _; omega
      case b3 => simp only [maxLen]; omega
      intro w5 ho5 hg5
      have H5 : Hid (Below w4.heap.size w4 w5) := ⟨hg5.os, hg5.tape, hg5.output, hg5.size, fun z hz => hg5.block z hz (by simp)⟩
      have Z5 : Hid (RdC 2 Dw.cells w5 (some ⟨w4.heap.size, 0, none⟩) m (List.replicate m (⟨0, 0⟩ : Dw))) := rdc_own (size := 2) (cells := Dw.cells) (fun _ => rfl) (by have e : (madeCells #[.int .u64 0, .int .u64 0] (m * 2)).toList = CL Dw.cells (List.replicate m (⟨0, 0⟩ : Dw)) := made_zero m; rw [e] at ho5; exact ho5) (by simp)
      have P5 := Lib.hid (P4.out.below H5.out)
      have Q5 := Lib.hid (Q4.out.below H5.out)
      have V5 := Lib.hid (V4.out.below H5.out)
      have U5 := Lib.hid (U4.out.below H5.out)
      have B5 : Hid (Below W.heap.size W w5) := B4.out.trans (H5.out.mono B4.out.size)
      clear ho5 hg5 H5 P4 Q4 V4 U4 B4
      generalize w4.heap.size = rz at Z5 ⊢
      go_wp2_with fail
      refine (pruneAck_fn Al P.length cl P _ m m _ _ P5.out Z5.out HPS.out (by omega)).mono ?_
      rw [HPZ.out]
      rintro e w6 ⟨A6, c6, rfl, hb6, ho6⟩
      have H6 := Lib.hid hb6
      have R6 := Lib.hid (rdAk ho6 rfl)
      replace P5 := Lib.hid (P5.out.below H6.out)
      replace Q5 := Lib.hid (Q5.out.below H6.out)
      replace V5 := Lib.hid (V5.out.below H6.out)
      replace U5 := Lib.hid (U5.out.below H6.out)
      replace B5 := Lib.hid (B5.out.trans (H6.out.mono B5.out.size))
      clear hb6 ho6 H6 Z5
      go_wp2_with fail
      refine (sameAcks_any A6 Al P.length c6 cl P _ R6.out P5.out).mono ?_
      rintro e w7 ⟨rfl, z7, hz7⟩
      have H7 : Hid (Below w6.heap.size w6 w7) := by rw [hz7]; exact Below.drewN (Below.refl _ _) z7
      replace P5 := Lib.hid (P5.out.below H7.out)
      replace Q5 := Lib.hid (Q5.out.below H7.out)
      replace V5 := Lib.hid (V5.out.below H7.out)
      replace U5 := Lib.hid (U5.out.below H7.out)
      replace B5 := Lib.hid (B5.out.trans (H7.out.mono B5.out.size))
      clear H7 hz7 R6
      go_wp2_with fail
      refine (pruneAck_fn Aq Q.length cq Q B m d V _ Q5.out V5.out (by have := HPS.out; omega) (by omega)).mono ?_
      rw [HQQ.out]
      rintro e w8 ⟨A8, c8, rfl, hb8, ho8⟩
      have H8 := Lib.hid hb8
      have R8 := Lib.hid (rdAk ho8 rfl)
      replace P5 := Lib.hid (P5.out.below H8.out)
      replace Q5 := Lib.hid (Q5.out.below H8.out)
      replace V5 := Lib.hid (V5.out.below H8.out)
      replace U5 := Lib.hid (U5.out.below H8.out)
      replace B5 := Lib.hid (B5.out.trans (H8.out.mono B5.out.size))
      clear hb8 ho8 H8
      go_wp2_with fail
      refine (sameAcks_any A8 Aq Q.length c8 cq Q _ R8.out Q5.out).mono ?_
      rintro e w9 ⟨rfl, z9, hz9⟩
      have H9 : Hid (Below w8.heap.size w8 w9) := by rw [hz9]; exact Below.drewN (Below.refl _ _) z9
      replace P5 := Lib.hid (P5.out.below H9.out)
      replace Q5 := Lib.hid (Q5.out.below H9.out)
      replace V5 := Lib.hid (V5.out.below H9.out)
      replace U5 := Lib.hid (U5.out.below H9.out)
      replace B5 := Lib.hid (B5.out.trans (H9.out.mono B5.out.size))
      clear H9 hz9 R8 hqq HPZ HQQ
      go_wp2_with fail
      obtain ⟨N, hN⟩ : ∃ N, max m p = N := ⟨_, rfl⟩
      have hN1 : m ≤ N := by omega
      have hN2 : p ≤ N := by omega
      have HN3 : Hid (N ≤ m ∨ N ≤ p) := by simp only [Hid]; omega
      clear hN
      have HN1 := Lib.hid hN1
      have HN2 := Lib.hid hN2
      clear hN1 hN2
      go_loopw [13, 14] (fun bv iv wr => ∃ (k : Nat) (A' : Option Addr) (c' : Nat), k ≤ N ∧ iv = .int .i64 k ∧ bv = .slice A' k c' ∧ Hid (Below w9.heap.size w9 wr) ∧ Hid (wr.ownsRow w9.heap.size 27 2 (.slice A' k c') k (CL Dw.cells (bothV V U k)))) (fun _ iv _ => N - (intOf iv).toNat)
      case atStart => exact ⟨0, none, 0, by omega, rfl, rfl, Below.refl _ _, World.ownsRow_nil _ _ _ _⟩
      case round =>
        obtain ⟨k, A', c', hk, rfl, rfl, HR, HO⟩ := hrel
        by_cases hkN : k < N
        · have HKN := Lib.hid hkN
          have HPK := Lib.hid (bothV_succ V U k)
          have hNb : (k : Int) + 1 ≤ 10000000000000 := by have := HN3.out; omega
          clear hkN hk
          go_upto_region 19 with fail
          go_cut [110] (fun bv wx => bv = .bool true ∧ wr = wx)
          case first =>
            by_cases h1 : (k : Int) < (m : Int)
            case pos =>
              clear hNb hnb hmb hpb hpn hqn
              go_wp2_with fail
              go_meet
              exact ⟨rfl, rfl⟩
            have h2 : (k : Int) < (p : Int) := by have := HKN.out; have := HN3.out; omega
            clear hNb hnb hmb hpb hpn hqn
            go_wp2_with fail
            go_meet
            exact ⟨rfl, rfl⟩
          case rest =>
            obtain ⟨rfl, rfl⟩ := hcut
            go_upto_region 22 with fail
            have OZ := Lib.hid (Ob.fresh wr #[.int .u64 0, .int .u64 0] 27)
            have RO := Lib.hid (HO.out.alloc (.cells #[.int .u64 0, .int .u64 0] 27))
            have HX : Hid (Below w9.heap.size w9 (wr.alloc (.cells #[.int .u64 0, .int .u64 0] 27))) := HR.out.alloc HR.out.size _
            have HNR : Hid (∀ j, (Value.slice A' k c').ownBlock = some j → j ≠ wr.heap.size) := fun j e => by have := (HO.out.lt j e).2; omega
            have HRB : Hid (w9.heap.size ≤ wr.heap.size) := HR.out.size
            generalize wr.alloc (.cells #[.int .u64 0, .int .u64 0] 27) = w10 at OZ RO HX ⊢
            generalize wr.heap.size = r at OZ HNR HRB ⊢
            clear HR HO
            go_cut [117] (fun bv wx => ∃ (b1 : Bool), bv = .bool b1 ∧ Hid (b1 = true ↔ (k : Int) < (m : Int)) ∧ w10 = wx)
            case first =>
              by_cases h1 : (k : Int) < (m : Int)
              case pos =>
                have H1 := Lib.hid h1
                go_wp2_with fail
                go_meet
                exact ⟨true, rfl, ⟨(fun _ => H1.out), (fun _ => rfl)⟩, rfl⟩
              case neg =>
                have H1 := Lib.hid h1
                go_wp2_with fail
                go_meet
                exact ⟨false, rfl, ⟨(fun h => by cases h), (fun h => by have := H1.out; omega)⟩, rfl⟩
            case rest =>
              obtain ⟨b1, rfl, HB1, rfl⟩ := hcut
              go_upto_if 117 with fail
              go_cut [117] (fun _ wx => Hid (Ob wx r ((V[k]?).getD ⟨0, 0⟩).cells ∧ wx.ownsRow w9.heap.size 27 2 (.slice A' k c') k (CL Dw.cells (bothV V U k)) ∧ Below w9.heap.size w9 wx))
              case first =>
                cases b1 with
                | true =>
                  have h1 : (k : Int) < (m : Int) := HB1.out.1 rfl
                  obtain ⟨v, hv⟩ : ∃ v, V[k]? = some v := ⟨_, List.getElem?_eq_getElem (by have := HVL.out; omega)⟩
                  obtain ⟨vd, rfl, v0, v1⟩ := (V5.out.below HX.out).atDw hv
                  have HVV := Lib.hid hv
                  have o0 := OZ.out.cell 0 rfl
                  have o1 := OZ.out.cell 1 rfl
                  have f0 := OZ.out.fr 0 (by simp)
                  have f1 := OZ.out.fr 1 (by simp)
                  have zr := OZ.out.lt (by simp)
                  clear hv
                  go_wp2_with fail
                  go_meet
                  rw [HVV.out]
                  refine ⟨(OZ.out.set 0 (by simp) (.int .u64 (v.h : Nat))).set 1 (by simp) (.int .u64 (v.l : Nat)), ?_, (HX.out.setCell HRB.out _).setCell HRB.out _⟩
                  have key : ∀ {y : World} (a : Addr) (u : Value), a.block = r → y.ownsRow w9.heap.size 27 2 (.slice A' k c') k (CL Dw.cells (bothV V U k)) → (y.setCell a u).ownsRow w9.heap.size 27 2 (.slice A' k c') k (CL Dw.cells (bothV V U k)) := fun a u ha ho => ho.kept (grown_setCell _ _ _) (by
                    cases hv : (Value.slice A' k c').ownBlock with
                    | none => exact .inl rfl
                    | some j => exact .inr (fun e => by cases e; exact HNR.out _ hv ha))
                  exact key _ _ rfl (key _ _ rfl RO.out)
                | false =>
                  have h1 : ¬ (k : Int) < (m : Int) := fun h => by have := HB1.out.2 h; cases this
                  have HVV : Hid (V[k]? = none) := List.getElem?_eq_none (by have := HVL.out; omega)
                  go_wp2_with fail
                  go_meet
                  rw [HVV.out]
                  exact ⟨OZ.out, RO.out, HX.out⟩
              case rest =>
                obtain ⟨w11, rfl⟩ : ∃ z, z = wc := ⟨_, rfl⟩
                obtain ⟨d1, hd1⟩ : ∃ d1, (V[k]?).getD ⟨0, 0⟩ = d1 := ⟨_, rfl⟩
                have HD1 := Lib.hid hd1
                rw [hd1] at hcut
                clear hd1
                have O11 := Lib.hid hcut.out.1
                have RO11 := Lib.hid hcut.out.2.1
                have HX11 := Lib.hid hcut.out.2.2
                clear hcut OZ RO HX
                go_upto_region 24 with fail
                go_cut [133] (fun bv wx => ∃ (bb : Bool), bv = .bool bb ∧ Hid (pickD V U k = (match U[k]? with | some e => if bb then e else d1 | none => d1) ∧ (bb = true → k < p)) ∧ Hid (Below w11.heap.size w11 wx))
                case first =>
                  by_cases h1 : (k : Int) < (p : Int)
                  case neg =>
                    have HUU : Hid (U[k]? = none) := List.getElem?_eq_none (by have := HUL.out; omega)
                    go_quiet (fail)
                    go_wp2_with fail
                    go_meet
                    exact ⟨false, rfl, ⟨by unfold pickD; rw [HUU.out]; exact HD1.out, fun h => by cases h⟩, Below.drewN (Below.refl _ _) _⟩
                  obtain ⟨u, hu⟩ : ∃ u, U[k]? = some u := ⟨_, List.getElem?_eq_getElem (by have := HUL.out; omega)⟩
                  obtain ⟨ud, rfl, u0, u1⟩ := (U5.out.below HX11.out).atDw hu
                  have HUU := Lib.hid hu
                  have HKP : Hid (k < p) := by simp only [Hid]; omega
                  have dd : decide ((k : Int) < (p : Int)) = true := decide_eq_true h1
                  have o0 := O11.out.cell 0 rfl
                  have o1 := O11.out.cell 1 rfl
                  have FB := Lib.hid (fun y (hx : ((y.cell? ⟨r, 0, none⟩ = some (.int .u64 (d1.h : Nat)) ∧ y.cell? ⟨r, 1, none⟩ = some (.int .u64 (d1.l : Nat))) ∧ (y.cell? (ud.add (k * 2)) = some (.int .u64 (u.h : Nat)) ∧ y.cell? ⟨(ud.add (k * 2)).block, (ud.add (k * 2)).off + 1, none⟩ = some (.int .u64 (u.l : Nat))) ∧ Below w11.heap.size w11 y)) => (below_any d1.h d1.l u.h u.l y).mono (fun e y' (h : _ ∧ _) => show e = .returned (.bool (blw d1.h d1.l u.h u.l)) ∧ ((y'.cell? ⟨r, 0, none⟩ = some (.int .u64 (d1.h : Nat)) ∧ y'.cell? ⟨r, 1, none⟩ = some (.int .u64 (d1.l : Nat))) ∧ (y'.cell? (ud.add (k * 2)) = some (.int .u64 (u.h : Nat)) ∧ y'.cell? ⟨(ud.add (k * 2)).block, (ud.add (k * 2)).off + 1, none⟩ = some (.int .u64 (u.l : Nat))) ∧ Below w11.heap.size w11 y') from ⟨h.1, ⟨(h.2.cell (World.block_lt_of_cell? y _ hx.1.1)).trans hx.1.1, (h.2.cell (World.block_lt_of_cell? y _ hx.1.2)).trans hx.1.2⟩, ⟨(h.2.cell (World.block_lt_of_cell? y _ hx.2.1.1)).trans hx.2.1.1, (h.2.cell (World.block_lt_of_cell? y _ hx.2.1.2)).trans hx.2.1.2⟩, hx.2.2.trans (h.2.mono hx.2.2.size)⟩))
                  clear hu
                  go_region_held3 (fun y => ((y.cell? ⟨r, 0, none⟩ = some (.int .u64 (d1.h : Nat)) ∧ y.cell? ⟨r, 1, none⟩ = some (.int .u64 (d1.l : Nat))) ∧ (y.cell? (ud.add (k * 2)) = some (.int .u64 (u.h : Nat)) ∧ y.cell? ⟨(ud.add (k * 2)).block, (ud.add (k * 2)).off + 1, none⟩ = some (.int .u64 (u.l : Nat))) ∧ Below w11.heap.size w11 y)) (first | exact ⟨⟨o0, o1⟩, ⟨u0, u1⟩, Below.drew (Below.refl _ _)⟩ | assumption | go_keep)
                    (first | (go_at_call 19; refine (FB.out _ (by first | assumption | (simp [*]))).mono ?_; rintro e x' ⟨rfl, hx'⟩))
                  have HBF := Lib.hid hx'.2.2
                  clear hx'
                  go_wp2_with fail
                  go_meet
                  refine ⟨blw d1.h d1.l u.h u.l, rfl, ⟨?_, fun _ => HKP.out⟩, HBF.out⟩
                  unfold pickD
                  rw [HUU.out, HD1.out]
                  simp only [maxD, blw_dCmp, decide_eq_true_iff]
                case rest =>
                  obtain ⟨bb, rfl, HPD, HC⟩ := hcut
                  replace O11 := Lib.hid (O11.out.below HC.out)
                  replace RO11 := Lib.hid (own_kept RO11.out HC.out)
                  replace HX11 := Lib.hid (HX11.out.trans (HC.out.mono HX11.out.size))
                  clear HC
                  obtain ⟨w12, rfl⟩ : ∃ z, z = wc := ⟨_, rfl⟩
                  go_upto_if 133 with fail
                  go_cut [133] (fun _ wx => Hid (Ob wx r (pickD V U k).cells ∧ wx.ownsRow w9.heap.size 27 2 (.slice A' k c') k (CL Dw.cells (bothV V U k)) ∧ Below w9.heap.size w9 wx))
                  case first =>
                    cases bb with
                    | true =>
                      have hkp : (k : Int) < (p : Int) := by have := HPD.out.2 rfl; omega
                      obtain ⟨u, hu⟩ : ∃ u, U[k]? = some u := ⟨_, List.getElem?_eq_getElem (by have := HUL.out; omega)⟩
                      obtain ⟨ud, rfl, u0, u1⟩ := (U5.out.below HX11.out).atDw hu
                      have HPU : Hid (pickD V U k = u) := by have := HPD.out.1; rw [hu] at this; exact this
                      have o0 := O11.out.cell 0 rfl
                      have o1 := O11.out.cell 1 rfl
                      have f0 := O11.out.fr 0 (by simp)
                      have f1 := O11.out.fr 1 (by simp)
                      have zr := O11.out.lt (by simp)
                      clear hu
                      go_wp2_with fail
                      go_meet
                      rw [HPU.out]
                      refine ⟨(O11.out.set 0 (by simp) (.int .u64 (u.h : Nat))).set 1 (by simp) (.int .u64 (u.l : Nat)), ?_, (HX11.out.setCell HRB.out _).setCell HRB.out _⟩
                      have key : ∀ {y : World} (a : Addr) (u : Value), a.block = r → y.ownsRow w9.heap.size 27 2 (.slice A' k c') k (CL Dw.cells (bothV V U k)) → (y.setCell a u).ownsRow w9.heap.size 27 2 (.slice A' k c') k (CL Dw.cells (bothV V U k)) := fun a u ha ho => ho.kept (grown_setCell _ _ _) (by
                        cases hv : (Value.slice A' k c').ownBlock with
                        | none => exact .inl rfl
                        | some j => exact .inr (fun e => by cases e; exact HNR.out _ hv ha))
                      exact key _ _ rfl (key _ _ rfl RO11.out)
                    | false =>
                      have HPU : Hid (pickD V U k = d1) := by
                        have := HPD.out.1
                        cases hu : U[k]? with
                        | none => rw [hu] at this; exact this
                        | some u => rw [hu] at this; exact this
                      go_wp2_with fail
                      go_meet
                      rw [HPU.out]
                      exact ⟨O11.out, RO11.out, HX11.out⟩
                  case rest =>
                    have O13 := Lib.hid hcut.out.1
                    have RO13 := Lib.hid hcut.out.2.1
                    have HX13 := Lib.hid hcut.out.2.2
                    clear hcut O11 RO11 HX11 HPD
                    obtain ⟨e, he⟩ : ∃ e, pickD V U k = e := ⟨_, rfl⟩
                    rw [he] at O13 HPK
                    clear he
                    have o0 := O13.out.cell 0 rfl
                    have o1 := O13.out.cell 1 rfl
                    have hk2 : (k : Int) + 1 ≤ 10000000000000 := hNb
                    go_wp2_with (at_builtin; refine wpList_app rfl (.tmp 138) (.tmp 140) rfl eltVector w9.heap.size (.slice A' k c') k (CL Dw.cells (bothV V U k)) rfl (RO13.out.alloc _) (some ⟨wc.heap.size, 0, none⟩) 1 1 e.cells rfl rfl (fun h => by cases h) (fresh_news wc e.cells.toArray 27) (Dw.one e) ?d3 ?d4 ?d5 ?_)
                    case d3 => simp only [maxLen]; omega
                    case d4 => have := HKN.out; have := HN3.out; have := HSM2.out; have := HSM3.out; omega
                    case d5 => have := HX13.out.size; simp; omega
                    intro A9 c9 w14 ho9 hg9 _
                    have B9 : Hid (Below w9.heap.size w9 w14) := below_own HX13.out HX13.out.size RO13.out ((World.grownBy_alloc wc _ _).trans hg9)
                    have R9 : Hid (w14.ownsRow w9.heap.size 27 2 (.slice A9 (k + 1) c9) (k + 1) (CL Dw.cells (bothV V U (k + 1)))) := by rw [HPK.out, CL_push]; exact ho9
                    clear ho9 hg9 o0 o1
                    go_wp2_with fail
                    go_roundw
                    case rel => exact ⟨k + 1, A9, c9, HKN.out, by go_num, rfl, B9.out, R9.out⟩
                    case measure => have := HKN.out; simp [intOf]; omega
        · obtain rfl : k = N := by omega
          have e1 : ¬ (k : Int) < (m : Int) := by have := HN1.out; omega
          have e2 : ¬ (k : Int) < (p : Int) := by have := HN2.out; omega
          clear hkN hk
          have HOV : Hid (∀ x : Ak, x.over (bothV V U k) = (x.over V || x.over U)) := fun x => over_both (by rw [HVL.out]; exact HN1.out) (by rw [HUL.out]; exact HN2.out) _ _ _
          have HBT : Hid (pruneF (Ak.over U) Q = pruneF (Ak.over (bothV V U k)) P) := by rw [← HQ.out]; exact prune_both HOV.out
          have RB : Hid (RdC 2 Dw.cells wr A' k (bothV V U k)) := rdc_own (size := 2) (cells := Dw.cells) (fun _ => rfl) HO.out (bothV_len _ _ _)
          have hkb : k ≤ 10000000000000 := by have := HN3.out; omega
          have HKB := Lib.hid hkb
          replace P5 := Lib.hid (P5.out.below HR.out)
          replace Q5 := Lib.hid (Q5.out.below HR.out)
          replace V5 := Lib.hid (V5.out.below HR.out)
          replace U5 := Lib.hid (U5.out.below HR.out)
          replace B5 := Lib.hid (B5.out.trans (HR.out.mono B5.out.size))
          clear HR HO hkb HOV
          go_wp2_with fail
          refine (pruneAck_fn Aq Q.length cq Q C p q U _ Q5.out U5.out (by have := HPS.out; omega) (by omega)).mono ?_
          rintro e y1 ⟨A1, c1, rfl, hb1, ho1⟩
          have H1 := Lib.hid hb1
          have R1 := Lib.hid (rdAk ho1 rfl)
          replace P5 := Lib.hid (P5.out.below H1.out)
          replace Q5 := Lib.hid (Q5.out.below H1.out)
          replace V5 := Lib.hid (V5.out.below H1.out)
          replace RB := Lib.hid (RB.out.below H1.out)
          replace B5 := Lib.hid (B5.out.trans (H1.out.mono B5.out.size))
          clear hb1 ho1 H1 U5
          go_wp2_with fail
          refine (pruneAck_fn Al P.length cl P A' k c' (bothV V U k) _ P5.out RB.out HPS.out (by have := HKB.out; omega)).mono ?_
          rintro e y2 ⟨A2, c2, rfl, hb2, ho2⟩
          have H2 := Lib.hid hb2
          have R2 := Lib.hid (rdAk ho2 rfl)
          replace P5 := Lib.hid (P5.out.below H2.out)
          replace Q5 := Lib.hid (Q5.out.below H2.out)
          replace V5 := Lib.hid (V5.out.below H2.out)
          replace R1 := Lib.hid (R1.out.below H2.out)
          replace B5 := Lib.hid (B5.out.trans (H2.out.mono B5.out.size))
          clear hb2 ho2 H2 RB
          rw [← HBT.out] at R2 ⊢
          obtain ⟨X, hX⟩ : ∃ X, pruneF (Ak.over U) Q = X := ⟨_, rfl⟩
          rw [hX] at R1 R2 ⊢
          clear hX HBT
          go_wp2_with fail
          refine (sameAcks_any A1 A2 X.length c1 c2 X _ R1.out R2.out).mono ?_
          rintro e y3 ⟨rfl, z3, hz3⟩
          have H3 : Hid (Below y2.heap.size y2 y3) := by rw [hz3]; exact Below.drewN (Below.refl _ _) z3
          replace P5 := Lib.hid (P5.out.below H3.out)
          replace Q5 := Lib.hid (Q5.out.below H3.out)
          replace V5 := Lib.hid (V5.out.below H3.out)
          replace B5 := Lib.hid (B5.out.trans (H3.out.mono B5.out.size))
          clear H3 hz3 R1 R2
          go_wp2_with fail
          go_loopw [16, 17] (fun bv iv wr => ∃ (i : Nat) (A' : Option Addr) (c' : Nat), i ≤ P.length ∧ iv = .int .i64 i ∧ bv = .slice A' (putMore Q (P.take i)).length c' ∧ Hid (Below y3.heap.size y3 wr) ∧ Hid (RdC 4 Ak.cells wr A' (putMore Q (P.take i)).length (putMore Q (P.take i)))) (fun _ iv _ => P.length - (intOf iv).toNat)
          case atStart => exact ⟨0, Aq, cq, by omega, rfl, rfl, Below.refl _ _, Q5.out⟩
          case round =>
            obtain ⟨i, A4, c4, hi, rfl, rfl, HR, HO⟩ := hrel
            by_cases hin : i < P.length
            · obtain ⟨x, hx⟩ : ∃ x, P[i]? = some x := ⟨_, List.getElem?_eq_getElem hin⟩
              obtain ⟨al, rfl, g0, g1, g2, g3⟩ := (P5.out.below HR.out).atAk hx
              have hii : (i : Int) < (P.length : Int) := by omega
              have hi2 : (i : Int) + 1 ≤ 6000000000001 := by omega
              have HIN := Lib.hid hin
              have HPM : Hid (putMore Q (P.take (i + 1)) = putF Ak.n Ak.wins (putMore Q (P.take i)) x) := by rw [take_next hx, putMore_push]; exact rfl
              have HBL : Hid ((putMore Q (P.take i)).length ≤ P.length) := by rw [← HQ.out]; exact back_len BP.out _ _
              obtain ⟨M, hM⟩ : ∃ M, putMore Q (P.take i) = M := ⟨_, rfl⟩
              rw [hM] at HPM HBL HO ⊢
              clear hx hin hi hM
              go_wp2_with fail
              refine (putAck_fn A4 M.length c4 M x _ HO.out (by have := HBL.out; have := HPS.out; omega)).mono ?_
              rw [← HPM.out]
              rintro e y5 ⟨A6, c6, rfl, hb6, ho6⟩
              have H6 : Hid (Below y3.heap.size y3 y5) := HR.out.trans (hb6.mono HR.out.size)
              have R6 := Lib.hid (rdAk ho6 rfl)
              clear hb6 ho6 g0 g1 g2 g3 HO HR
              go_wp2_with fail
              go_roundw
              case rel => exact ⟨i + 1, A6, c6, HIN.out, by go_num, rfl, H6.out, R6.out⟩
              case measure => have := HIN.out; simp [intOf]; omega
            · obtain rfl : i = P.length := by omega
              have hii : ¬ (P.length : Int) < (P.length : Int) := by omega
              have HBK : Hid (putMore Q (P.take P.length) = P) := by rw [List.take_length, ← HQ.out]; exact back_all BP.out _
              rw [HBK.out] at HO ⊢
              replace P5 := Lib.hid (P5.out.below HR.out)
              replace Q5 := Lib.hid (Q5.out.below HR.out)
              replace V5 := Lib.hid (V5.out.below HR.out)
              replace B5 := Lib.hid (B5.out.trans (HR.out.mono B5.out.size))
              clear hin hi HR HBK
              go_wp2_with fail
              refine (sameAcks_any A4 Al P.length c4 cl P _ HO.out P5.out).mono ?_
              rintro e y6 ⟨rfl, z6, hz6⟩
              have H6 : Hid (Below wr.heap.size wr y6) := by rw [hz6]; exact Below.drewN (Below.refl _ _) z6
              replace HO := Lib.hid (HO.out.below H6.out)
              replace Q5 := Lib.hid (Q5.out.below H6.out)
              replace V5 := Lib.hid (V5.out.below H6.out)
              replace B5 := Lib.hid (B5.out.trans (H6.out.mono B5.out.size))
              clear H6 hz6
              go_wp2_with fail
              refine (pruneAck_fn A4 P.length c4 P B m d V _ HO.out V5.out HPS.out (by omega)).mono ?_
              rw [HQ.out]
              rintro e y7 ⟨A7, c7, rfl, hb7, ho7⟩
              have R7 := Lib.hid (rdAk ho7 rfl)
              replace Q5 := Lib.hid (Q5.out.below hb7)
              replace B5 := Lib.hid (B5.out.trans (hb7.mono B5.out.size))
              clear hb7 ho7 HO V5
              go_wp2_with fail
              refine (sameAcks_any A7 Aq Q.length c7 cq Q _ R7.out Q5.out).mono ?_
              rintro e y8 ⟨rfl, z8, rfl⟩
              go_wp2_with fail
              go_ret
              exact ⟨rfl, Below.drewN B5.out z8⟩
end Go.Proofs.Ytjjobgolpedgeaa
