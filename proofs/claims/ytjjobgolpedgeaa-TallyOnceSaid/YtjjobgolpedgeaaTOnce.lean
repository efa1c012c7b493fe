/-
  The walk of TallyOnce.
-/
import Derived.Test.YtjjobgolpedgeaaTSmall
import Derived.Test.YtjjobgolpedgeaaTWorks
import Derived.Test.YtjjobgolpedgeaaTTake
set_option linter.unusedVariables false
set_option linter.unusedSimpArgs false
namespace Go.Proofs.Ytjjobgolpedgeaa
open Go.RowKit

theorem rise_step {P : List Ak} (h : Rise Ak.n P) {j : Nat} {x y : Ak} (hy : P[j]? = some y) (hx : P[j + 1]? = some x) : y.n < x.n := by
  obtain ⟨h1, e1⟩ := List.getElem?_eq_some_iff.1 hy
  obtain ⟨h2, e2⟩ := List.getElem?_eq_some_iff.1 hx
  have := List.pairwise_iff_getElem.1 h j (j + 1) h1 h2 (by omega)
  rw [e1, e2] at this
  exact this
theorem draw_ne (a b c d : Nat) (w : World) (h : ¬ (a = c ∧ b = d)) : (binOp .eql 27 (.agg #[.int .u64 (a : Nat), .int .u64 (b : Nat)]) (.agg #[.int .u64 (c : Nat), .int .u64 (d : Nat)])).run Try.prog w = .ok (.bool false) w := by
  by_cases h1 : a = c
  · have h2 : ((b : Int) == (d : Int)) = false := beq_eq_false_iff_ne.2 (by omega)
    subst h1
    go_simp
  · have h2 : ((a : Int) == (c : Int)) = false := beq_eq_false_iff_ne.2 (by omega)
    go_simp
/-- the votes the other way round, from some place on -/
def turnd (r : Nat) (L : List Ak) (n m : Nat) : List Ak := (List.range m).flatMap fun k => (L[(r + n - k) % n]?).toList
theorem turnd_succ {r n m : Nat} {L : List Ak} {x : Ak} (h : L[(r + n - m) % n]? = some x) : turnd r L n (m + 1) = turnd r L n m ++ [x] := by
  unfold turnd; rw [List.range_succ, List.flatMap_append]; simp [h]
theorem turnd_mem {r n : Nat} {L : List Ak} (hl : L.length = n) (hr : r ≤ n - 1) (v : Ak) : v ∈ turnd r L n n ↔ v ∈ L := by
  unfold turnd
  rw [List.mem_flatMap]
  constructor
  · rintro ⟨k, _, hk⟩
    rw [Option.mem_toList] at hk
    exact List.mem_of_getElem? hk
  · intro hv
    obtain ⟨j, hj⟩ := List.getElem?_of_mem hv
    have hjn : j < n := by have := (List.getElem?_eq_some_iff.1 hj).1; omega
    refine ⟨(r + n - j) % n, List.mem_range.2 (Nat.mod_lt _ (by omega)), ?_⟩
    have e : (r + n - (r + n - j) % n) % n = j := by
      by_cases h1 : j ≤ r
      · have : (r + n - j) % n = r - j := by rw [show r + n - j = (r - j) + n by omega, Nat.add_mod_right, Nat.mod_eq_of_lt (by omega)]
        rw [this, show r + n - (r - j) = j + n by omega, Nat.add_mod_right, Nat.mod_eq_of_lt hjn]
      · have : (r + n - j) % n = r + n - j := Nat.mod_eq_of_lt (by omega)
        rw [this, show r + n - (r + n - j) = j by omega, Nat.mod_eq_of_lt hjn]
    rw [e, hj]
    simp
theorem putF_same {L : List Ak} {v : Ak} (h : v ∈ L) : putF Ak.n Ak.wins (putAll L) v = putAll L := by
  rw [← putAll_push]
  exact (best_putAll _).one (best_putAll _) fun u => by
    rw [List.mem_append, List.mem_singleton]
    exact ⟨fun e => e.elim id (fun e => e ▸ h), .inl⟩
theorem keepA4 {w w' : World} {a0 a1 a2 a3 : Addr} {v0 v1 v2 v3 : Value} (hb : Below w.heap.size w w') (h : w.cell? a0 = some v0 ∧ w.cell? a1 = some v1 ∧ w.cell? a2 = some v2 ∧ w.cell? a3 = some v3) :
    w'.cell? a0 = some v0 ∧ w'.cell? a1 = some v1 ∧ w'.cell? a2 = some v2 ∧ w'.cell? a3 = some v3 :=
  ⟨(hb.cell (World.block_lt_of_cell? w _ h.1)).trans h.1, (hb.cell (World.block_lt_of_cell? w _ h.2.1)).trans h.2.1, (hb.cell (World.block_lt_of_cell? w _ h.2.2.1)).trans h.2.2.1, (hb.cell (World.block_lt_of_cell? w _ h.2.2.2)).trans h.2.2.2⟩
set_option maxRecDepth 100000 in
set_option maxHeartbeats 6400000 in
theorem tallyOnce_walk (A : Option Addr) (n c : Nat) (L : List Ak) (fr : Int) (W : World) (h : RdC 4 Ak.cells W A n L) (hsm : n * 32 ≤ 140737488351232) (wf : (Lit.int .i64 fr).wf = true) :
    Calls Try.prog 3 #[.slice A n c, .int .i64 fr] W fun e w' => e = .returned (.bool true) ∧ Below W.heap.size W w' := by
  have H := Lib.hid h
  have HSM := Lib.hid hsm
  have HL := Lib.hid h.len
  have HWF := Lib.hid wf
  have hnb : (n : Int) ≤ 6000000000000 := by omega
  clear h hsm wf
  go_enter Try.func3, Try.ntmps3
  go_wp2_with fail
  refine (works_any _).mono ?_
  rintro e w1 ⟨rfl, hb1⟩
  have B1 := Lib.hid hb1
  have R1 := Lib.hid (H.out.below hb1)
  clear hb1
  go_wp2_with fail
  refine (put_any A n c L _ R1.out HSM.out).mono ?_
  rintro e w2 ⟨Al, cl, rfl, hb2, ho2⟩
  have B2 : Hid (Below W.heap.size W w2) := B1.out.trans (hb2.mono B1.out.size)
  have R2 := Lib.hid (R1.out.below hb2)
  have Q2 := Lib.hid (rdAk ho2 rfl)
  have BP := Lib.hid (best_putAll L)
  have hpn : ((putAll L).length : Int) ≤ (n : Int) := by have := putAll_len L; have := HL.out; omega
  obtain ⟨P, hP⟩ : ∃ P, putAll L = P := ⟨_, rfl⟩
  rw [hP] at Q2 BP hpn ⊢
  have HPE := Lib.hid hP
  clear hb2 ho2 R1 B1 hP
  go_wp2_with fail
  go_loopw [6] (fun iv wr => ∃ (i : Nat), i ≤ P.length ∧ iv = .int .i64 i ∧ Hid (Below w2.heap.size w2 wr)) (fun iv _ => P.length - (intOf iv).toNat)
  case atStart => exact ⟨0, by omega, rfl, Below.refl _ _⟩
  case round =>
    obtain ⟨i, hi, rfl, HR⟩ := hrel
    by_cases hin : i < P.length
    · obtain ⟨x, hx⟩ : ∃ x, P[i]? = some x := ⟨_, List.getElem?_eq_getElem hin⟩
      have HQ : Hid (RdC 4 Ak.cells wr Al P.length P) := Q2.out.below HR.out
      obtain ⟨al, rfl, q0, q1, q2, q3⟩ := HQ.out.atAk hx
      have hii : (i : Int) < (P.length : Int) := by omega
      have hi2 : (i : Int) + 1 ≤ 6000000000000 := by omega
      have HXX := Lib.hid hx
      have HIN := Lib.hid hin
      clear hi hin
      go_upto_region 7 with fail
      go_cut [44] (fun bv wx => bv = .bool false ∧ Hid (∃ m, wx = wr.drewN m))
      case first =>
        by_cases hi0 : 0 < i
        · obtain ⟨y, hy⟩ : ∃ y, P[i - 1]? = some y := ⟨_, List.getElem?_eq_getElem (by have := HIN.out; omega)⟩
          have HYX := Lib.hid (rise_step BP.out.rise hy (show P[i - 1 + 1]? = some x by rw [show i - 1 + 1 = i by omega]; exact hx))
          obtain ⟨al', e, y0, y1, y2, y3⟩ := HQ.out.atAk hy
          cases e
          have hyx : ¬ x.n ≤ y.n := by have := HYX.out; omega
          have hi1 : (0 : Int) < (i : Int) := by omega
          have e1 : IntKind.i64.wrap ((i : Int) - 1) = (i : Int) - 1 := by rw [IntKind.wrap_i64]; omega
          have e2 : ((i : Int) - 1).toNat = i - 1 := by omega
          have e3 : (0 : Int) ≤ (i : Int) - 1 := by omega
          have e4 : (i : Int) - 1 < (P.length : Int) := by omega
          clear hx hy
          go_quiet (fail)
          go_wp2_with fail
          go_meet
          exact ⟨rfl, nq, rfl⟩
        · have hi1 : ¬ (0 : Int) < (i : Int) := by omega
          clear hx
          go_quiet (fail)
          go_wp2_with fail
          go_meet
          exact ⟨rfl, nq, rfl⟩
      case rest =>
        obtain ⟨rfl, HM⟩ := hcut
        have HV : Hid (Below w2.heap.size w2 wc) := by obtain ⟨m, hm⟩ := HM.out; rw [hm]; exact Below.drewN HR.out m
        clear HM HQ q0 q1 q2 q3 hx HR
        go_wp2_with fail
        go_loopw [7, 8] (fun sv kv wr => ∃ (k : Nat) (seen : Bool), k ≤ n ∧ sv = .bool seen ∧ kv = .int .i64 k ∧ Hid (Below w2.heap.size w2 wr) ∧ Hid ((∃ j, j < k ∧ L[j]? = some x) → seen = true)) (fun _ kv _ => n - (intOf kv).toNat)
        case atStart => exact ⟨0, false, by omega, rfl, rfl, HV.out, fun ⟨j, hj, _⟩ => by omega⟩
        case round =>
          obtain ⟨k, seen, hk, rfl, rfl, HR, HS⟩ := hrel
          clear HV
          by_cases hkn : k < n
          · obtain ⟨v, hv⟩ : ∃ v, L[k]? = some v := ⟨_, List.getElem?_eq_getElem (by have := HL.out; omega)⟩
            obtain ⟨ad, e, g0, g1, g2, g3⟩ := (R2.out.below HR.out).atAk hv
            subst e
            obtain ⟨al', e, q0, q1, q2, q3⟩ := (Q2.out.below HR.out).atAk HXX.out
            cases e
            have hki : (k : Int) < (n : Int) := by omega
            have hk2 : (k : Int) + 1 ≤ 6000000000000 := by omega
            have HVV := Lib.hid hv
            have HKN := Lib.hid hkn
            clear hv hkn hk
            go_upto_region 14 with fail
            have OX := Lib.hid (Ob.fresh wr #[.int .i64 v.n, .int .u64 (v.h : Nat), .int .u64 (v.l : Nat), .int .i64 v.p] 29)
            have B3 : Hid (Below w2.heap.size w2 (wr.alloc (.cells #[.int .i64 v.n, .int .u64 (v.h : Nat), .int .u64 (v.l : Nat), .int .i64 v.p] 29))) := HR.out.alloc HR.out.size _
            generalize wr.alloc (.cells #[.int .i64 v.n, .int .u64 (v.h : Nat), .int .u64 (v.l : Nat), .int .i64 v.p] 29) = w3 at OX B3 ⊢
            generalize wr.heap.size = r at OX ⊢
            clear g0 g1 g2 g3 q0 q1 q2 q3 HR
            obtain ⟨p0, p1, p2, p3⟩ := OX.out.all4
            obtain ⟨al', e, q0, q1, q2, q3⟩ := (Q2.out.below B3.out).atAk HXX.out
            cases e
            have hii : (i : Int) < (P.length : Int) := by have := HIN.out; omega
            go_quiet (fail)
            have B4 : Hid (Below w2.heap.size w2 (w3.drewN nq)) := Below.drewN B3.out _
            have OX4 := Lib.hid (OX.out.drewN nq)
            generalize w3.drewN nq = w4 at B4 OX4 ⊢
            clear p0 p1 p2 p3 q0 q1 q2 q3 OX B3
            obtain ⟨bb, hbb⟩ : ∃ bb, (v.n != x.n) = bb := ⟨_, rfl⟩
            rw [hbb]
            cases bb with
            | true =>
              have hne' : ¬ v.n = x.n := by simpa using hbb
              have HNE := Lib.hid hne'
              clear hne'
              clear hbb
              go_wp2_with fail
              go_roundw
              case rel => exact ⟨k + 1, seen, HKN.out, rfl, by go_num, B4.out, fun ⟨j, hj, hjx⟩ => HS.out ⟨j, by
                by_cases e : j = k
                · subst e; rw [HVV.out] at hjx; cases hjx; exact absurd rfl HNE.out
                · omega, hjx⟩⟩
              case measure => have := HKN.out; simp [intOf]; omega
            | false =>
              have heq' : v.n = x.n := by simpa using hbb
              have HEQ := Lib.hid heq'
              clear heq'
              clear hbb
              go_upto_region 15 with fail
              go_cut [7] (fun sv wx => ∃ s2, sv = .bool s2 ∧ Hid ((seen = true → s2 = true) ∧ (v = x → s2 = true)) ∧ Hid (∃ m, wx = w4.drewN m))
              case first =>
                obtain ⟨p0, p1, p2, p3⟩ := OX4.out.all4
                obtain ⟨al', e, q0, q1, q2, q3⟩ := (Q2.out.below B4.out).atAk HXX.out
                cases e
                cases seen with
                | true =>
                  go_quiet (fail)
                  go_wp2_with fail
                  go_meet
                  exact ⟨true, rfl, ⟨fun _ => rfl, fun _ => rfl⟩, nq, rfl⟩
                | false =>
                  obtain ⟨vn, vh, vl, vp⟩ := v
                  obtain ⟨xn, xh, xl, xp⟩ := x
                  obtain rfl : vn = xn := HEQ.out
                  simp only at p0 p1 p2 p3 q0 q1 q2 q3
                  by_cases e1 : vh = xh
                  · subst e1
                    by_cases e2 : vl = xl
                    · subst e2
                      by_cases e3 : vp = xp
                      · subst e3
                        go_quiet (fail)
                        go_wp2_with fail
                        go_meet
                        exact ⟨true, rfl, ⟨fun _ => rfl, fun _ => rfl⟩, nq, rfl⟩
                      · have hb : (vp == xp) = false := beq_eq_false_iff_ne.2 e3
                        have HNE := Lib.hid e3
                        clear e3
                        go_quiet (fail)
                        go_wp2_with fail
                        go_meet
                        exact ⟨false, rfl, ⟨fun h => h, fun h => by injection h with _ _ _ h; exact absurd h HNE.out⟩, nq, rfl⟩
                    · have hb : ((vl : Int) == (xl : Int)) = false := beq_eq_false_iff_ne.2 (by omega)
                      have HNE := Lib.hid e2
                      clear e2
                      go_quiet (fail)
                      go_wp2_with fail
                      go_meet
                      exact ⟨false, rfl, ⟨fun h => h, fun h => by injection h with _ _ h _; exact absurd h HNE.out⟩, nq, rfl⟩
                  · have hb : ((vh : Int) == (xh : Int)) = false := beq_eq_false_iff_ne.2 (by omega)
                    have HNE := Lib.hid e1
                    clear e1
                    go_quiet (fail)
                    go_wp2_with fail
                    go_meet
                    exact ⟨false, rfl, ⟨fun h => h, fun h => by injection h with _ h _ _; exact absurd h HNE.out⟩, nq, rfl⟩
              case rest =>
                obtain ⟨s2, rfl, HS2, HM⟩ := hcut
                have B5 : Hid (Below w2.heap.size w2 wc) := by obtain ⟨m, hm⟩ := HM.out; rw [hm]; exact Below.drewN B4.out m
                have OX5 : Hid (Ob wc r [.int .i64 v.n, .int .u64 (v.h : Nat), .int .u64 (v.l : Nat), .int .i64 v.p]) := by obtain ⟨m, hm⟩ := HM.out; rw [hm]; exact OX4.out.drewN m
                clear B4 OX4 HM
                have HTOP : Hid (¬ x.lt v) := BP.out.top x (List.mem_of_getElem? HXX.out) v (List.mem_of_getElem? HVV.out) HEQ.out
                go_upto_region 16 with fail
                go_cut [99] (fun bv wx => bv = .bool false ∧ Hid (Below w2.heap.size w2 wx))
                case first =>
                  obtain ⟨p0, p1, p2, p3⟩ := OX5.out.all4
                  obtain ⟨al', e, q0, q1, q2, q3⟩ := (Q2.out.below B5.out).atAk HXX.out
                  cases e
                  obtain ⟨vn, vh, vl, vp⟩ := v
                  obtain ⟨xn, xh, xl, xp⟩ := x
                  obtain rfl : vn = xn := HEQ.out
                  simp only at p0 p1 p2 p3 q0 q1 q2 q3
                  have HT := HTOP.out
                  simp only [Ak.lt] at HT
                  have HTT := Lib.hid HT
                  clear HT
                  by_cases e1 : xh = vh ∧ xl = vl
                  · obtain ⟨rfl, rfl⟩ := e1
                    have hle : ¬ xp < vp := by have := HTT.out; omega
                    have HBL : blw xh xl xh xl = false := by simp [blw]
                    have KP : ∀ y y', ((y.cell? ⟨r, 0, none⟩ = some (.int .i64 vn) ∧ y.cell? ⟨r, 1, none⟩ = some (.int .u64 (xh : Nat)) ∧ y.cell? ⟨r, 2, none⟩ = some (.int .u64 (xl : Nat)) ∧ y.cell? ⟨r, 3, none⟩ = some (.int .i64 vp)) ∧ (y.cell? (al.add (i * 4)) = some (.int .i64 vn) ∧ y.cell? ⟨(al.add (i * 4)).block, (al.add (i * 4)).off + 1, none⟩ = some (.int .u64 (xh : Nat)) ∧ y.cell? ⟨(al.add (i * 4)).block, (al.add (i * 4)).off + 2, none⟩ = some (.int .u64 (xl : Nat)) ∧ y.cell? ⟨(al.add (i * 4)).block, (al.add (i * 4)).off + 3, none⟩ = some (.int .i64 xp)) ∧ Below wc.heap.size wc y) → Below y.heap.size y y' → ((y'.cell? ⟨r, 0, none⟩ = some (.int .i64 vn) ∧ y'.cell? ⟨r, 1, none⟩ = some (.int .u64 (xh : Nat)) ∧ y'.cell? ⟨r, 2, none⟩ = some (.int .u64 (xl : Nat)) ∧ y'.cell? ⟨r, 3, none⟩ = some (.int .i64 vp)) ∧ (y'.cell? (al.add (i * 4)) = some (.int .i64 vn) ∧ y'.cell? ⟨(al.add (i * 4)).block, (al.add (i * 4)).off + 1, none⟩ = some (.int .u64 (xh : Nat)) ∧ y'.cell? ⟨(al.add (i * 4)).block, (al.add (i * 4)).off + 2, none⟩ = some (.int .u64 (xl : Nat)) ∧ y'.cell? ⟨(al.add (i * 4)).block, (al.add (i * 4)).off + 3, none⟩ = some (.int .i64 xp)) ∧ Below wc.heap.size wc y') := fun y y' hx hb => ⟨keepA4 hb hx.1, keepA4 hb hx.2.1, hx.2.2.trans (hb.mono hx.2.2.size)⟩
                    have FB := Lib.hid (fun y (hx : ((y.cell? ⟨r, 0, none⟩ = some (.int .i64 vn) ∧ y.cell? ⟨r, 1, none⟩ = some (.int .u64 (xh : Nat)) ∧ y.cell? ⟨r, 2, none⟩ = some (.int .u64 (xl : Nat)) ∧ y.cell? ⟨r, 3, none⟩ = some (.int .i64 vp)) ∧ (y.cell? (al.add (i * 4)) = some (.int .i64 vn) ∧ y.cell? ⟨(al.add (i * 4)).block, (al.add (i * 4)).off + 1, none⟩ = some (.int .u64 (xh : Nat)) ∧ y.cell? ⟨(al.add (i * 4)).block, (al.add (i * 4)).off + 2, none⟩ = some (.int .u64 (xl : Nat)) ∧ y.cell? ⟨(al.add (i * 4)).block, (al.add (i * 4)).off + 3, none⟩ = some (.int .i64 xp)) ∧ Below wc.heap.size wc y)) => (below_any xh xl xh xl y).mono (fun e y' (h : _ ∧ _) => show e = .returned (.bool false) ∧ ((y'.cell? ⟨r, 0, none⟩ = some (.int .i64 vn) ∧ y'.cell? ⟨r, 1, none⟩ = some (.int .u64 (xh : Nat)) ∧ y'.cell? ⟨r, 2, none⟩ = some (.int .u64 (xl : Nat)) ∧ y'.cell? ⟨r, 3, none⟩ = some (.int .i64 vp)) ∧ (y'.cell? (al.add (i * 4)) = some (.int .i64 vn) ∧ y'.cell? ⟨(al.add (i * 4)).block, (al.add (i * 4)).off + 1, none⟩ = some (.int .u64 (xh : Nat)) ∧ y'.cell? ⟨(al.add (i * 4)).block, (al.add (i * 4)).off + 2, none⟩ = some (.int .u64 (xl : Nat)) ∧ y'.cell? ⟨(al.add (i * 4)).block, (al.add (i * 4)).off + 3, none⟩ = some (.int .i64 xp)) ∧ Below wc.heap.size wc y') from ⟨by rw [h.1, HBL], KP y y' hx h.2⟩))
                    clear KP
                    go_region_held3 (fun y => ((y.cell? ⟨r, 0, none⟩ = some (.int .i64 vn) ∧ y.cell? ⟨r, 1, none⟩ = some (.int .u64 (xh : Nat)) ∧ y.cell? ⟨r, 2, none⟩ = some (.int .u64 (xl : Nat)) ∧ y.cell? ⟨r, 3, none⟩ = some (.int .i64 vp)) ∧ (y.cell? (al.add (i * 4)) = some (.int .i64 vn) ∧ y.cell? ⟨(al.add (i * 4)).block, (al.add (i * 4)).off + 1, none⟩ = some (.int .u64 (xh : Nat)) ∧ y.cell? ⟨(al.add (i * 4)).block, (al.add (i * 4)).off + 2, none⟩ = some (.int .u64 (xl : Nat)) ∧ y.cell? ⟨(al.add (i * 4)).block, (al.add (i * 4)).off + 3, none⟩ = some (.int .i64 xp)) ∧ Below wc.heap.size wc y)) (first | exact ⟨⟨p0, p1, p2, p3⟩, ⟨q0, q1, q2, q3⟩, Below.drew (Below.refl _ _)⟩ | assumption | go_keep)
                      (first | (go_at_call 19; refine (FB.out _ (by first | assumption | (simp [*]))).mono ?_; rintro e x' ⟨rfl, hx'⟩))
                    have HX6 : Hid (Below w2.heap.size w2 x') := B5.out.trans (hx'.2.2.mono B5.out.size)
                    clear hx' FB
                    go_wp2_with fail
                    go_meet
                    exact ⟨by first | rfl | (rw [decide_eq_false (Int.not_lt.2 hle)]), HX6.out⟩
                  · have hb := fun w => draw_ne xh xl vh vl w e1
                    have HBL : blw xh xl vh vl = false := by have := HTT.out; simp [blw]; omega
                    clear e1
                    have KP : ∀ y y', ((y.cell? ⟨r, 0, none⟩ = some (.int .i64 vn) ∧ y.cell? ⟨r, 1, none⟩ = some (.int .u64 (vh : Nat)) ∧ y.cell? ⟨r, 2, none⟩ = some (.int .u64 (vl : Nat)) ∧ y.cell? ⟨r, 3, none⟩ = some (.int .i64 vp)) ∧ (y.cell? (al.add (i * 4)) = some (.int .i64 vn) ∧ y.cell? ⟨(al.add (i * 4)).block, (al.add (i * 4)).off + 1, none⟩ = some (.int .u64 (xh : Nat)) ∧ y.cell? ⟨(al.add (i * 4)).block, (al.add (i * 4)).off + 2, none⟩ = some (.int .u64 (xl : Nat)) ∧ y.cell? ⟨(al.add (i * 4)).block, (al.add (i * 4)).off + 3, none⟩ = some (.int .i64 xp)) ∧ Below wc.heap.size wc y) → Below y.heap.size y y' → ((y'.cell? ⟨r, 0, none⟩ = some (.int .i64 vn) ∧ y'.cell? ⟨r, 1, none⟩ = some (.int .u64 (vh : Nat)) ∧ y'.cell? ⟨r, 2, none⟩ = some (.int .u64 (vl : Nat)) ∧ y'.cell? ⟨r, 3, none⟩ = some (.int .i64 vp)) ∧ (y'.cell? (al.add (i * 4)) = some (.int .i64 vn) ∧ y'.cell? ⟨(al.add (i * 4)).block, (al.add (i * 4)).off + 1, none⟩ = some (.int .u64 (xh : Nat)) ∧ y'.cell? ⟨(al.add (i * 4)).block, (al.add (i * 4)).off + 2, none⟩ = some (.int .u64 (xl : Nat)) ∧ y'.cell? ⟨(al.add (i * 4)).block, (al.add (i * 4)).off + 3, none⟩ = some (.int .i64 xp)) ∧ Below wc.heap.size wc y') := fun y y' hx hb => ⟨keepA4 hb hx.1, keepA4 hb hx.2.1, hx.2.2.trans (hb.mono hx.2.2.size)⟩
                    have FB := Lib.hid (fun y (hx : ((y.cell? ⟨r, 0, none⟩ = some (.int .i64 vn) ∧ y.cell? ⟨r, 1, none⟩ = some (.int .u64 (vh : Nat)) ∧ y.cell? ⟨r, 2, none⟩ = some (.int .u64 (vl : Nat)) ∧ y.cell? ⟨r, 3, none⟩ = some (.int .i64 vp)) ∧ (y.cell? (al.add (i * 4)) = some (.int .i64 vn) ∧ y.cell? ⟨(al.add (i * 4)).block, (al.add (i * 4)).off + 1, none⟩ = some (.int .u64 (xh : Nat)) ∧ y.cell? ⟨(al.add (i * 4)).block, (al.add (i * 4)).off + 2, none⟩ = some (.int .u64 (xl : Nat)) ∧ y.cell? ⟨(al.add (i * 4)).block, (al.add (i * 4)).off + 3, none⟩ = some (.int .i64 xp)) ∧ Below wc.heap.size wc y)) => (below_any xh xl vh vl y).mono (fun e y' (h : _ ∧ _) => show e = .returned (.bool false) ∧ ((y'.cell? ⟨r, 0, none⟩ = some (.int .i64 vn) ∧ y'.cell? ⟨r, 1, none⟩ = some (.int .u64 (vh : Nat)) ∧ y'.cell? ⟨r, 2, none⟩ = some (.int .u64 (vl : Nat)) ∧ y'.cell? ⟨r, 3, none⟩ = some (.int .i64 vp)) ∧ (y'.cell? (al.add (i * 4)) = some (.int .i64 vn) ∧ y'.cell? ⟨(al.add (i * 4)).block, (al.add (i * 4)).off + 1, none⟩ = some (.int .u64 (xh : Nat)) ∧ y'.cell? ⟨(al.add (i * 4)).block, (al.add (i * 4)).off + 2, none⟩ = some (.int .u64 (xl : Nat)) ∧ y'.cell? ⟨(al.add (i * 4)).block, (al.add (i * 4)).off + 3, none⟩ = some (.int .i64 xp)) ∧ Below wc.heap.size wc y') from ⟨by rw [h.1, HBL], KP y y' hx h.2⟩))
                    clear KP
                    refine wp_region_held_drew (S := (fun y => ((y.cell? ⟨r, 0, none⟩ = some (.int .i64 vn) ∧ y.cell? ⟨r, 1, none⟩ = some (.int .u64 (vh : Nat)) ∧ y.cell? ⟨r, 2, none⟩ = some (.int .u64 (vl : Nat)) ∧ y.cell? ⟨r, 3, none⟩ = some (.int .i64 vp)) ∧ (y.cell? (al.add (i * 4)) = some (.int .i64 vn) ∧ y.cell? ⟨(al.add (i * 4)).block, (al.add (i * 4)).off + 1, none⟩ = some (.int .u64 (xh : Nat)) ∧ y.cell? ⟨(al.add (i * 4)).block, (al.add (i * 4)).off + 2, none⟩ = some (.int .u64 (xl : Nat)) ∧ y.cell? ⟨(al.add (i * 4)).block, (al.add (i * 4)).off + 3, none⟩ = some (.int .i64 xp)) ∧ Below wc.heap.size wc y))) (by kernel_rfl) ⟨⟨p0, p1, p2, p3⟩, ⟨q0, q1, q2, q3⟩, Below.drew (Below.refl _ _)⟩ (fun hHeld => ?_)
                    refine takeH0 (v := ?v0) (by kernel_rfl) (by kernel_rfl) (by kernel_rfl) (fun _ _ _ h => h) (by rfl) ?y0 (by assumption) ?r0
                    case y0 => (intro w hSw; (try dsimp only at hSw); go_simp; (try with_reducible rfl))
                    try simp only [Act.put, List.setIfInBounds_toArray, List.set_cons_zero, List.set_cons_succ]
                    refine takeH1 (v := ?v1) (by kernel_rfl) (by kernel_rfl) (by kernel_rfl) (fun _ _ _ h => h) (by rfl) ?y1 (by assumption) ?r1
                    case y1 => (intro w hSw; (try dsimp only at hSw); go_simp; (try with_reducible rfl))
                    try simp only [Act.put, List.setIfInBounds_toArray, List.set_cons_zero, List.set_cons_succ]
                    refine takeH2 (v := ?v2) (by kernel_rfl) (by kernel_rfl) (by kernel_rfl) (fun _ _ _ h => h) (by rfl) ?y2 (by assumption) ?r2
                    case y2 => (intro w hSw; (try dsimp only at hSw); go_simp; (try with_reducible rfl))
                    try simp only [Act.put, List.setIfInBounds_toArray, List.set_cons_zero, List.set_cons_succ]
                    refine takeH3 (v := ?v3) (by kernel_rfl) (by kernel_rfl) (by kernel_rfl) (fun _ _ _ h => h) (by rfl) ?y3 (by assumption) ?r3
                    case y3 => (intro w hSw; (try dsimp only at hSw); go_simp; (try with_reducible rfl))
                    try simp only [Act.put, List.setIfInBounds_toArray, List.set_cons_zero, List.set_cons_succ]
                    refine takeH4 (v := ?v4) (by kernel_rfl) (by kernel_rfl) (by kernel_rfl) (fun _ _ _ h => h) (by rfl) ?y4 (by assumption) ?r4
                    case y4 => (intro w hSw; (try dsimp only at hSw); go_simp; (try with_reducible rfl))
                    try simp only [Act.put, List.setIfInBounds_toArray, List.set_cons_zero, List.set_cons_succ]
                    refine takeH5 (v := ?v5) (by kernel_rfl) (by kernel_rfl) (by kernel_rfl) (fun _ _ _ h => h) (by rfl) ?y5 (by assumption) ?r5
                    case y5 => (intro w hSw; (try dsimp only at hSw); go_simp; (try with_reducible rfl))
                    try simp only [Act.put, List.setIfInBounds_toArray, List.set_cons_zero, List.set_cons_succ]
                    refine takeH6 (v := ?v6) (by kernel_rfl) (by kernel_rfl) (by kernel_rfl) (fun _ _ _ h => h) (by rfl) ?y6 (by assumption) ?r6
                    case y6 => (intro w hSw; (try dsimp only at hSw); go_simp; (try with_reducible rfl))
                    try simp only [Act.put, List.setIfInBounds_toArray, List.set_cons_zero, List.set_cons_succ]
                    refine callH7 (by kernel_rfl) (fun K hK => ?_)
                    first | (go_at_call 19; refine (FB.out _ hHeld).mono ?_; rintro e x' ⟨rfl, hx'⟩) | (go_simp; go_at_call 19; refine (FB.out _ hHeld).mono ?_; rintro e x' ⟨rfl, hx'⟩)
                    refine hK.out _ _ hx' (fun hHeld2 => ?_)
                    clear hK K
                    try simp only [Act.put, List.setIfInBounds_toArray, List.set_cons_zero, List.set_cons_succ]
                    refine takeH8 (v := ?v8) (by kernel_rfl) (by kernel_rfl) (by kernel_rfl) (fun _ _ _ h => h) (by rfl) ?y8 (by assumption) ?r8
                    case y8 => (intro w hSw; (try dsimp only at hSw); go_simp; (try with_reducible rfl))
                    try simp only [Act.put, List.setIfInBounds_toArray, List.set_cons_zero, List.set_cons_succ]
                    refine takeH9 (v := ?v9) (by kernel_rfl) (by kernel_rfl) (by kernel_rfl) (fun _ _ _ h => h) (by rfl) ?y9 (by assumption) ?r9
                    case y9 => (intro w hSw; (try dsimp only at hSw); go_simp; (try with_reducible rfl))
                    try simp only [Act.put, List.setIfInBounds_toArray, List.set_cons_zero, List.set_cons_succ]
                    refine takeH10 (v := ?v10) (by kernel_rfl) (by kernel_rfl) (by kernel_rfl) (fun _ _ _ h => h) (by rfl) ?y10 (by assumption) ?r10
                    case y10 => (intro w hSw; (try dsimp only at hSw); go_simp; (try with_reducible rfl))
                    try simp only [Act.put, List.setIfInBounds_toArray, List.set_cons_zero, List.set_cons_succ]
                    refine takeH11 (v := ?v11) (by kernel_rfl) (by kernel_rfl) (by kernel_rfl) (fun _ _ _ h => h) (by rfl) ?y11 (by assumption) ?r11
                    case y11 => (intro w hSw; (try dsimp only at hSw); go_simp; (try with_reducible rfl))
                    try simp only [Act.put, List.setIfInBounds_toArray, List.set_cons_zero, List.set_cons_succ]
                    refine takeH12 (v := ?v12) (by kernel_rfl) (by kernel_rfl) (by kernel_rfl) (fun _ _ _ h => h) (by rfl) ?y12 (by assumption) ?r12
                    case y12 => (intro w hSw; (try dsimp only at hSw); go_simp; (try with_reducible rfl))
                    try simp only [Act.put, List.setIfInBounds_toArray, List.set_cons_zero, List.set_cons_succ]
                    refine takeH13 (v := ?v13) (by kernel_rfl) (by kernel_rfl) (by kernel_rfl) (fun _ _ _ h => h) (by rfl) ?y13 (by assumption) ?r13
                    case y13 => (intro w hSw; (try dsimp only at hSw); go_simp; (try with_reducible rfl))
                    try simp only [Act.put, List.setIfInBounds_toArray, List.set_cons_zero, List.set_cons_succ]
                    refine takeH14 (v := ?v14) (by kernel_rfl) (by kernel_rfl) (by kernel_rfl) (fun _ _ _ h => h) (by rfl) ?y14 (by assumption) ?r14
                    case y14 => (intro w hSw; (try dsimp only at hSw); go_simp; (try with_reducible rfl))
                    try simp only [Act.put, List.setIfInBounds_toArray, List.set_cons_zero, List.set_cons_succ]
                    refine takeH15 (v := ?v15) (by kernel_rfl) (by kernel_rfl) (by kernel_rfl) (fun _ _ _ h => h) (by rfl) ?y15 (by assumption) ?r15
                    case y15 => (intro w hSw; (try dsimp only at hSw); go_simp; (try with_reducible rfl))
                    try simp only [Act.put, List.setIfInBounds_toArray, List.set_cons_zero, List.set_cons_succ]
                    refine takeH16 (v := ?v16) (by kernel_rfl) (by kernel_rfl) (by kernel_rfl) (fun _ _ _ h => h) (by rfl) ?y16 (by assumption) ?r16
                    case y16 => (intro w hSw; (try dsimp only at hSw); go_simp; (try with_reducible rfl))
                    try simp only [Act.put, List.setIfInBounds_toArray, List.set_cons_zero, List.set_cons_succ]
                    refine takeH17 (v := ?v17) (by kernel_rfl) (by kernel_rfl) (by kernel_rfl) (fun _ _ _ h => h) (by rfl) ?y17 (by assumption) ?r17
                    case y17 => (intro w hSw; (try dsimp only at hSw); go_simp; (try with_reducible rfl))
                    try simp only [Act.put, List.setIfInBounds_toArray, List.set_cons_zero, List.set_cons_succ]
                    refine skipH18 (by kernel_rfl) (by kernel_rfl) (by kernel_rfl) (fun _ _ _ h => h) (by rfl) (by assumption) ?_
                    try simp only [Act.put, List.setIfInBounds_toArray, List.set_cons_zero, List.set_cons_succ]
                    refine skipH19 (by kernel_rfl) (by kernel_rfl) (by kernel_rfl) (fun _ _ _ h => h) (by rfl) (by assumption) ?_
                    try simp only [Act.put, List.setIfInBounds_toArray, List.set_cons_zero, List.set_cons_succ]
                    refine skipH20 (by kernel_rfl) (by kernel_rfl) (by kernel_rfl) (fun _ _ _ h => h) (by rfl) (by assumption) ?_
                    try simp only [Act.put, List.setIfInBounds_toArray, List.set_cons_zero, List.set_cons_succ]
                    refine skipH21 (by kernel_rfl) (by kernel_rfl) (by kernel_rfl) (fun _ _ _ h => h) (by rfl) (by assumption) ?_
                    try simp only [Act.put, List.setIfInBounds_toArray, List.set_cons_zero, List.set_cons_succ]
                    refine skipH22 (by kernel_rfl) (by kernel_rfl) (by kernel_rfl) (fun _ _ _ h => h) (by rfl) (by assumption) ?_
                    try simp only [Act.put, List.setIfInBounds_toArray, List.set_cons_zero, List.set_cons_succ]
                    refine skipH23 (by kernel_rfl) (by kernel_rfl) (by kernel_rfl) (fun _ _ _ h => h) (by rfl) (by assumption) ?_
                    try simp only [Act.put, List.setIfInBounds_toArray, List.set_cons_zero, List.set_cons_succ]
                    refine skipH24 (by kernel_rfl) (by kernel_rfl) (by kernel_rfl) (fun _ _ _ h => h) (by rfl) (by assumption) ?_
                    try simp only [Act.put, List.setIfInBounds_toArray, List.set_cons_zero, List.set_cons_succ]
                    refine skipH25 (by kernel_rfl) (by kernel_rfl) (by kernel_rfl) (fun _ _ _ h => h) (by rfl) (by assumption) ?_
                    try simp only [Act.put, List.setIfInBounds_toArray, List.set_cons_zero, List.set_cons_succ]
                    refine takeH26 (v := ?v26) (by kernel_rfl) (by kernel_rfl) (by kernel_rfl) (fun _ _ _ h => h) (by rfl) ?y26 (by assumption) ?r26
                    case y26 => (intro w hSw; (try dsimp only at hSw); go_simp; (try with_reducible rfl))
                    try simp only [Act.put, List.setIfInBounds_toArray, List.set_cons_zero, List.set_cons_succ]
                    refine takeH27 (v := ?v27) (by kernel_rfl) (by kernel_rfl) (by kernel_rfl) (fun _ _ _ h => h) (by rfl) ?y27 (by assumption) ?r27
                    case y27 => (intro w hSw; (try dsimp only at hSw); go_simp; (try with_reducible rfl))
                    try simp only [Act.put, List.setIfInBounds_toArray, List.set_cons_zero, List.set_cons_succ]
                    refine wpAnyH_done (by kernel_rfl) ?_ _
                    have HX6 : Hid (Below w2.heap.size w2 x') := B5.out.trans (hx'.2.2.mono B5.out.size)
                    clear hx' FB
                    go_wp2_with fail
                    go_meet
                    exact ⟨by first | rfl | (rw [decide_eq_false (Int.not_lt.2 hle)]), HX6.out⟩
                case rest =>
                  obtain ⟨rfl, HB6⟩ := hcut
                  clear B5 OX5
                  have hk2 : (k : Int) + 1 ≤ 6000000000000 := by have := HKN.out; omega
                  go_wp2_with fail
                  go_roundw
                  case rel => exact ⟨k + 1, s2, HKN.out, rfl, by go_num, HB6.out, fun ⟨j, hj, hjx⟩ => by
                    by_cases e : j = k
                    · subst e; rw [HVV.out] at hjx; cases hjx; exact HS2.out.2 rfl
                    · exact HS2.out.1 (HS.out ⟨j, by omega, hjx⟩)⟩
                  case measure => have := HKN.out; simp [intOf]; omega
          · obtain rfl : k = n := by omega
            have hki : ¬ (k : Int) < (k : Int) := by omega
            have HSN : Hid (seen = true) := by
              obtain ⟨j, hj⟩ := List.getElem?_of_mem (BP.out.mem x (List.mem_of_getElem? HXX.out))
              exact HS.out ⟨j, by have := (List.getElem?_eq_some_iff.1 hj).1; have := HL.out; omega, hj⟩
            rw [HSN.out]
            clear hkn hk HS
            have hi2 : (i : Int) + 1 ≤ 6000000000000 := by have := HIN.out; omega
            go_wp2_with fail
            go_roundw
            case rel => exact ⟨i + 1, HIN.out, by go_num, HR.out⟩
            case measure => have := HIN.out; simp [intOf]; omega
    · obtain rfl : i = P.length := by omega
      have hii : ¬ (P.length : Int) < (P.length : Int) := by omega
      clear hi hin
      go_wp2_with fail
      go_loopw [10] (fun kv wr => ∃ (k : Nat), k ≤ n ∧ kv = .int .i64 k ∧ Hid (Below w2.heap.size w2 wr)) (fun kv _ => n - (intOf kv).toNat)
      case atStart => exact ⟨0, by omega, rfl, HR.out⟩
      case round =>
        obtain ⟨k, hk, rfl, HR⟩ := hrel
        by_cases hkn : k < n
        · obtain ⟨v, hv⟩ : ∃ v, L[k]? = some v := ⟨_, List.getElem?_eq_getElem (by have := HL.out; omega)⟩
          have hki : (k : Int) < (n : Int) := by omega
          have HVV := Lib.hid hv
          have HKN := Lib.hid hkn
          clear hv hkn hk
          go_wp2_with fail
          go_loopw [11, 12] (fun iv jv wr => ∃ (j : Nat) (inn : Bool), j ≤ P.length ∧ iv = .bool inn ∧ jv = .int .i64 j ∧ Hid (Below w2.heap.size w2 wr) ∧ Hid ((∃ i y, i < j ∧ P[i]? = some y ∧ y.n = v.n) → inn = true)) (fun _ jv _ => P.length - (intOf jv).toNat)
          case atStart => exact ⟨0, false, by omega, rfl, rfl, HR.out, fun ⟨i, y, hi, _⟩ => by omega⟩
          case round =>
            obtain ⟨j, inn, hj, rfl, rfl, HR, HI⟩ := hrel
            by_cases hjn : j < P.length
            · obtain ⟨y, hy⟩ : ∃ y, P[j]? = some y := ⟨_, List.getElem?_eq_getElem hjn⟩
              obtain ⟨ad, e, g0, g1, g2, g3⟩ := (R2.out.below HR.out).atAk HVV.out
              subst e
              obtain ⟨al, e, q0, q1, q2, q3⟩ := (Q2.out.below HR.out).atAk hy
              subst e
              have hji : (j : Int) < (P.length : Int) := by omega
              have hj2 : (j : Int) + 1 ≤ 6000000000000 := by omega
              have hki : (k : Int) < (n : Int) := by have := HKN.out; omega
              have HYY := Lib.hid hy
              have HJN := Lib.hid hjn
              clear hy hjn hj
              go_upto_region 27 with fail
              cases inn with
              | true =>
                go_quiet (fail)
                have HV : Hid (Below w2.heap.size w2 (wr.drewN nq)) := Below.drewN HR.out nq
                clear g0 g1 g2 g3 q0 q1 q2 q3
                go_wp2_with fail
                go_roundw
                case rel => exact ⟨j + 1, true, HJN.out, rfl, by go_num, HV.out, fun _ => rfl⟩
                case measure => have := HJN.out; simp [intOf]; omega
              | false =>
                go_quiet (fail)
                have HV : Hid (Below w2.heap.size w2 (wr.drewN nq)) := Below.drewN HR.out nq
                obtain ⟨bb, hbb⟩ : ∃ bb, (y.n == v.n) = bb := ⟨_, rfl⟩
                rw [hbb]
                have HBB := Lib.hid hbb
                clear hbb g0 g1 g2 g3 q0 q1 q2 q3
                go_wp2_with fail
                go_roundw
                case rel => exact ⟨j + 1, bb, HJN.out, rfl, by go_num, HV.out, fun ⟨i, z, hi, hz, hzn⟩ => by
                  by_cases e : i = j
                  · subst e; rw [HYY.out] at hz; cases hz; rw [← HBB.out]; exact beq_iff_eq.2 hzn
                  · exact absurd (HI.out ⟨i, z, by omega, hz, hzn⟩) (by simp)⟩
                case measure => have := HJN.out; simp [intOf]; omega
            · obtain rfl : j = P.length := by omega
              have hji : ¬ (P.length : Int) < (P.length : Int) := by omega
              have HIN : Hid (inn = true) := by
                obtain ⟨b, hb, hbn⟩ := BP.out.all v (List.mem_of_getElem? HVV.out)
                obtain ⟨i, hi⟩ := List.getElem?_of_mem hb
                exact HI.out ⟨i, b, (List.getElem?_eq_some_iff.1 hi).1, hi, hbn⟩
              rw [HIN.out]
              clear hjn hj HI
              have hk2 : (k : Int) + 1 ≤ 6000000000000 := by have := HKN.out; omega
              go_wp2_with fail
              go_roundw
              case rel => exact ⟨k + 1, HKN.out, by go_num, HR.out⟩
              case measure => have := HKN.out; simp [intOf]; omega
        · obtain rfl : k = n := by omega
          have hki : ¬ (k : Int) < (k : Int) := by omega
          clear hkn hk
          go_wp2_with fail
          have HV := HR
          clear HR
          go_loopw [13, 15] (fun vv kv wr => ∃ (m : Nat) (A' : Option Addr) (c' : Nat), m ≤ k ∧ vv = .slice A' m c' ∧ kv = .int .i64 m ∧ Hid (Below w2.heap.size w2 wr) ∧ Hid (wr.ownsRow w2.heap.size 29 4 (.slice A' m c') m (CL Ak.cells (turnd (withinF fr (k - 1)) L k m)))) (fun _ kv _ => k - (intOf kv).toNat)
          case atStart => exact ⟨0, none, 0, by omega, rfl, rfl, HV.out, World.ownsRow_nil _ _ _ _⟩
          case round =>
            obtain ⟨m, A', c', hm, rfl, rfl, HR, HO⟩ := hrel
            clear HV
            by_cases hmk : m < k
            · have hmi : (m : Int) < (k : Int) := by omega
              have HMK := Lib.hid hmk
              have e1 : IntKind.i64.wrap ((k : Int) - 1) = (k : Int) - 1 := by rw [IntKind.wrap_i64]; omega
              have hw := withinF_le fr (k - 1)
              obtain ⟨q, hq⟩ : ∃ q, (withinF fr (k - 1) + k - m) % k = q := ⟨_, rfl⟩
              have hqk : q < k := by rw [← hq]; exact Nat.mod_lt _ (by omega)
              obtain ⟨v, hv⟩ : ∃ v, L[q]? = some v := ⟨_, List.getElem?_eq_getElem (by have := HL.out; omega)⟩
              have HTS := Lib.hid (turnd_succ (r := withinF fr (k - 1)) (n := k) (m := m) (by rw [hq]; exact hv))
              obtain ⟨r, hr⟩ : ∃ r, withinF fr (k - 1) = r := ⟨_, rfl⟩
              rw [hr] at hq hw
              have hqi : (((r : Int) + (k : Int) - (m : Int)) % (k : Int)) = (q : Int) := by
                have : ((r + k - m : Nat) : Int) = (r : Int) + k - m := by omega
                rw [← this, ← hq]; exact (Int.natCast_emod _ _).symm
              obtain ⟨ad, e, g0, g1, g2, g3⟩ := (R2.out.below HR.out).atAk hv
              subst e
              have HRR := Lib.hid hr
              have hr0 : (r : Int) ≤ (k : Int) := by omega
              have hqk2 : (q : Int) < (k : Int) := by omega
              have hd0 : (0 : Int) ≤ (r : Int) + k - m := by omega
              clear hmk hm hr hq hv hw hqk
              go_wp2_with fail
              refine (within_fn fr _ (k - 1) _ (by have := HMK.out; omega) (by omega) HWF.out).mono ?_
              rintro e w' ⟨rfl, rfl⟩
              rw [HRR.out]
              go_wp2_with (at_builtin; refine wpList_app rfl (.tmp 137) (.tmp 151) rfl eltApiAck w2.heap.size (.slice A' m c') m (CL Ak.cells (turnd (withinF fr (k - 1)) L k m)) rfl (HO.out.alloc _) (some ⟨wr.heap.size, 0, none⟩) 1 1 v.cells rfl rfl (fun h => by cases h) (fresh_news wr v.cells.toArray 29) (Ak.one v) ?d3 ?d4 ?d5 ?_)
              case d3 => have := HSM.out; have := HMK.out; simp only [maxLen]; omega
              case d4 => have := HSM.out; have := HMK.out; omega
              case d5 => have := HR.out.size; simp; omega
              intro A9 c9 w9 ho9 hg9 _
              have B9 : Hid (Below w2.heap.size w2 w9) := below_own HR.out HR.out.size HO.out ((World.grownBy_alloc wr _ _).trans hg9)
              have O9 : Hid (w9.ownsRow w2.heap.size 29 4 (.slice A9 (m + 1) c9) (m + 1) (CL Ak.cells (turnd (withinF fr (k - 1)) L k (m + 1)))) := by rw [HTS.out, CL_push]; exact ho9
              have hm2 : (m : Int) + 1 ≤ 6000000000000 := by have := HMK.out; omega
              clear ho9 hg9 g0 g1 g2 g3 hqi hd0 HO HR hmi
              go_wp2_with fail
              go_roundw
              case rel => exact ⟨m + 1, A9, c9, HMK.out, rfl, by go_num, B9.out, O9.out⟩
              case measure => have := HMK.out; simp [intOf]; omega
            · obtain rfl : m = k := by omega
              have hmi : ¬ (m : Int) < (m : Int) := by omega
              obtain ⟨M, hM⟩ : ∃ M, turnd (withinF fr (m - 1)) L m m = M := ⟨_, rfl⟩
              have HMM : Hid (∀ v, v ∈ L ↔ v ∈ M) := fun v => by rw [← hM]; exact (turnd_mem HL.out (withinF_le _ _) v).symm
              have HML : Hid (M.length = m) := by
                have h1 := HO.out.1
                rw [CL_len (size := 4) (fun _ => rfl), hM] at h1
                simp only [Hid]; omega
              rw [hM] at HO
              have RM := Lib.hid (rdAk HO.out HML.out)
              have HPM : Hid (putAll M = P) := by rw [← HPE.out]; exact (best_putAll M).one (best_putAll L) (fun v => (HMM.out v).symm)
              clear hmk hm hM HO
              go_wp2_with fail
              refine (put_any A' m c' M _ RM.out HSM.out).mono ?_
              rw [HPM.out]
              rintro e w5 ⟨A5, c5, rfl, hb5, ho5⟩
              have B5 : Hid (Below w2.heap.size w2 w5) := HR.out.trans (hb5.mono HR.out.size)
              have Q5 := Lib.hid (rdAk ho5 rfl)
              clear hb5 ho5 RM HR
              go_wp2_with fail
              go_loopw [17, 18] (fun vv kv wr => ∃ (k : Nat) (A' : Option Addr) (c' : Nat), k ≤ m ∧ vv = .slice A' P.length c' ∧ kv = .int .i64 k ∧ Hid (Below w5.heap.size w5 wr) ∧ Hid (RdC 4 Ak.cells wr A' P.length P)) (fun _ kv _ => m - (intOf kv).toNat)
              case atStart => exact ⟨0, A5, c5, by omega, rfl, rfl, Below.refl _ _, Q5.out⟩
              case round =>
                obtain ⟨k, A7, c7, hk, rfl, rfl, HR, HO⟩ := hrel
                by_cases hkn : k < m
                · obtain ⟨v, hv⟩ : ∃ v, L[k]? = some v := ⟨_, List.getElem?_eq_getElem (by have := HL.out; omega)⟩
                  obtain ⟨ad, e, g0, g1, g2, g3⟩ := (R2.out.below (B5.out.trans (HR.out.mono B5.out.size))).atAk hv
                  subst e
                  have hki : (k : Int) < (m : Int) := by omega
                  have hk2 : (k : Int) + 1 ≤ 6000000000000 := by omega
                  have HSAME : Hid (putF Ak.n Ak.wins P v = P) := by rw [← HPE.out]; exact putF_same (List.mem_of_getElem? hv)
                  have HKN := Lib.hid hkn
                  clear hv hkn hk
                  go_wp2_with fail
                  refine (putAck_fn A7 P.length c7 P v _ HO.out (by have := HSM.out; omega)).mono ?_
                  rw [HSAME.out]
                  rintro e w8 ⟨A8, c8, rfl, hb8, ho8⟩
                  have B8 : Hid (Below w5.heap.size w5 w8) := HR.out.trans (hb8.mono HR.out.size)
                  have Q8 := Lib.hid (rdAk ho8 rfl)
                  clear hb8 ho8 HO HR g0 g1 g2 g3
                  go_wp2_with fail
                  go_roundw
                  case rel => exact ⟨k + 1, A8, c8, HKN.out, rfl, by go_num, B8.out, Q8.out⟩
                  case measure => have := HKN.out; simp [intOf]; omega
                · obtain rfl : k = m := by omega
                  have hki : ¬ (k : Int) < (k : Int) := by omega
                  have hwr : Hid (Below w2.heap.size w2 wr) := B5.out.trans (HR.out.mono B5.out.size)
                  clear hkn hk
                  go_wp2_with fail
                  refine (sameAcks_any Al A5 P.length cl c5 P _ (Q2.out.below hwr.out) (Q5.out.below HR.out)).mono ?_
                  rintro e w8 ⟨rfl, q, rfl⟩
                  go_wp2_with fail
                  refine (sameAcks_any Al A7 P.length cl c7 P _ ((Q2.out.below hwr.out).drewN q) (HO.out.drewN q)).mono ?_
                  rintro e w8 ⟨rfl, q2, rfl⟩
                  go_wp2_with fail
                  go_ret
                  exact ⟨rfl, Below.drewN (B2.out.trans (hwr.out.mono B2.out.size)) (q + q2)⟩
end Go.Proofs.Ytjjobgolpedgeaa
