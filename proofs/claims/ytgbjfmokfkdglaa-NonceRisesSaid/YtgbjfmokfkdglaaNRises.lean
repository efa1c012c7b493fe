/-
  The walk of NonceRises.
-/
import Derived.Test.YtgbjfmokfkdglaaNRisesP
import Derived.Test.YtgbjfmokfkdglaaNAlone
import Derived.Test.YtgbjfmokfkdglaaNOrders
set_option linter.unusedVariables false
set_option linter.unusedSimpArgs false
namespace Go.Proofs.Ytgbjfmokfkdglaa
open Go.RowKit

theorem Rst.own' {W wr : World} {B : Nat} {A : Option Addr} {cp : Nat} {L : List (Nat × Nat)} {now m q N : Nat} (h : Rst W wr B A cp L now m q) (hN : L.length = N) : wr.ownsRow (B + 2) 25 2 (.slice A N cp) N (DV L) := hN ▸ h.own
theorem Rst.push' {W wr w' : World} {B : Nat} {A A' : Option Addr} {cp cp' : Nat} {L : List (Nat × Nat)} {now m q N : Nat} (h : Rst W wr B A cp L now m q) (hN : L.length = N) (x : Nat × Nat) (g : wr.grownBy w' (Value.slice A N cp).ownBlock)
    (o : w'.ownsRow (B + 2) 25 2 (.slice A' (N + 1) cp') (N + 1) (DV L ++ dv x)) : Rst W w' B A' cp' (L ++ [x]) now m q := by
  subst hN
  exact h.push x g o
theorem kept_pair {w w' : World} (hb : Below w.heap.size w w') {a b : Addr} {x y : Value} (h : w.cell? a = some x ∧ w.cell? b = some y) : w'.cell? a = some x ∧ w'.cell? b = some y :=
  ⟨(hb.cell (World.block_lt_of_cell? w _ h.1)).trans h.1, (hb.cell (World.block_lt_of_cell? w _ h.2)).trans h.2⟩
theorem two_news (w : World) (x y : Value) (t : TypeId) : ∀ ad, some (⟨w.heap.size, 0, none⟩ : Addr) = some ad → ∀ (j : Nat) (u : Value), [x, y][j]? = some u → (w.alloc (.cells #[x, y] t)).cell? (ad.add j) = some u := by
  intro ad e
  cases e
  exact World.news_of_block (cs := #[x, y]) (t := t) (fr := (0, 0)) (heap_alloc_new w _)
theorem nowQ (c : Nat) (a : Nat) (w : World) (h : Ob w c [.int .u64 (a : Nat)]) : ∀ nq, Calls Try.prog 21 #[.pointer (some ⟨c, 0, none⟩)] (w.drewN nq) fun e w' => e = .returned (.int .u64 (a : Nat)) ∧ w' = w.drewN nq := fun nq =>
  (now_any c a (w.drewN nq) (h.cell 0 rfl)).mono fun e w' h => ⟨h.1, h.2.symm⟩
set_option maxRecDepth 100000 in
set_option maxHeartbeats 3200000 in
theorem nonceRises_walk (a : Int) (A : Option Addr) (n c : Nat) (l : List BeatV) (W : World) (wa : (Lit.int .u64 a).wf = true) (hl : RdC 2 BeatV.cells W A n l) (hA : A = none → n = 0 ∧ c = 0) (hok : ∀ x ∈ l, x.Ok) (hsm : n * 16 ≤ 140737488351232) :
    Calls Try.prog 4 #[.int .u64 a, .slice A n c] W fun e w' => e = .returned (.bool true) ∧ Below W.heap.size W w' := by
  have ba := bounds_u64 wa
  obtain ⟨a, rfl⟩ : ∃ k : Nat, a = (k : Int) := ⟨a.toNat, by omega⟩
  have HLA := Lib.hid (show a < 18446744073709551616 by omega)
  have HL := Lib.hid hl
  have HOK := Lib.hid hok
  have HSM := Lib.hid hsm
  have hnn : (n : Int) ≤ 9223372036854775807 := by have := hl.le; omega
  clear wa ba hl hA hok hsm
  generalize hB : W.heap.size = B
  have HB := Lib.hid hB
  go_enter Try.func4, Try.ntmps4
  go_wp2_with fail
  refine (newClock_at (a : Nat) W (B + 0) HB.out).mono ?_
  rintro e w1 ⟨rfl, g, z, o⟩
  have z1 : Hid (w1.heap.size = B + 1) := z
  have o1 : Hid (Ob w1 (B + 0) [.int .u64 (a : Nat)]) := o
  have d1 : Hid (Below B W w1) := grown_below_drop g (by have := HB.out; omega)
  clear g z o
  go_wp2_with fail
  refine (newPairs_at (B + 0) w1 (B + 1) z1.out).mono ?_
  rintro e w2 ⟨rfl, g, z, o⟩
  have R2 : Hid (Rst W w2 B none 0 [] a 0 0) := ⟨o1.out.kept g (by simp), o, World.ownsRow_nil _ _ _ _, d1.out.trans (grown_below_drop g (by have := z1.out; omega)), by omega⟩
  clear g z o z1 o1 d1
  go_wp2_with fail
  refine (works_any w2).mono ?_
  rintro e w3 ⟨rfl, hw⟩
  have R3 := Lib.hid (R2.out.grow (grown_of_below hw none))
  clear hw R2
  go_wp2_with fail
  go_loopw [8, 9, 10, 11, 12] (fun mv lv wv bv i wr => ∃ (k : Nat) (G : Option Addr) (cp : Nat) (L : List (Nat × Nat)) (last now m q : Nat) (wi br : Bool), k ≤ n ∧ mv = .slice G L.length cp ∧ lv = .int .u64 last ∧ wv = .bool wi ∧ bv = .bool br ∧ i = .int .i64 k ∧
    Hid (Rst W wr B G cp L now m q ∧ Rinv now m q L last wi ∧ L.length ≤ k ∧ now < 18446744073709551616)) (fun _ _ _ _ i _ => n - (intOf i).toNat)
  case atStart => exact ⟨0, none, 0, [], 0, a, 0, 0, false, false, by omega, rfl, rfl, rfl, rfl, rfl, R3.out, Rinv.start a, by simp, HLA.out⟩
  case round =>
    obtain ⟨k, G, cp, L, last, now, m, q, wi, br, hk, rfl, rfl, rfl, rfl, rfl, HR⟩ := hrel
    clear R3
    by_cases hkn : k < n
    · obtain ⟨x, hx⟩ : ∃ x, l[k]? = some x := ⟨_, List.getElem?_eq_getElem (by have := HL.out.len; omega)⟩
      obtain ⟨ad, rfl, hc⟩ := HL.out.cell k x hx
      have hxo := HOK.out x (List.mem_of_getElem? hx)
      obtain ⟨kd, by_⟩ := x
      have hb : ∀ a v, W.cell? a = some v → wr.cell? a = some v := fun p v hp => (HR.out.1.bel.cell (by rw [← hB]; exact World.block_lt_of_cell? W p hp)).trans hp
      have g0 : wr.cell? (ad.add (k * 2)) = some (.int .i64 kd) := hb _ _ (hc 0 _ rfl)
      have g1 : wr.cell? ⟨(ad.add (k * 2)).block, (ad.add (k * 2)).off + 1, none⟩ = some (.int .u64 by_) := by
        have h1 := hb _ _ (hc 1 _ rfl)
        rw [← add_add] at h1
        exact h1
      have e1 : IntKind.i64.wrap ((k : Int) + 1) = (k : Int) + 1 := by rw [IntKind.wrap_i64]; omega
      have E1 := Lib.hid e1
      have bb := bounds_u64 hxo.2
      obtain ⟨by_, rfl⟩ : ∃ k : Nat, by_ = (k : Int) := ⟨by_.toNat, by simp only at bb; omega⟩
      have BB := Lib.hid (show by_ < 18446744073709551616 by simp only at bb; omega)
      clear hc hx hb e1 hxo bb
      by_cases hk0 : kd = 0
      · subst hk0
        go_wp2_with fail
        refine (pass_any (B + 0) now by_ wr HR.out.1.oc HR.out.2.2.2 BB.out).mono ?_
        rintro e v1 ⟨rfl, g, _, o⟩
        have R1 := Lib.hid (HR.out.1.clock g o)
        clear g o g0 g1
        have e1 := E1.out
        go_wp2
        go_roundw
        case rel =>
          refine ⟨k + 1, G, cp, L, last, _, m, q, wi, br, by omega, rfl, rfl, rfl, rfl, by go_num, R1.out, HR.out.2.1.pass ?_, by have := HR.out.2.2.1; omega, cPass_lt _ _ HR.out.2.2.2⟩
          unfold cPass; split <;> simp only <;> omega
        case measure => simp [intOf]; omega
      · have hb0 : (kd == 0) = false := beq_eq_false_iff_ne.2 hk0
        by_cases hk1 : kd = 1
        · subst hk1
          go_wp2_with fail
          refine (wipe_any (B + 1) (B + 0) _ _ wr HR.out.1.op).mono ?_
          rintro e v1 ⟨rfl, g, _, o⟩
          have R1 := Lib.hid (HR.out.1.pairs g o)
          clear g o g0 g1
          have e1 := E1.out
          go_wp2
          go_roundw
          case rel => exact ⟨k + 1, G, cp, L, last, now, 0, 0, true, br, by omega, rfl, rfl, rfl, rfl, by go_num, R1.out, HR.out.2.1.wipe, by have := HR.out.2.2.1; omega, HR.out.2.2.2⟩
          case measure => simp [intOf]; omega
        · have hb1 : (kd == 1) = false := beq_eq_false_iff_ne.2 hk1
          clear hk0 hk1
          by_cases hfull : m = now ∧ q = 65535
          · obtain ⟨rfl, hq⟩ := hfull
            have HQ : Hid (q ≤ 65535 ∧ 65535 ≤ q) := ⟨Nat.le_of_eq hq, Nat.le_of_eq hq.symm⟩
            clear hq
            obtain ⟨rfl, hLL, rfl⟩ := (show Rinv m m 65535 L last wi from (show q = 65535 by have := HQ.out; omega) ▸ HR.out.2.1).full rfl
            have hL1 : ¬ (L.length : Int) < 65535 := by omega
            have hL2 : decide ((L.length : Int) < 65535) = false := decide_eq_false hL1
            clear hLL
            go_wp2_with fail
            refine (draw_full (B + 1) (B + 0) last last q wr HR.out.1.oc HR.out.1.op (by omega) rfl (by have := HQ.out; omega)).mono ?_
            rintro e v1 ⟨rfl, g, o⟩
            rw [show (65535 : Nat) = q by have := HQ.out; omega] at o
            have R1 := Lib.hid (HR.out.1.pairs g o)
            clear g o g0 g1
            go_wp2_with fail
            have R2 := Lib.hid (R1.out.grow (World.grownBy_alloc v1 (.cells #[.int .u64 0, .int .u64 0] 25) none))
            refine (now_any (B + 0) (last : Nat) _ (R2.out.oc.cell 0 rfl)).mono ?_
            rintro e w' ⟨rfl, rfl⟩
            have e1 := E1.out
            go_wp2
            go_roundw
            case rel => exact ⟨k + 1, G, cp, L, last, last, last, q, false, br, by omega, rfl, rfl, rfl, rfl, by go_num, R2.out, HR.out.2.1, by have := HR.out.2.2.1; omega, HR.out.2.2.2⟩
            case measure => simp [intOf]; omega
          · have hnx := nx_le HR.out.2.1.1 hfull
            have hnx0 : 1 ≤ nx now m q := by unfold nx; omega
            have F := draw_any (B + 1) (B + 0) now m q wr HR.out.1.oc HR.out.1.op (by omega) HR.out.2.1.1
            rw [pDraw_ok hfull] at F
            have F := Lib.hid F
            obtain ⟨x, hx⟩ : ∃ x, nx now m q = x := ⟨_, rfl⟩
            rw [hx] at F hnx hnx0
            have HX := Lib.hid hx
            have HX1 := Lib.hid hnx
            clear hx hfull
            go_wp2_with fail
            refine F.out.mono ?_
            clear F
            rintro e v1 ⟨rfl, g, o⟩
            have R1 := Lib.hid (HR.out.1.pairs g o)
            clear g o g0 g1
            go_wp2_with fail
            have R2 := Lib.hid (R1.out.grow (World.grownBy_alloc v1 (.cells #[.int .u64 (now : Nat), .int .u64 (x : Nat)] 25) none))
            have O2 := Lib.hid (Ob.fresh v1 #[.int .u64 (now : Nat), .int .u64 (x : Nat)] 25)
            have L2 : Hid (B + 2 ≤ v1.heap.size) := R1.out.sz
            generalize hv2 : v1.alloc (.cells #[.int .u64 (now : Nat), .int .u64 (x : Nat)] 25) = v2 at R2 O2 ⊢
            have HV2 := Lib.hid hv2
            generalize hb2 : v1.heap.size = b2 at O2 L2 ⊢
            clear hv2 R1
            have y0 := O2.out.cell 0 rfl
            have y1 := O2.out.cell 1 rfl
            have hx1 : ¬ (x : Int) < 1 := by omega
            have Q := Lib.hid (nowQ B now v2 R2.out.oc)
            go_quiet ((go_at_call 21; (with_reducible exact Calls.quiet_of_same (Q.out _))))
            generalize hv3 : v2.drewN nq = v3
            have R3 : Hid (Rst W v3 B G cp L now now x) := hv3 ▸ R2.out.grow (grown_drewN (World.grownBy.refl _ _) _)
            have O3 : Hid (Ob v3 b2 [.int .u64 (now : Nat), .int .u64 (x : Nat)]) := hv3 ▸ O2.out.drewN _
            clear hv3 HV2 R2 O2 Q y0 y1 hx1
            have y0 := O3.out.cell 0 rfl
            have y1 := O3.out.cell 1 rfl
            by_cases hag : (wi = true ∧ L ≠ []) ∧ now = last
            · obtain ⟨⟨rfl, hL0⟩, rfl⟩ := hag
              obtain ⟨ha1, ha2⟩ := HR.out.2.1.again rfl hL0
              have hx2 : x = 1 := HX.out.symm.trans ha1
              subst hx2
              have HL0 := Lib.hid ha2
              have hll : (0 : Int) < L.length := by have := List.length_pos_iff.2 hL0; omega
              clear hL0 ha1 ha2
              go_wp2_with fail
              refine (now_any B (now : Nat) v3 (R3.out.oc.cell 0 rfl)).mono ?_
              rintro e w' ⟨rfl, rfl⟩
              go_wp2_with fail
              refine (among_any (B + 2) _ G L.length cp L now 1 v3 R3.out.own rfl HL0.out).mono ?_
              rintro e v4 ⟨rfl, hw4⟩
              have R4 := Lib.hid (R3.out.grow (grown_of_below hw4 none))
              have O4 := Lib.hid (O3.out.below hw4)
              clear R3 O3 hw4 y0 y1 hll
              have y0 := O4.out.cell 0 rfl
              have y1 := O4.out.cell 1 rfl
              go_wp2_with (at_builtin; refine wpList_app rfl (.tmp 115) (.tmp 117) rfl eltDraw (B + 2) (.slice G L.length cp) L.length (DV L) rfl (R4.out.own.alloc _) (some ⟨v4.heap.size, 0, none⟩) 1 1 [.int .u64 (now : Nat), .int .u64 1] rfl rfl (fun h => by cases h) (two_news v4 _ _ _) (DV_one [(now, 1)]) ?d3 ?d4 ?d5 ?_)
              case d3 => have := HR.out.2.2.1; have := HSM.out; simp only [maxLen]; omega
              case d4 => have := HR.out.2.2.1; have := HSM.out; omega
              case d5 => have := R4.out.sz; simp; omega
              intro G' cp' v9 ho9 hg9 _
              have R9 : Hid (Rst W v9 B G' cp' (L ++ [(now, 1)]) now now 1) := R4.out.push (now, 1) ((World.grownBy_alloc v4 _ _).trans hg9) ho9
              clear ho9 hg9 y0 y1
              go_wp2_with fail
              refine (now_any B (now : Nat) v9 (R9.out.oc.cell 0 rfl)).mono ?_
              rintro e w' ⟨rfl, rfl⟩
              have e1 := E1.out
              go_wp2
              go_roundw
              case rel =>
                have hlen : (L ++ [(now, 1)]).length = L.length + 1 := by simp
                exact ⟨k + 1, G', cp', L ++ [(now, 1)], now, now, now, 1, false, true, by omega, by rw [hlen], rfl, rfl, rfl, by go_num, R9.out, (HX.out ▸ HR.out.2.1.next (by rw [HX.out]; exact HX1.out)), by rw [hlen]; have := HR.out.2.2.1; omega, HR.out.2.2.2⟩
              case measure => simp [intOf]; omega
            · -- WAYS
              by_cases hL0 : L = []
              · have hll : ¬ (0 : Int) < L.length := by rw [hL0]; simp
                have hll2 : decide ((0 : Int) < L.length) = false := decide_eq_false hll
                clear hL0 hag
                cases br with
                | true =>
                  go_wp2_with fail
                  go_quiet (fail)
                  generalize hv5 : v3.drewN nq = v5
                  have R5 : Hid (Rst W v5 B G cp L now now x) := hv5 ▸ R3.out.grow (grown_drewN (World.grownBy.refl _ _) _)
                  have O5 : Hid (Ob v5 b2 [.int .u64 (now : Nat), .int .u64 (x : Nat)]) := hv5 ▸ O3.out.drewN _
                  clear hv5 R3 O3 y0 y1
                  have y0 := O5.out.cell 0 rfl
                  have y1 := O5.out.cell 1 rfl
                  go_wp2_with (at_builtin; refine wpList_app rfl (.tmp 115) (.tmp 117) rfl eltDraw (B + 2) (.slice G L.length cp) (L.length) (DV L) rfl ((R5.out.own' rfl).alloc _) (some ⟨v5.heap.size, 0, none⟩) 1 1 [.int .u64 (now : Nat), .int .u64 (x : Nat)] rfl rfl (fun h => by cases h) (two_news v5 _ _ _) (DV_one [(now, x)]) ?d3 ?d4 ?d5 ?_)
                  case d3 => have hN9 : L.length = L.length := rfl; have := HR.out.2.2.1; have := HSM.out; simp only [maxLen]; omega
                  case d4 => have hN9 : L.length = L.length := rfl; have := HR.out.2.2.1; have := HSM.out; omega
                  case d5 => have := R5.out.sz; simp; omega
                  intro G' cp' v9 ho9 hg9 _
                  have R9 : Hid (Rst W v9 B G' cp' (L ++ [(now, x)]) now now x) := R5.out.push' rfl (now, x) ((World.grownBy_alloc v5 _ _).trans hg9) ho9
                  clear ho9 hg9
                  go_wp2_with fail
                  refine (now_any B (now : Nat) v9 (R9.out.oc.cell 0 rfl)).mono ?_
                  rintro e w' ⟨rfl, rfl⟩
                  have e1 := E1.out
                  go_wp2
                  go_roundw
                  case rel =>
                    have hlen : (L ++ [(now, x)]).length = L.length + 1 := by simp
                    exact ⟨k + 1, G', cp', L ++ [(now, x)], now, now, now, x, false, true, by omega, by rw [hlen, show L.length = L.length from rfl], rfl, rfl, rfl, by go_num, R9.out, (HX.out ▸ HR.out.2.1.next (by rw [HX.out]; exact HX1.out)), by rw [hlen]; have := HR.out.2.2.1; omega, HR.out.2.2.2⟩
                  case measure => simp [intOf]; omega
                | false =>
                  go_wp2_with fail
                  go_quiet (fail)
                  generalize hv5 : v3.drewN nq = v5
                  have R5 : Hid (Rst W v5 B G cp L now now x) := hv5 ▸ R3.out.grow (grown_drewN (World.grownBy.refl _ _) _)
                  have O5 : Hid (Ob v5 b2 [.int .u64 (now : Nat), .int .u64 (x : Nat)]) := hv5 ▸ O3.out.drewN _
                  clear hv5 R3 O3 y0 y1
                  have y0 := O5.out.cell 0 rfl
                  have y1 := O5.out.cell 1 rfl
                  go_wp2_with (at_builtin; refine wpList_app rfl (.tmp 115) (.tmp 117) rfl eltDraw (B + 2) (.slice G L.length cp) (L.length) (DV L) rfl ((R5.out.own' rfl).alloc _) (some ⟨v5.heap.size, 0, none⟩) 1 1 [.int .u64 (now : Nat), .int .u64 (x : Nat)] rfl rfl (fun h => by cases h) (two_news v5 _ _ _) (DV_one [(now, x)]) ?d3 ?d4 ?d5 ?_)
                  case d3 => have hN9 : L.length = L.length := rfl; have := HR.out.2.2.1; have := HSM.out; simp only [maxLen]; omega
                  case d4 => have hN9 : L.length = L.length := rfl; have := HR.out.2.2.1; have := HSM.out; omega
                  case d5 => have := R5.out.sz; simp; omega
                  intro G' cp' v9 ho9 hg9 _
                  have R9 : Hid (Rst W v9 B G' cp' (L ++ [(now, x)]) now now x) := R5.out.push' rfl (now, x) ((World.grownBy_alloc v5 _ _).trans hg9) ho9
                  clear ho9 hg9
                  go_wp2_with fail
                  refine (now_any B (now : Nat) v9 (R9.out.oc.cell 0 rfl)).mono ?_
                  rintro e w' ⟨rfl, rfl⟩
                  have e1 := E1.out
                  go_wp2
                  go_roundw
                  case rel =>
                    have hlen : (L ++ [(now, x)]).length = L.length + 1 := by simp
                    exact ⟨k + 1, G', cp', L ++ [(now, x)], now, now, now, x, false, false, by omega, by rw [hlen, show L.length = L.length from rfl], rfl, rfl, rfl, by go_num, R9.out, (HX.out ▸ HR.out.2.1.next (by rw [HX.out]; exact HX1.out)), by rw [hlen]; have := HR.out.2.2.1; omega, HR.out.2.2.2⟩
                  case measure => simp [intOf]; omega
              · have hw3 : ¬ (wi = true ∧ now = last) := fun e => hag ⟨⟨e.1, hL0⟩, e.2⟩
                obtain ⟨lo, hlo, hcmp⟩ := HR.out.2.1.rise hL0 hw3
                rw [HX.out] at hcmp
                have hll : (0 : Int) < L.length := by have := List.length_pos_iff.2 hL0; omega
                clear hag
                cases wi with
                | false =>
                  clear hL0 hw3
                  cases br with
                  | true =>
                    go_wp2_with fail
                    go_quiet (fail)
                    generalize hv5 : v3.drewN nq = v5
                    have R5 : Hid (Rst W v5 B G cp L now now x) := hv5 ▸ R3.out.grow (grown_drewN (World.grownBy.refl _ _) _)
                    have O5 : Hid (Ob v5 b2 [.int .u64 (now : Nat), .int .u64 (x : Nat)]) := hv5 ▸ O3.out.drewN _
                    clear hv5 R3 O3 y0 y1
                    have y0 := O5.out.cell 0 rfl
                    have y1 := O5.out.cell 1 rfl
                    go_wp2_with (at_builtin; refine wpList_app rfl (.tmp 115) (.tmp 117) rfl eltDraw (B + 2) (.slice G L.length cp) (L.length) (DV L) rfl ((R5.out.own' rfl).alloc _) (some ⟨v5.heap.size, 0, none⟩) 1 1 [.int .u64 (now : Nat), .int .u64 (x : Nat)] rfl rfl (fun h => by cases h) (two_news v5 _ _ _) (DV_one [(now, x)]) ?d3 ?d4 ?d5 ?_)
                    case d3 => have hN9 : L.length = L.length := rfl; have := HR.out.2.2.1; have := HSM.out; simp only [maxLen]; omega
                    case d4 => have hN9 : L.length = L.length := rfl; have := HR.out.2.2.1; have := HSM.out; omega
                    case d5 => have := R5.out.sz; simp; omega
                    intro G' cp' v9 ho9 hg9 _
                    have R9 : Hid (Rst W v9 B G' cp' (L ++ [(now, x)]) now now x) := R5.out.push' rfl (now, x) ((World.grownBy_alloc v5 _ _).trans hg9) ho9
                    clear ho9 hg9
                    go_wp2_with fail
                    refine (now_any B (now : Nat) v9 (R9.out.oc.cell 0 rfl)).mono ?_
                    rintro e w' ⟨rfl, rfl⟩
                    have e1 := E1.out
                    go_wp2
                    go_roundw
                    case rel =>
                      have hlen : (L ++ [(now, x)]).length = L.length + 1 := by simp
                      exact ⟨k + 1, G', cp', L ++ [(now, x)], now, now, now, x, false, true, by omega, by rw [hlen, show L.length = L.length from rfl], rfl, rfl, rfl, by go_num, R9.out, (HX.out ▸ HR.out.2.1.next (by rw [HX.out]; exact HX1.out)), by rw [hlen]; have := HR.out.2.2.1; omega, HR.out.2.2.2⟩
                    case measure => simp [intOf]; omega
                  | false =>
                    obtain ⟨g, rfl, _, _, g0, g1⟩ := own_draw R3.out.own rfl hlo
                    obtain ⟨j, hj⟩ : ∃ j, L.length = j + 1 := ⟨L.length - 1, by omega⟩
                    have HJ : Hid (L.length ≤ j + 1 ∧ j + 1 ≤ L.length) := ⟨Nat.le_of_eq hj, Nat.le_of_eq hj.symm⟩
                    have hN : ∀ (P : Prop), (L.length = j + 1 → P) → P := fun P h => h (by have := HJ.out; omega)
                    have hjb : (j : Int) < 9223372036854775807 := by have := HR.out.2.2.1; omega
                    have e7 : IntKind.i64.wrap (j : Int) = (j : Int) := by rw [IntKind.wrap_i64]; omega
                    have e8 : (0 : Int) ≤ (j : Int) := by omega
                    have e9 : (j : Int) < (j : Int) + 1 := by omega
                    have e10 : (0 : Int) < (j : Int) + 1 := by omega
                    rw [show L.length - 1 = j by omega] at g0 g1
                    rw [hj]
                    clear hll hj hN
                    have z3 : Below v3.heap.size v3 v3 := Below.refl _ _
                    have F : Hid (∀ z, (z.cell? ⟨b2, 0, none⟩ = some (.int .u64 (now : Nat)) ∧ z.cell? ⟨b2, 1, none⟩ = some (.int .u64 (x : Nat))) ∧ (z.cell? ⟨g, j * 2, none⟩ = some (.int .u64 (last : Nat)) ∧ z.cell? ⟨g, j * 2 + 1, none⟩ = some (.int .u64 (lo : Nat))) ∧ Below v3.heap.size v3 z → Calls Try.prog 23 #[.agg #[.int .u64 (last : Nat), .int .u64 (lo : Nat)], .agg #[.int .u64 (now : Nat), .int .u64 (x : Nat)]] z fun e z' => e = .returned (.int .i64 (-1)) ∧ (z'.cell? ⟨b2, 0, none⟩ = some (.int .u64 (now : Nat)) ∧ z'.cell? ⟨b2, 1, none⟩ = some (.int .u64 (x : Nat))) ∧ (z'.cell? ⟨g, j * 2, none⟩ = some (.int .u64 (last : Nat)) ∧ z'.cell? ⟨g, j * 2 + 1, none⟩ = some (.int .u64 (lo : Nat))) ∧ Below v3.heap.size v3 z') := fun z hz => by
                      refine (compare_any last lo now x z).mono ?_
                      rintro e z' ⟨rfl, hb⟩
                      exact ⟨by rw [hcmp], kept_pair hb hz.1, kept_pair hb hz.2.1, hz.2.2.trans (hb.mono hz.2.2.size)⟩
                    have hr1 : ¬ (0 : Int) ≤ -1 := by decide
                    clear hlo hcmp
                    go_wp2_with fail
                    go_region_held3 (fun x' => (x'.cell? ⟨b2, 0, none⟩ = some (.int .u64 (now : Nat)) ∧ x'.cell? ⟨b2, 1, none⟩ = some (.int .u64 (x : Nat))) ∧ (x'.cell? ⟨g, j * 2, none⟩ = some (.int .u64 (last : Nat)) ∧ x'.cell? ⟨g, j * 2 + 1, none⟩ = some (.int .u64 (lo : Nat))) ∧ Below v3.heap.size v3 x') (first | exact ⟨⟨y0, y1⟩, ⟨g0, g1⟩, Below.drew z3⟩ | assumption | go_keep)
                      (first | (go_at_call 23; refine (F.out _ (by first | assumption | (simp [*]))).mono ?_; rintro e x' ⟨rfl, hx'⟩))
                    have HX5 := Lib.hid hx'
                    clear hx'
                    have R5 : Hid (Rst W x' B _ cp L now now x) := R3.out.grow (grown_of_below HX5.out.2.2 none)
                    have O5 : Hid (Ob x' b2 [.int .u64 (now : Nat), .int .u64 (x : Nat)]) := O3.out.below HX5.out.2.2
                    clear R3 O3 y0 y1 g0 g1 z3 e7 e8 e9 e10 hjb F
                    have y0 := O5.out.cell 0 rfl
                    have y1 := O5.out.cell 1 rfl
                    go_wp2_with (at_builtin; refine wpList_app rfl (.tmp 115) (.tmp 117) rfl eltDraw (B + 2) (.slice (some ⟨g, 0, none⟩) (j + 1) cp) ((j + 1)) (DV L) rfl ((R5.out.own' (by have := HJ.out; omega)).alloc _) (some ⟨x'.heap.size, 0, none⟩) 1 1 [.int .u64 (now : Nat), .int .u64 (x : Nat)] rfl rfl (fun h => by cases h) (two_news x' _ _ _) (DV_one [(now, x)]) ?d3 ?d4 ?d5 ?_)
                    case d3 => have hN9 : L.length = (j + 1) := (by have := HJ.out; omega); have := HR.out.2.2.1; have := HSM.out; simp only [maxLen]; omega
                    case d4 => have hN9 : L.length = (j + 1) := (by have := HJ.out; omega); have := HR.out.2.2.1; have := HSM.out; omega
                    case d5 => have := R5.out.sz; simp; omega
                    intro G' cp' v9 ho9 hg9 _
                    have R9 : Hid (Rst W v9 B G' cp' (L ++ [(now, x)]) now now x) := R5.out.push' (by have := HJ.out; omega) (now, x) ((World.grownBy_alloc x' _ _).trans hg9) ho9
                    clear ho9 hg9
                    go_wp2_with fail
                    refine (now_any B (now : Nat) v9 (R9.out.oc.cell 0 rfl)).mono ?_
                    rintro e w' ⟨rfl, rfl⟩
                    have e1 := E1.out
                    go_wp2
                    go_roundw
                    case rel =>
                      have hlen : (L ++ [(now, x)]).length = L.length + 1 := by simp
                      exact ⟨k + 1, G', cp', L ++ [(now, x)], now, now, now, x, false, false, by omega, by rw [hlen, show L.length = (j + 1) from (by have := HJ.out; omega)], rfl, rfl, rfl, by go_num, R9.out, (HX.out ▸ HR.out.2.1.next (by rw [HX.out]; exact HX1.out)), by rw [hlen]; have := HR.out.2.2.1; omega, HR.out.2.2.2⟩
                    case measure => simp [intOf]; omega
                | true =>
                  have hnl : ((now : Int) == last) = false := beq_eq_false_iff_ne.2 (fun e => hw3 ⟨rfl, by omega⟩)
                  have HLO := Lib.hid (And.intro hlo hcmp)
                  clear hL0 hw3 hlo hcmp
                  go_wp2_with fail
                  refine (now_any B (now : Nat) v3 (R3.out.oc.cell 0 rfl)).mono ?_
                  rintro e w' ⟨rfl, rfl⟩
                  cases br with
                  | true =>
                    go_wp2_with fail
                    go_quiet (fail)
                    generalize hv5 : v3.drewN nq = v5
                    have R5 : Hid (Rst W v5 B G cp L now now x) := hv5 ▸ R3.out.grow (grown_drewN (World.grownBy.refl _ _) _)
                    have O5 : Hid (Ob v5 b2 [.int .u64 (now : Nat), .int .u64 (x : Nat)]) := hv5 ▸ O3.out.drewN _
                    clear hv5 R3 O3 y0 y1
                    have y0 := O5.out.cell 0 rfl
                    have y1 := O5.out.cell 1 rfl
                    go_wp2_with (at_builtin; refine wpList_app rfl (.tmp 115) (.tmp 117) rfl eltDraw (B + 2) (.slice G L.length cp) (L.length) (DV L) rfl ((R5.out.own' rfl).alloc _) (some ⟨v5.heap.size, 0, none⟩) 1 1 [.int .u64 (now : Nat), .int .u64 (x : Nat)] rfl rfl (fun h => by cases h) (two_news v5 _ _ _) (DV_one [(now, x)]) ?d3 ?d4 ?d5 ?_)
                    case d3 => have hN9 : L.length = L.length := rfl; have := HR.out.2.2.1; have := HSM.out; simp only [maxLen]; omega
                    case d4 => have hN9 : L.length = L.length := rfl; have := HR.out.2.2.1; have := HSM.out; omega
                    case d5 => have := R5.out.sz; simp; omega
                    intro G' cp' v9 ho9 hg9 _
                    have R9 : Hid (Rst W v9 B G' cp' (L ++ [(now, x)]) now now x) := R5.out.push' rfl (now, x) ((World.grownBy_alloc v5 _ _).trans hg9) ho9
                    clear ho9 hg9
                    go_wp2_with fail
                    refine (now_any B (now : Nat) v9 (R9.out.oc.cell 0 rfl)).mono ?_
                    rintro e w' ⟨rfl, rfl⟩
                    have e1 := E1.out
                    go_wp2
                    go_roundw
                    case rel =>
                      have hlen : (L ++ [(now, x)]).length = L.length + 1 := by simp
                      exact ⟨k + 1, G', cp', L ++ [(now, x)], now, now, now, x, false, true, by omega, by rw [hlen, show L.length = L.length from rfl], rfl, rfl, rfl, by go_num, R9.out, (HX.out ▸ HR.out.2.1.next (by rw [HX.out]; exact HX1.out)), by rw [hlen]; have := HR.out.2.2.1; omega, HR.out.2.2.2⟩
                    case measure => simp [intOf]; omega
                  | false =>
                    obtain ⟨hlo, hcmp⟩ := HLO.out
                    obtain ⟨g, rfl, _, _, g0, g1⟩ := own_draw R3.out.own rfl hlo
                    obtain ⟨j, hj⟩ : ∃ j, L.length = j + 1 := ⟨L.length - 1, by omega⟩
                    have HJ : Hid (L.length ≤ j + 1 ∧ j + 1 ≤ L.length) := ⟨Nat.le_of_eq hj, Nat.le_of_eq hj.symm⟩
                    have hN : ∀ (P : Prop), (L.length = j + 1 → P) → P := fun P h => h (by have := HJ.out; omega)
                    have hjb : (j : Int) < 9223372036854775807 := by have := HR.out.2.2.1; omega
                    have e7 : IntKind.i64.wrap (j : Int) = (j : Int) := by rw [IntKind.wrap_i64]; omega
                    have e8 : (0 : Int) ≤ (j : Int) := by omega
                    have e9 : (j : Int) < (j : Int) + 1 := by omega
                    have e10 : (0 : Int) < (j : Int) + 1 := by omega
                    rw [show L.length - 1 = j by omega] at g0 g1
                    rw [hj]
                    clear hll hj hN
                    have z3 : Below v3.heap.size v3 v3 := Below.refl _ _
                    have F : Hid (∀ z, (z.cell? ⟨b2, 0, none⟩ = some (.int .u64 (now : Nat)) ∧ z.cell? ⟨b2, 1, none⟩ = some (.int .u64 (x : Nat))) ∧ (z.cell? ⟨g, j * 2, none⟩ = some (.int .u64 (last : Nat)) ∧ z.cell? ⟨g, j * 2 + 1, none⟩ = some (.int .u64 (lo : Nat))) ∧ Below v3.heap.size v3 z → Calls Try.prog 23 #[.agg #[.int .u64 (last : Nat), .int .u64 (lo : Nat)], .agg #[.int .u64 (now : Nat), .int .u64 (x : Nat)]] z fun e z' => e = .returned (.int .i64 (-1)) ∧ (z'.cell? ⟨b2, 0, none⟩ = some (.int .u64 (now : Nat)) ∧ z'.cell? ⟨b2, 1, none⟩ = some (.int .u64 (x : Nat))) ∧ (z'.cell? ⟨g, j * 2, none⟩ = some (.int .u64 (last : Nat)) ∧ z'.cell? ⟨g, j * 2 + 1, none⟩ = some (.int .u64 (lo : Nat))) ∧ Below v3.heap.size v3 z') := fun z hz => by
                      refine (compare_any last lo now x z).mono ?_
                      rintro e z' ⟨rfl, hb⟩
                      exact ⟨by rw [hcmp], kept_pair hb hz.1, kept_pair hb hz.2.1, hz.2.2.trans (hb.mono hz.2.2.size)⟩
                    have hr1 : ¬ (0 : Int) ≤ -1 := by decide
                    clear hlo hcmp
                    go_wp2_with fail
                    go_region_held3 (fun x' => (x'.cell? ⟨b2, 0, none⟩ = some (.int .u64 (now : Nat)) ∧ x'.cell? ⟨b2, 1, none⟩ = some (.int .u64 (x : Nat))) ∧ (x'.cell? ⟨g, j * 2, none⟩ = some (.int .u64 (last : Nat)) ∧ x'.cell? ⟨g, j * 2 + 1, none⟩ = some (.int .u64 (lo : Nat))) ∧ Below v3.heap.size v3 x') (first | exact ⟨⟨y0, y1⟩, ⟨g0, g1⟩, Below.drew z3⟩ | assumption | go_keep)
                      (first | (go_at_call 23; refine (F.out _ (by first | assumption | (simp [*]))).mono ?_; rintro e x' ⟨rfl, hx'⟩))
                    have HX5 := Lib.hid hx'
                    clear hx'
                    have R5 : Hid (Rst W x' B _ cp L now now x) := R3.out.grow (grown_of_below HX5.out.2.2 none)
                    have O5 : Hid (Ob x' b2 [.int .u64 (now : Nat), .int .u64 (x : Nat)]) := O3.out.below HX5.out.2.2
                    clear R3 O3 y0 y1 g0 g1 z3 e7 e8 e9 e10 hjb F
                    have y0 := O5.out.cell 0 rfl
                    have y1 := O5.out.cell 1 rfl
                    go_wp2_with (at_builtin; refine wpList_app rfl (.tmp 115) (.tmp 117) rfl eltDraw (B + 2) (.slice (some ⟨g, 0, none⟩) (j + 1) cp) ((j + 1)) (DV L) rfl ((R5.out.own' (by have := HJ.out; omega)).alloc _) (some ⟨x'.heap.size, 0, none⟩) 1 1 [.int .u64 (now : Nat), .int .u64 (x : Nat)] rfl rfl (fun h => by cases h) (two_news x' _ _ _) (DV_one [(now, x)]) ?d3 ?d4 ?d5 ?_)
                    case d3 => have hN9 : L.length = (j + 1) := (by have := HJ.out; omega); have := HR.out.2.2.1; have := HSM.out; simp only [maxLen]; omega
                    case d4 => have hN9 : L.length = (j + 1) := (by have := HJ.out; omega); have := HR.out.2.2.1; have := HSM.out; omega
                    case d5 => have := R5.out.sz; simp; omega
                    intro G' cp' v9 ho9 hg9 _
                    have R9 : Hid (Rst W v9 B G' cp' (L ++ [(now, x)]) now now x) := R5.out.push' (by have := HJ.out; omega) (now, x) ((World.grownBy_alloc x' _ _).trans hg9) ho9
                    clear ho9 hg9
                    go_wp2_with fail
                    refine (now_any B (now : Nat) v9 (R9.out.oc.cell 0 rfl)).mono ?_
                    rintro e w' ⟨rfl, rfl⟩
                    have e1 := E1.out
                    go_wp2
                    go_roundw
                    case rel =>
                      have hlen : (L ++ [(now, x)]).length = L.length + 1 := by simp
                      exact ⟨k + 1, G', cp', L ++ [(now, x)], now, now, now, x, false, false, by omega, by rw [hlen, show L.length = (j + 1) from (by have := HJ.out; omega)], rfl, rfl, rfl, by go_num, R9.out, (HX.out ▸ HR.out.2.1.next (by rw [HX.out]; exact HX1.out)), by rw [hlen]; have := HR.out.2.2.1; omega, HR.out.2.2.2⟩
                    case measure => simp [intOf]; omega
    · obtain rfl : k = n := by omega
      go_wp2
      go_ret
      exact ⟨rfl, HR.out.1.bel⟩
end Go.Proofs.Ytgbjfmokfkdglaa
