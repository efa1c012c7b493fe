/-
  The walk of the law WireBack.
-/
import Derived.Test.YtkdikbenheagmaaDoorBack2
set_option linter.unusedVariables false
set_option linter.unusedSimpArgs false
namespace Go.Proofs.YtkdikbenheagmaaDoor
open Go.RowKit

set_option maxRecDepth 100000 in
set_option maxHeartbeats 4000000 in
theorem wireBack_walk (A : Option Addr) (n c : Nat) (l : List PutV) (w : World) (hr : RdC 5 PutV.cells w A n l) (hok : ∀ x ∈ l, x.Ok) {D : Nat} (hbk0 : putBulk l + 1 ≤ D) (hD : D ≤ 1048576) (ht : Tab w) :
    Calls Tryd.prog 12 #[.slice A n c] w fun e w' => e = .returned (.bool true) ∧ Below w.heap.size w w' := by
  have hbk : putBulk l ≤ 1048576 := by omega
  have HT := Lib.hid ht
  have HR := Lib.hid hr
  have HOK := Lib.hid hok
  have hl := hr.len
  have hle := hr.le
  have HL := Lib.hid hl
  have HCASE := Lib.hid (wAll_cases l ([], 0) rfl)
  have HLEN := Lib.hid (fun k => wAll_len (l.take k) ([], 0) fun x hx => hok x (List.mem_of_mem_take hx))
  clear ht hr hok hl hbk0 hD
  go_enter Tryd.func12, Tryd.ntmps12
  go_wp2_with fail
  refine (alive_any w HT.out).mono ?_
  rintro e w1 ⟨rfl, hb1⟩
  have B1 := Lib.hid hb1
  have hz1 : w.heap.size ≤ w1.heap.size := hb1.size
  clear hb1
  go_wp2_with fail
  go_loopw [4] (fun i wr => ∃ k : Nat, k ≤ n ∧ i = .int .i64 k ∧ Hid (WAt wr w1.heap.size (wAll (l.take k) ([], 0)) ∧ Below w.heap.size w wr)) (fun i _ => n - (intOf i).toNat)
  case atStart => exact ⟨0, Nat.zero_le _, rfl, WAt.fresh w1 44, B1.out.alloc hz1 _⟩
  case round =>
    obtain ⟨k, hk, rfl, HS⟩ := hrel
    by_cases hlt : k < n
    · have hkl : k < l.length := by rw [HL.out]; exact hlt
      obtain ⟨ad, ea, hc⟩ := HR.out.cell k _ (List.getElem?_eq_getElem hkl)
      cases ea
      have HSN := Lib.hid (wAll_snoc l ([], 0) hkl)
      have HB := Lib.hid (putBulk_take l hkl)
      have HLK := Lib.hid (HLEN.out k)
      have hx := Lib.hid (HOK.out _ (List.getElem_mem hkl))
      generalize hxx : l[k] = x at hc HSN hx HB
      clear hxx
      have HCL := Lib.hid (show ∀ (j : Nat) (u : Value), [.int .i64 x.kind, .int .u64 x.v, .int .i64 x.n, .int .i64 x.most, .string x.s][j]? = some u → wr.cell? ((ad.add (k * 5)).add j) = some u from fun j u hu => by
        have h1 := hc j u hu
        rw [add_add, HS.out.2.cell (by rw [add_block]; have := World.block_lt_of_cell? w _ h1; rwa [add_block] at this)]
        exact h1)
      clear hc
      go_wp2_with ((with_reducible refine wpList_load5 50 (.tmp 21) (ad.add (k * 5)) (.int .i64 x.kind) (.int .u64 x.v) (.int .i64 x.n) (.int .i64 x.most) (.string x.s) HCL.out Tryd.underlying50 putInfo ?_ ?_); case refine_1 => rfl)
      refine (lay_any w1.heap.size x _ wr HS.out.1 hx.out (by have := HB.out; have := HLK.out; simp only [List.length_nil] at this; omega)).mono ?_
      rintro e w2 ⟨rfl, h2, h3⟩
      have H3 := Lib.hid h3
      have B3 := Lib.hid (HS.out.2.trans (h2.mono hz1))
      clear h2 h3
      go_wp2
      go_roundw
      case rel => exact ⟨k + 1, by omega, by go_num, by rw [HSN.out]; exact H3.out, B3.out⟩
      case measure => simp [intOf]; omega
    · obtain rfl : k = n := by omega
      have htk : l.take l.length = l := List.take_length
      have HS := Lib.hid (by have := HS.out; rwa [← HL.out, htk] at this)
      have HLK := Lib.hid (by have := HLEN.out k; rwa [← HL.out, htk] at this)
      have hlen : (wAll l ([], 0)).1.length ≤ 2097152 := by have := HLK.out; simp only [List.length_nil] at this; omega
      have hz := HS.out.2.size
      rcases HCASE.out with ⟨hbad, herr⟩ | ⟨hbad, hall⟩
      · have e0 : ((wAll l ([], 0)).2 == 0) = false := beq_eq_false_iff_ne.2 herr
        have e0' : ((wAll l ([], 0)).2 != 0) = true := bne_iff_ne.2 herr
        have F := bytes_any _ (wAll l ([], 0)) wr HS.out.1 (by omega)
        rw [if_neg herr] at F
        have F := Lib.hid F
        have HBAD := Lib.hid hbad
        generalize (wAll l ([], 0)).2 = er at e0 e0' F
        clear hlen hbad herr htk HLK
        go_wp2_with fail
        refine F.out.mono ?_
        rintro e w4 ⟨A4, c4, rfl, hb4, ho4⟩
        have B4 : Hid (Below w.heap.size w w4) := HS.out.2.trans (hb4.mono hz)
        clear hb4 ho4
        have R4 := Lib.hid (RdC.below HR.out B4.out)
        go_wp2_with fail
        refine (num_any _ _).mono ?_
        rintro e w' ⟨rfl, rfl⟩
        go_wp2_with fail
        refine (refused_any A k c l w4 R4.out HOK.out).mono ?_
        rintro e w5 ⟨rfl, hb5⟩
        have B5 := Lib.hid (B4.out.trans (hb5.mono B4.out.size))
        rw [HBAD.out]
        clear hb5
        go_wp2
        go_ret
        exact ⟨rfl, B5.out⟩
      · have F := bytes_any _ (wAll l ([], 0)) wr HS.out.1 (by omega)
        have HS2 := Lib.hid HS.out.2
        rw [hall] at hlen F
        have F := Lib.hid F
        have HBAD := Lib.hid hbad
        clear hbad htk HLK HCASE HS hall
        generalize hbs : (l.map PutV.enc).flatten = bs at hlen F
        have HBS := Lib.hid hbs
        clear hbs
        go_wp2_with fail
        have F' := F.out
        simp only [if_true, List.nil_append] at F' hlen
        refine F'.mono ?_
        clear F F'
        rintro e w4 ⟨A4, c4, rfl, hb4, ho4⟩
        have B4 : Hid (Below w.heap.size w w4) := HS2.out.trans (hb4.mono hz)
        have hz4 := B4.out.size
        have H4 := Lib.hid (own_rd ho4)
        have HA4 := Lib.hid (gone_none ho4)
        clear hb4 ho4
        go_wp2_with fail
        refine (num_any _ _).mono ?_
        rintro e w' ⟨rfl, rfl⟩
        go_wp2_with fail
        refine (newReader_any A4 _ c4 bs w4 H4.out HA4.out.1 (by omega)).mono ?_
        rintro e w5 ⟨q, A5, c5, rfl, hr5, hA5, hb5, hq1, hq2, hq3⟩
        have B5 : Hid (Below w.heap.size w w5) := B4.out.trans (hb5.mono hz4)
        have H5 := Lib.hid hr5
        have HA5 := Lib.hid hA5
        have hqw : w.heap.size ≤ q := by omega
        clear hb5 hr5 hA5 hq3 hq1
        go_wp2_with fail
        go_loopw [8, 9, 10] (fun i _ _ wr => ∃ j : Nat, j ≤ k ∧ i = .int .i64 j ∧ Hid (Rr wr q A5 c5 bs (off l j) 0 ∧ Below w.heap.size w wr)) (fun i _ _ _ => k - (intOf i).toNat)
        case atStart => exact ⟨0, Nat.zero_le _, rfl, by show Rr _ _ _ _ _ 0 0; exact H5.out, B5.out⟩
        case round =>
          obtain ⟨j, hj, rfl, HQ⟩ := hrel
          by_cases hlt : j < k
          · have hkl : j < l.length := by rw [HL.out]; exact hlt
            obtain ⟨ad, ea, hc⟩ := HR.out.cell j _ (List.getElem?_eq_getElem hkl)
            cases ea
            have hx := HOK.out _ (List.getElem_mem hkl)
            have hxb : l[j].bad = false := by have := HBAD.out; rw [List.any_eq_false] at this; simpa using this _ (List.getElem_mem hkl)
            have hrd := read_put l j _ (List.getElem?_eq_getElem hkl) hx hxb
            rw [HBS.out] at hrd
            have HX := Lib.hid hx
            clear hxb hx
            generalize hxx : l[j] = x at hc HX hrd
            clear hxx
            have hzr := HQ.out.2.size
            have hqr : q < wr.heap.size := World.block_lt_of_cell? wr _ HQ.out.1.buf
            have HCL := Lib.hid (show ∀ (i : Nat) (u : Value), [.int .i64 x.kind, .int .u64 x.v, .int .i64 x.n, .int .i64 x.most, .string x.s][i]? = some u → wr.cell? ((ad.add (j * 5)).add i) = some u from fun i u hu => by
              have h1 := hc i u hu
              rw [add_add, HQ.out.2.cell (by rw [add_block]; have := World.block_lt_of_cell? w _ h1; rwa [add_block] at this)]
              exact h1)
            have HRR : Hid (∀ m, Rr ((wr.alloc (.cells #[.int .i64 x.kind, .int .u64 x.v, .int .i64 x.n, .int .i64 x.most, .string x.s] 50)).drewN m) q A5 c5 bs (off l j) 0) := fun m => (HQ.out.1.kept (World.grownBy_alloc wr _ none) (by simp) (by simp)).drewN m
            have hcell : Hid (∀ m w', ((wr.alloc (.cells #[.int .i64 x.kind, .int .u64 x.v, .int .i64 x.n, .int .i64 x.most, .string x.s] 50)).drewN m).grownBy w' (some q) → (w'.cell? ⟨wr.heap.size, 1, none⟩ = some (.int .u64 x.v) ∧ w'.cell? ⟨wr.heap.size, 2, none⟩ = some (.int .i64 x.n) ∧ w'.cell? ⟨wr.heap.size, 4, none⟩ = some (.string x.s))) := fun m w' hg => by
              have hb : w'.heap[wr.heap.size]? = _ := hg.block wr.heap.size (by simp) (by simp; omega)
              refine ⟨?_, ?_, ?_⟩
              · exact (World.cell?_of_block (a := ⟨wr.heap.size, 1, none⟩) hb).trans (by simp)
              · exact (World.cell?_of_block (a := ⟨wr.heap.size, 2, none⟩) hb).trans (by simp)
              · exact (World.cell?_of_block (a := ⟨wr.heap.size, 4, none⟩) hb).trans (by simp)
            have HBEL : Hid (∀ m w', ((wr.alloc (.cells #[.int .i64 x.kind, .int .u64 x.v, .int .i64 x.n, .int .i64 x.most, .string x.s] 50)).drewN m).grownBy w' (some q) → Below w.heap.size w w') := fun m w' hg => Below.grown (Below.drewN (HQ.out.2.alloc hzr _) m) hg (by simp; omega) (fun q e => by cases e; exact hqw)
            have hsv : (x.v == x.v) = true := beq_self_eq_true _
            have hsn : (x.n == x.n) = true := beq_self_eq_true _
            have hss : (x.s == x.s) = true := show (x.s.data == x.s.data) = true from beq_self_eq_true _
            clear hc
            obtain ⟨r0, r1, r2, r3⟩ := hrd
            by_cases k0 : x.kind = 0
            · have HRD := Lib.hid (r0 k0)
              have hk : (x.kind == 0) = true := beq_iff_eq.2 k0
              have hv := Int.toNat_of_nonneg HX.out.v0
              clear r0 r1 r2 r3 k0
              have FN : ∀ W', (∃ m, W' = (wr.alloc (.cells #[.int .i64 x.kind, .int .u64 x.v, .int .i64 x.n, .int .i64 x.most, .string x.s] 50)).drewN m) → Calls Tryd.prog 29 #[.pointer (some ⟨q, 0, none⟩)] W' fun e w' => e = .returned (.int .u64 x.v) ∧ Hid (Rr w' q A5 c5 bs (off l (j + 1)) 0 ∧ Below w.heap.size w w') ∧ w'.cell? ⟨wr.heap.size, 1, none⟩ = some (.int .u64 x.v) := by
                rintro W' ⟨m, rfl⟩
                have F := rnumber_any q A5 c5 bs (off l j, 0) _ (HRR.out m)
                rw [HRD.out] at F
                simp only [hv] at F
                exact F.mono fun e w' h => ⟨h.1, ⟨h.2.1, HBEL.out m w' h.2.2⟩, (hcell.out m w' h.2.2).1⟩
              go_wp2_with ((with_reducible refine wpList_load5 50 (.tmp 50) (ad.add (j * 5)) (.int .i64 x.kind) (.int .u64 x.v) (.int .i64 x.n) (.int .i64 x.most) (.string x.s) HCL.out Tryd.underlying50 putInfo ?_ ?_); case refine_1 => rfl)
              go_region_with (go_at_call 29; go_must (refine (FN _ ?_).mono ?_); go_must (focus (first | exact ⟨0, rfl⟩ | exact ⟨1, rfl⟩ | exact ⟨2, rfl⟩)); go_must (rintro e w6 ⟨rfl, h6, g6⟩))
              all_goals
                go_wp2
                go_roundw
                case rel => exact ⟨j + 1, by omega, by go_num, by assumption⟩
                case measure => simp [intOf]; omega
            · have hk0 : (x.kind == 0) = false := beq_eq_false_iff_ne.2 k0
              by_cases k1 : x.kind = 1
              · have HRD := Lib.hid (r1 k1).1
                have hk : (x.kind == 1) = true := beq_iff_eq.2 k1
                have hv := Int.toNat_of_nonneg (r1 k1).2
                clear r0 r1 r2 r3 k0 k1
                have FN : ∀ W', (∃ m, W' = (wr.alloc (.cells #[.int .i64 x.kind, .int .u64 x.v, .int .i64 x.n, .int .i64 x.most, .string x.s] 50)).drewN m) → Calls Tryd.prog 34 #[.pointer (some ⟨q, 0, none⟩), .int .i64 x.n] W' fun e w' => e = .returned (.int .i64 x.n) ∧ Hid (Rr w' q A5 c5 bs (off l (j + 1)) 0 ∧ Below w.heap.size w w') ∧ w'.cell? ⟨wr.heap.size, 2, none⟩ = some (.int .i64 x.n) := by
                  rintro W' ⟨m, rfl⟩
                  have F := rint_any q A5 c5 bs (off l j, 0) x.n HX.out.n1 _ (HRR.out m)
                  rw [HRD.out] at F
                  simp only [hv] at F
                  exact F.mono fun e w' h => ⟨h.1, ⟨h.2.1, HBEL.out m w' h.2.2⟩, (hcell.out m w' h.2.2).2.1⟩
                go_wp2_with ((with_reducible refine wpList_load5 50 (.tmp 50) (ad.add (j * 5)) (.int .i64 x.kind) (.int .u64 x.v) (.int .i64 x.n) (.int .i64 x.most) (.string x.s) HCL.out Tryd.underlying50 putInfo ?_ ?_); case refine_1 => rfl)
                go_region_with (go_at_call 34; go_must (refine (FN _ ?_).mono ?_); go_must (focus (first | exact ⟨0, rfl⟩ | exact ⟨1, rfl⟩ | exact ⟨2, rfl⟩)); go_must (rintro e w6 ⟨rfl, h6, g6⟩))
                all_goals
                  go_wp2
                  go_roundw
                  case rel => exact ⟨j + 1, by omega, by go_num, by assumption⟩
                  case measure => simp [intOf]; omega
              · have hk1 : (x.kind == 1) = false := beq_eq_false_iff_ne.2 k1
                by_cases k2 : x.kind = 2
                · have HRD := Lib.hid (r2 k2).1
                  have hk : (x.kind == 2) = true := beq_iff_eq.2 k2
                  have hv := Int.toNat_of_nonneg (r2 k2).2
                  clear r0 r1 r2 r3 k0 k1 k2
                  have FN : ∀ W', (∃ m, W' = (wr.alloc (.cells #[.int .i64 x.kind, .int .u64 x.v, .int .i64 x.n, .int .i64 x.most, .string x.s] 50)).drewN m) → Calls Tryd.prog 36 #[.pointer (some ⟨q, 0, none⟩), .int .i64 x.most] W' fun e w' => e = .returned (.int .i64 x.n) ∧ Hid (Rr w' q A5 c5 bs (off l (j + 1)) 0 ∧ Below w.heap.size w w') ∧ w'.cell? ⟨wr.heap.size, 2, none⟩ = some (.int .i64 x.n) := by
                    rintro W' ⟨m, rfl⟩
                    have F := rcount_any q A5 c5 bs (off l j, 0) x.most HX.out.m1 _ (HRR.out m)
                    rw [HRD.out] at F
                    simp only [hv] at F
                    exact F.mono fun e w' h => ⟨h.1, ⟨h.2.1, HBEL.out m w' h.2.2⟩, (hcell.out m w' h.2.2).2.1⟩
                  go_wp2_with ((with_reducible refine wpList_load5 50 (.tmp 50) (ad.add (j * 5)) (.int .i64 x.kind) (.int .u64 x.v) (.int .i64 x.n) (.int .i64 x.most) (.string x.s) HCL.out Tryd.underlying50 putInfo ?_ ?_); case refine_1 => rfl)
                  go_region_with (go_at_call 36; go_must (refine (FN _ ?_).mono ?_); go_must (focus (first | exact ⟨0, rfl⟩ | exact ⟨1, rfl⟩ | exact ⟨2, rfl⟩)); go_must (rintro e w6 ⟨rfl, h6, g6⟩))
                  all_goals
                    go_wp2
                    go_roundw
                    case rel => exact ⟨j + 1, by omega, by go_num, by assumption⟩
                    case measure => simp [intOf]; omega
                · have hk2 : (x.kind == 2) = false := beq_eq_false_iff_ne.2 k2
                  have HRD := Lib.hid (r3 k0 k1 k2)
                  clear r0 r1 r2 r3 k0 k1 k2
                  have FN : ∀ W', (∃ m, W' = (wr.alloc (.cells #[.int .i64 x.kind, .int .u64 x.v, .int .i64 x.n, .int .i64 x.most, .string x.s] 50)).drewN m) → Calls Tryd.prog 37 #[.pointer (some ⟨q, 0, none⟩), .int .i64 x.most] W' fun e w' => e = .returned (.string x.s) ∧ Hid (Rr w' q A5 c5 bs (off l (j + 1)) 0 ∧ Below w.heap.size w w') ∧ w'.cell? ⟨wr.heap.size, 4, none⟩ = some (.string x.s) := by
                    rintro W' ⟨m, rfl⟩
                    have F := rtext_any q A5 c5 bs (off l j, 0) x.most HX.out.m1 _ (HRR.out m) HA5.out
                    rw [HRD.out] at F
                    simp only [txt_of] at F
                    exact F.mono fun e w' h => ⟨h.1, ⟨h.2.1, HBEL.out m w' h.2.2⟩, (hcell.out m w' h.2.2).2.2⟩
                  go_wp2_with ((with_reducible refine wpList_load5 50 (.tmp 50) (ad.add (j * 5)) (.int .i64 x.kind) (.int .u64 x.v) (.int .i64 x.n) (.int .i64 x.most) (.string x.s) HCL.out Tryd.underlying50 putInfo ?_ ?_); case refine_1 => rfl)
                  go_region_with (go_at_call 37; go_must (refine (FN _ ?_).mono ?_); go_must (focus (first | exact ⟨0, rfl⟩ | exact ⟨1, rfl⟩ | exact ⟨2, rfl⟩)); go_must (rintro e w6 ⟨rfl, h6, g6⟩))
                  all_goals
                    go_wp2
                    go_roundw
                    case rel => exact ⟨j + 1, by omega, by go_num, by assumption⟩
                    case measure => simp [intOf]; omega
          · obtain rfl : j = k := by omega
            have hoff : off l j = bs.length := by rw [← HL.out, off_all, HBS.out]
            have hR := HQ.out.1
            rw [hoff] at hR
            have HRR := Lib.hid hR
            clear hR
            go_wp2_with fail
            refine (rend_any q A5 c5 bs (bs.length, 0) wr HRR.out).mono ?_
            rintro e w' ⟨rfl, m, rfl⟩
            rw [show rEnd bs (bs.length, 0) = 0 by unfold rEnd; simp]
            go_wp2_with fail
            refine (num_any _ _).mono ?_
            rintro e w' ⟨rfl, rfl⟩
            go_wp2_with fail
            refine (rat_any q A5 c5 bs (bs.length, 0) _ (HRR.out.drewN m)).mono ?_
            rintro e w' ⟨rfl, rfl⟩
            have hbb : (((bs.length : Nat) : Int) == ((bs.length : Nat) : Int)) = true := beq_self_eq_true _
            go_wp2_with fail
            refine (rleft_any q A5 c5 bs (bs.length, 0) _ (HRR.out.drewN m)).mono ?_
            rintro e w' ⟨rfl, m2, rfl⟩
            rw [show ((bs.length - bs.length : Nat) : Int) = 0 by omega]
            go_wp2
            go_ret
            exact ⟨rfl, Below.drewN HQ.out.2 _⟩
end Go.Proofs.YtkdikbenheagmaaDoor
