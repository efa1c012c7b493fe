/-
  The walks of the document's Write and of the law WireWrites.
-/
import Derived.Test.YtkdikbenheagmaaDoorOneW
import Derived.Test.YtkdikbenheagmaaDoorBack2
import Derived.Test.YtkdikbenheagmaaDoorSealed
set_option linter.unusedVariables false
set_option linter.unusedSimpArgs false
namespace Go.Proofs.YtkdikbenheagmaaDoor
open Go.RowKit

/-- one thing laid behind others is what it is by itself -/
theorem wLay_shift (s : WS) (x : PutV) (h : s.2 = 0) : wLay s x = (s.1 ++ (wLay ([], 0) x).1, (wLay ([], 0) x).2) := by
  obtain ⟨b, e⟩ := s
  simp only at h
  subst h
  have hc : ∀ n m, wCount (b, 0) n m = (b ++ (wCount ([], 0) n m).1, (wCount ([], 0) n m).2) := by
    intro n m
    unfold wCount
    rw [if_pos rfl, if_pos rfl]
    split
    · simp
    · split <;> simp
  unfold wLay
  split
  · simp [wNum]
  · split
    · unfold wInt; rw [if_pos rfl, if_pos rfl]; split <;> simp
    · split
      · exact hc _ _
      · unfold wText
        rw [hc]
        simp only
        split <;> simp
theorem wLay_one_len (x : PutV) (hx : x.Ok) : (wLay ([], 0) x).1.length ≤ x.s.size + 9 := by have := wLay_len ([], 0) x hx; simpa using this
/-- what Write answers -/
def writeL (l : List PutV) : List UInt8 × Int := (if (wAll l ([], 0)).2 = 0 then (wAll l ([], 0)).1 else [], (wAll l ([], 0)).2)
theorem wAll_append (l r : List PutV) (s : WS) : wAll (l ++ r) s = wAll r (wAll l s) := List.foldl_append
theorem RdC.take' {α : Type} {size : Nat} {cells : α → List Value} {w : World} {A : Option Addr} {n : Nat} {l : List α} (h : RdC size cells w A n l) (k : Nat) (hk : k ≤ n) : RdC size cells w A k (l.take k) := by
  refine ⟨by rw [List.length_take, h.len]; omega, by have := h.le; omega, fun j x hj => ?_⟩
  have hjk : j < k := by
    have := (List.getElem?_eq_some_iff.1 hj).1
    rw [List.length_take] at this; omega
  rw [List.getElem?_take, if_pos hjk] at hj
  exact h.cell j x hj

set_option maxRecDepth 100000 in
set_option maxHeartbeats 1600000 in
theorem write_any (A : Option Addr) (n c : Nat) (l : List PutV) (w : World) (hr : RdC 5 PutV.cells w A n l) (hok : ∀ x ∈ l, x.Ok) (hbk : putBulk l ≤ 1048576) :
    Calls Tryd.prog 27 #[.slice A n c] w fun e w' => Told 5 w e w' (writeL l).1 (writeL l).2 := by
  have HR := Lib.hid hr
  have HOK := Lib.hid hok
  have hl := hr.len
  have hle := hr.le
  have HL := Lib.hid hl
  have HLEN := Lib.hid (fun k => wAll_len (l.take k) ([], 0) fun x hx => hok x (List.mem_of_mem_take hx))
  clear hr hok hl
  go_enter Tryd.func27, Tryd.ntmps27
  go_wp2
  go_loopw [4, 5, 6, 7, 14] (fun b i _ _ _ wr => ∃ (k m : Nat) (A' : Option Addr) (c' : Nat) (L : List UInt8), k ≤ n ∧ i = .int .i64 k ∧ b = .slice A' m c' ∧ m ≤ 2097152 ∧ Hid (RowB w wr A' m c' L ∧ wAll (l.take k) ([], 0) = (L, 0))) (fun _ i _ _ _ _ => n - (intOf i).toNat)
  case atStart => exact ⟨0, 0, none, 0, [], Nat.zero_le _, rfl, rfl, by omega, RowB.nil w, rfl⟩
  case round =>
    obtain ⟨k, m, A', c', L, hk, rfl, rfl, hm, HS⟩ := hrel
    by_cases hlt : k < n
    · have hkl : k < l.length := by rw [HL.out]; exact hlt
      obtain ⟨ad, ea, hc⟩ := HR.out.cell k _ (List.getElem?_eq_getElem hkl)
      cases ea
      have hsn := wAll_snoc l ([], 0) hkl
      have HB := Lib.hid (putBulk_take l hkl)
      have HLK := Lib.hid (HLEN.out (k + 1))
      have hx := Lib.hid (HOK.out _ (List.getElem_mem hkl))
      have hsplit : Hid (l = l.take (k + 1) ++ l.drop (k + 1)) := (List.take_append_drop _ _).symm
      generalize hxx : l[k] = x at hc hsn hx HB
      clear hxx
      rw [HS.out.2, wLay_shift _ _ rfl] at hsn
      have HSN := Lib.hid hsn
      have hHL := HLEN.out (k + 1)
      clear hsn
      have HCL := Lib.hid (show ∀ (j : Nat) (u : Value), [.int .i64 x.kind, .int .u64 x.v, .int .i64 x.n, .int .i64 x.most, .string x.s][j]? = some u → wr.cell? ((ad.add (k * 5)).add j) = some u from fun j u hu => by
        have h1 := hc j u hu
        rw [add_add, HS.out.1.2.1.cell (by rw [add_block]; have := World.block_lt_of_cell? w _ h1; rwa [add_block] at this)]
        exact h1)
      have hol := wLay_one_len x hx.out
      have F := Lib.hid (one_any x wr hx.out (by have := HB.out; omega))
      have hbs : x.s.size ≤ 1048576 := by have := HB.out; omega
      generalize (wLay ([], 0) x).1 = ob at HSN F hol
      generalize (wLay ([], 0) x).2 = oe at HSN F
      clear hc hHL
      by_cases he : oe = 0
      · subst he
        go_wp2_with ((with_reducible refine wpList_load5 50 (.tmp 17) (ad.add (k * 5)) (.int .i64 x.kind) (.int .u64 x.v) (.int .i64 x.n) (.int .i64 x.most) (.string x.s) HCL.out Tryd.underlying50 putInfo ?_ ?_); case refine_1 => rfl)
        refine F.out.mono ?_
        rintro e w2 ht2
        obtain ⟨A2, c2, rfl, hb2, hr2, hn2, hc2, _⟩ := ht2.to rfl
        have R2 := Lib.hid (HS.out.1.kept hb2)
        have RN := Lib.hid hr2.news
        have RL := Lib.hid hr2.lenBv
        have HN2 := Lib.hid hn2
        clear hb2 hr2 hn2 ht2
        go_wp2_with (at_builtin; refine wpList_app rfl (.tmp 25) (.tmp 26) rfl eltByte w.heap.size _ m _ rfl R2.out.1 A2 ob.length c2 (Bv ob) rfl RL.out HN2.out RN.out (Bv_one _) ?c3 ?c4 R2.out.2.2 ?_)
        case c3 => simp only [maxLen]; omega
        case c4 => omega
        intro A3 c3 w3 hown3 hgrow3 _
        have R3 := Lib.hid (RowB.step R2.out (World.grownBy.refl _ _) hown3 hgrow3)
        clear hown3 hgrow3
        go_wp2
        go_roundw
        case rel =>
          refine ⟨k + 1, m + ob.length, A3, c3, L ++ ob, by omega, by go_num, rfl, ?_, R3.out, HSN.out⟩
          have h1 := HLK.out
          rw [HSN.out] at h1
          have h2 := R3.out.1.1
          rw [Bv_length] at h2
          have h3 := HB.out
          have h4 : putBulk (l.take (k + 1)) ≤ putBulk l := by
            have := congrArg putBulk hsplit.out
            rw [putBulk_append] at this; omega
          simp only [List.length_nil] at h1
          omega
        case measure => simp [intOf]; omega
      · have he1 : (oe != 0) = true := bne_iff_ne.2 he
        go_wp2_with ((with_reducible refine wpList_load5 50 (.tmp 17) (ad.add (k * 5)) (.int .i64 x.kind) (.int .u64 x.v) (.int .i64 x.n) (.int .i64 x.most) (.string x.s) HCL.out Tryd.underlying50 putInfo ?_ ?_); case refine_1 => rfl)
        refine F.out.mono ?_
        rintro e w2 ht2
        obtain ⟨A2, c2, rfl, hb2, _⟩ := ht2.to rfl
        have B2 : Hid (Below w.heap.size w w2) := HS.out.1.2.1.trans (hb2.mono HS.out.1.2.2)
        clear hb2 ht2
        go_wp2
        go_ret2
        have hw : writeL l = ([], oe) := by
          have h1 : wAll l ([], 0) = (L ++ ob, oe) := by
            conv => lhs; rw [hsplit.out]
            rw [wAll_append, HSN.out, wAll_err _ _ he]
          unfold writeL
          rw [h1]
          simp [he]
        rw [hw]
        exact Told.err B2.out rfl
    · obtain rfl : k = n := by omega
      go_wp2
      go_ret2
      have h1 := HS.out.2
      rw [List.take_of_length_le (Nat.le_of_eq HL.out)] at h1
      have hm2 := HS.out.1.1.1
      rw [Bv_length, Nat.mul_one] at hm2
      have hw : writeL l = (L, 0) := by unfold writeL; rw [h1]; rfl
      rw [hw]
      refine ⟨A', c', by rw [hm2]; rfl, HS.out.1.2.1, ?_⟩
      rw [hm2]; exact HS.out.1.1

set_option maxRecDepth 100000 in
set_option maxHeartbeats 1600000 in
theorem wireWrites_walk (A : Option Addr) (n c : Nat) (l : List PutV) (w : World) (hr : RdC 5 PutV.cells w A n l) (hcap : n ≤ c) (hok : ∀ x ∈ l, x.Ok) {D : Nat} (hbk0 : putBulk l + 1 ≤ D) (hD : D ≤ 1048576) (ht : Tab w) :
    Calls Tryd.prog 5 #[.slice A n c] w fun e w' => e = .returned (.bool true) ∧ Below w.heap.size w w' := by
  have h0 : 0 < w.heap.size := World.block_lt_of_cell? w _ (ht 0 (by decide))
  have hbk : putBulk l ≤ 1048576 := by omega
  have HT := Lib.hid ht
  have HR := Lib.hid hr
  have HOK := Lib.hid hok
  have hl := hr.len
  have hle := hr.le
  have HL := Lib.hid hl
  have HLEN := Lib.hid (fun k => wAll_len (l.take k) ([], 0) fun x hx => hok x (List.mem_of_mem_take hx))
  have WF := Lib.hid (WAt.fresh w 44)
  have B0 : Hid (Below w.heap.size w (w.alloc (.cells #[.slice none 0 0, .int .i64 0] 44))) := (Below.refl _ _).alloc (Nat.le_refl _) _
  have F0 := Lib.hid (bytes_any _ ([], 0) _ WF.out (by decide))
  clear ht hr hok hl hbk0 hD
  go_enter Tryd.func5, Tryd.ntmps5
  go_wp2_with fail
  refine F0.out.mono ?_
  rintro e w1 ht1
  obtain ⟨A1, c1, rfl, hb1, _⟩ := ht1.to (m := 0) rfl
  have hza : w.heap.size < (w.alloc (.cells #[.slice none 0 0, .int .i64 0] 44)).heap.size := by simp
  have W1 := Lib.hid (WF.out.kept (grown_of_below hb1 none))
  have B1 : Hid (Below w.heap.size w w1) := B0.out.trans (hb1.mono (by omega))
  clear hb1 ht1 hza
  go_wp2_with fail
  refine (num_any _ _).mono ?_
  rintro e w' ⟨rfl, rfl⟩
  go_wp2_with fail
  go_loopw [6] (fun i wr => ∃ k : Nat, k ≤ n ∧ i = .int .i64 k ∧ Hid (WAt wr w.heap.size (wAll (l.take k) ([], 0)) ∧ Below w.heap.size w wr)) (fun i _ => n - (intOf i).toNat)
  case atStart => exact ⟨0, Nat.zero_le _, rfl, W1.out, B1.out⟩
  case round =>
    obtain ⟨k, hk, rfl, HS⟩ := hrel
    by_cases hlt : k < n
    · have hkl : k < l.length := by rw [HL.out]; exact hlt
      obtain ⟨ad, ea, hc⟩ := HR.out.cell k _ (List.getElem?_eq_getElem hkl)
      cases ea
      have HSN := Lib.hid (wAll_snoc l ([], 0) hkl)
      have HB := Lib.hid (putBulk_take l hkl)
      have HLK := Lib.hid (HLEN.out k)
      have HLK1 := Lib.hid (HLEN.out (k + 1))
      have hx := Lib.hid (HOK.out _ (List.getElem_mem hkl))
      have hbs1 : putBulk (l.take (k + 1)) ≤ 1048576 := by
        have := congrArg putBulk (List.take_append_drop (k + 1) l)
        rw [putBulk_append] at this; omega
      generalize hxx : l[k] = x at hc HSN hx HB
      clear hxx
      have HCL := Lib.hid (show ∀ (j : Nat) (u : Value), [.int .i64 x.kind, .int .u64 x.v, .int .i64 x.n, .int .i64 x.most, .string x.s][j]? = some u → wr.cell? ((ad.add (k * 5)).add j) = some u from fun j u hu => by
        have h1 := hc j u hu
        rw [add_add, HS.out.2.cell (by rw [add_block]; have := World.block_lt_of_cell? w _ h1; rwa [add_block] at this)]
        exact h1)
      have hkc : (k : Int) + 1 ≤ (c : Int) := by omega
      clear hc
      go_wp2_with ((with_reducible refine wpList_load5 50 (.tmp 29) (ad.add (k * 5)) (.int .i64 x.kind) (.int .u64 x.v) (.int .i64 x.n) (.int .i64 x.most) (.string x.s) HCL.out Tryd.underlying50 putInfo ?_ ?_); case refine_1 => rfl)
      refine (lay_any w.heap.size x _ wr HS.out.1 hx.out (by have := HB.out; have := HLK.out; simp only [List.length_nil] at this; omega)).mono ?_
      rintro e w2 ⟨rfl, h2, h3⟩
      rw [← HSN.out] at h3
      have H3 := Lib.hid h3
      have B3 := Lib.hid (HS.out.2.trans h2)
      have F3 := Lib.hid (bytes_any _ _ w2 h3 (by have := HLK1.out; simp only [List.length_nil] at this; omega))
      clear h2 h3
      have hF := F3.out
      have FW := Lib.hid (fun w' (hb : Below w.heap.size w w') => write_any (some ad) (k + 1) c (l.take (k + 1)) w' ((HR.out.take' (k + 1) hlt).below hb) (fun x hx => HOK.out x (List.mem_of_mem_take hx)) hbs1)
      unfold writeL at FW
      simp only at FW
      generalize hob : (if (wAll (l.take (k + 1)) ([], 0)).2 = 0 then (wAll (l.take (k + 1)) ([], 0)).1 else []) = ob at hF FW
      generalize hoe : (wAll (l.take (k + 1)) ([], 0)).2 = oe at hF FW
      have F3 := Lib.hid hF
      clear hF hob hoe
      have hee : (oe != oe) = false := bne_self_eq_false _
      go_wp2_with fail
      refine F3.out.mono ?_
      rintro e w4 ⟨A4, c4, rfl, hb4, ho4⟩
      have W4 := Lib.hid (H3.out.kept (grown_of_below hb4 none))
      have B4 : Hid (Below w.heap.size w w4) := B3.out.trans (hb4.mono B3.out.size)
      have H4 := Lib.hid (own_rd ho4)
      clear hb4 ho4
      go_wp2_with fail
      refine (FW.out w4 B4.out).mono ?_
      rintro e w5 ⟨A5, c5, rfl, hb5, ho5⟩
      have W5 := Lib.hid (W4.out.kept (grown_of_below hb5 none))
      have B5 : Hid (Below w.heap.size w w5) := B4.out.trans (hb5.mono B4.out.size)
      have H45 := Lib.hid (H4.out.below hb5)
      have H5 := Lib.hid (own_rd ho5)
      clear hb5 ho5
      go_wp2_with fail
      refine (num_any _ _).mono ?_
      rintro e w' ⟨rfl, rfl⟩
      go_wp2_with fail
      refine (sameBytes_any A4 _ c4 ob A5 _ c5 ob w5 H45.out H5.out).mono ?_
      rintro e w' ⟨rfl, rfl⟩
      rw [beq_self_eq_true]
      go_wp2
      go_roundw
      case rel => exact ⟨k + 1, by omega, by go_num, W5.out, B5.out⟩
      case measure => simp [intOf]; omega
    · go_wp2_with fail
      refine (alive_any wr (HT.out.below HS.out.2 h0)).mono ?_
      rintro e w5 ⟨rfl, hb5⟩
      have HB5 : Hid (Below w.heap.size w w5) := HS.out.2.trans (hb5.mono HS.out.2.size)
      clear hb5
      go_wp2
      go_ret
      exact ⟨rfl, HB5.out⟩
end Go.Proofs.YtkdikbenheagmaaDoor
