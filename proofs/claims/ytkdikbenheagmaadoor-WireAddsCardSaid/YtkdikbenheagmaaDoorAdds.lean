/-
  The walk of the law WireAdds.
-/
import Derived.Test.YtkdikbenheagmaaDoorAlive
set_option linter.unusedVariables false
set_option linter.unusedSimpArgs false
namespace Go.Proofs.YtkdikbenheagmaaDoor
open Go.RowKit

/-- two rows of the call's own that share no memory -/
def Two (base : Nat) (w0 w : World) (A1 : Option Addr) (k c1 : Nat) (xs : List UInt8) (A2 : Option Addr) (c2 : Nat) (zs : List UInt8) : Prop :=
  w.ownsRow base 5 1 (.slice A1 k c1) k (Bv xs) ∧ w.ownsRow base 5 1 (.slice A2 k c2) k (Bv zs) ∧ (∀ b, (Value.slice A1 k c1).ownBlock = some b → (Value.slice A2 k c2).ownBlock = some b → False) ∧ Below base w0 w ∧ base ≤ w.heap.size

theorem xor_byte (xs ys : List UInt8) (k : Nat) : bits BinOp.xor IntKind.u8 (bg xs k) (bg ys k) = ((xs.getD k 0 ^^^ ys.getD k 0).toNat : Int) := by
  rw [UInt8.toNat_xor]
  exact x8 _ _ (xs.getD k 0).toNat_lt (ys.getD k 0).toNat_lt
theorem xorL_snoc (xs ys : List UInt8) (k : Nat) (h1 : k < xs.length) (h2 : k < ys.length) : Wire.xorL (xs.take (k + 1)) (ys.take (k + 1)) = Wire.xorL (xs.take k) (ys.take k) ++ [xs.getD k 0 ^^^ ys.getD k 0] := by
  unfold Wire.xorL
  rw [List.take_succ_eq_append_getElem h1, List.take_succ_eq_append_getElem h2, List.zipWith_append (by simp; omega)]
  simp [List.getD_eq_getElem?_getD, List.getElem?_eq_getElem h1, List.getElem?_eq_getElem h2]
theorem le_alloc {b : Nat} {w : World} (h : b ≤ w.heap.size) (o : Obj) : b ≤ (w.alloc o).heap.size := by rw [World.size_alloc]; omega
theorem le_alloc_drew (w : World) (o : Obj) : w.heap.size ≤ ((w.alloc o).drew).heap.size := by simp
theorem sum_q (A : Option Addr) (n c : Nat) (bs : List UInt8) (w : World) (hr : Rd w A n bs) (ht : Tab w) :
    Calls Tryd.prog 15 #[.slice A n c] w fun e w' => e = .returned (.int .u32 (Wire.sumN bs : Int)) ∧ w' = w := (sum_any A n c bs w hr ht).mono fun _ _ h => ⟨h.1, h.2.symm⟩
/-- one byte is appended to the first row -/
theorem Two.first {base : Nat} {w0 w W w1 : World} {A1 A2 A' : Option Addr} {k c1 c2 c' : Nat} {xs zs : List UInt8} {x : UInt8} (h : Two base w0 w A1 k c1 xs A2 c2 zs) (hW : w.grownBy W none)
    (ho : w1.ownsRow base 5 1 (.slice A' (k + 1) c') (k + 1) (Bv xs ++ Bv [x])) (hg : W.grownBy w1 (Value.slice A1 k c1).ownBlock)
    {H : Nat} (hb : (Value.slice A' (k + 1) c').ownBlock = (Value.slice A1 k c1).ownBlock ∨ (Value.slice A' (k + 1) c').ownBlock = some H) (hH : w.heap.size ≤ H) :
    w1.ownsRow base 5 1 (.slice A' (k + 1) c') (k + 1) (Bv (xs ++ [x])) ∧ w1.ownsRow base 5 1 (.slice A2 k c2) k (Bv zs) ∧ (∀ b, (Value.slice A' (k + 1) c').ownBlock = some b → (Value.slice A2 k c2).ownBlock = some b → False) ∧ Below base w0 w1 ∧ base ≤ w1.heap.size := by
  obtain ⟨h1, h2, h3, h4, h5⟩ := h
  have hz := hW.size
  have h2W : W.ownsRow base 5 1 (.slice A2 k c2) k (Bv zs) := h2.kept hW (by cases (Value.slice A2 k c2).ownBlock <;> simp)
  refine ⟨by rw [Bv_append]; exact ho, h2W.kept hg ?_, ?_, (h4.grown hW h5 (fun _ e => by cases e)).grown hg (Nat.le_trans h5 hz) (fun b e => (h1.lt b e).1), Nat.le_trans h5 (Nat.le_trans hz hg.size)⟩
  · cases h6 : (Value.slice A2 k c2).ownBlock with
    | none => exact .inl rfl
    | some b => exact .inr fun e => h3 b e.symm h6
  · intro b e1 e2
    rcases hb with hb | hb
    · exact h3 b (hb ▸ e1) e2
    · rw [hb] at e1
      cases e1
      have := (h2.lt _ e2).2
      omega
/-- one byte is appended to the second row -/
theorem Two.second {base : Nat} {w0 w W w1 : World} {A1 A2 A' : Option Addr} {k l c1 c2 c' : Nat} {xs zs : List UInt8} {x : UInt8}
    (h : w.ownsRow base 5 1 (.slice A1 l c1) l (Bv xs) ∧ w.ownsRow base 5 1 (.slice A2 k c2) k (Bv zs) ∧ (∀ b, (Value.slice A1 l c1).ownBlock = some b → (Value.slice A2 k c2).ownBlock = some b → False) ∧ Below base w0 w ∧ base ≤ w.heap.size) (hl : l = k + 1) (hW : w.grownBy W none)
    (ho : w1.ownsRow base 5 1 (.slice A' (k + 1) c') (k + 1) (Bv zs ++ Bv [x])) (hg : W.grownBy w1 (Value.slice A2 k c2).ownBlock)
    {H : Nat} (hb : (Value.slice A' (k + 1) c').ownBlock = (Value.slice A2 k c2).ownBlock ∨ (Value.slice A' (k + 1) c').ownBlock = some H) (hH : w.heap.size ≤ H) :
    Two base w0 w1 A1 (k + 1) c1 xs A' c' (zs ++ [x]) := by
  subst hl
  obtain ⟨h1, h2, h3, h4, h5⟩ := h
  have hz := hW.size
  have h1W : W.ownsRow base 5 1 (.slice A1 (k + 1) c1) (k + 1) (Bv xs) := h1.kept hW (by cases (Value.slice A1 (k + 1) c1).ownBlock <;> simp)
  refine ⟨h1W.kept hg ?_, by rw [Bv_append]; exact ho, ?_, (h4.grown hW h5 (fun _ e => by cases e)).grown hg (Nat.le_trans h5 hz) (fun b e => (h2.lt b e).1), Nat.le_trans h5 (Nat.le_trans hz hg.size)⟩
  · cases h6 : (Value.slice A1 (k + 1) c1).ownBlock with
    | none => exact .inl rfl
    | some b => exact .inr fun e => h3 b h6 e.symm
  · intro b e1 e2
    rcases hb with hb | hb
    · exact h3 b e1 (hb ▸ e2)
    · rw [hb] at e2
      cases e2
      have := (h1.lt _ e1).2
      omega

set_option maxRecDepth 100000 in
set_option maxHeartbeats 800000 in
theorem wireAdds_walk (A : Option Addr) (n c : Nat) (xa : List UInt8) (B : Option Addr) (m d : Nat) (xb : List UInt8) (w : World) (ha : Rd w A n xa) (hac : n ≤ c) (han : A = none → n = 0 ∧ c = 0) (hay : n ≤ 140737488351232)
    (hb : Rd w B m xb) (hbc : m ≤ d) (hbn : B = none → m = 0 ∧ d = 0) (hby : m ≤ 140737488351232) (ht : Tab w) :
    Calls Tryd.prog 3 #[.slice A n c, .slice B m d] w fun e w' => e = .returned (.bool true) ∧ Below w.heap.size w w' := by
  have HT := Lib.hid ht
  have HA := Lib.hid ha
  have HB := Lib.hid hb
  have HAN := Lib.hid han
  have HBN := Lib.hid hbn
  have h0 : 0 < w.heap.size := World.block_lt_of_cell? w _ (ht 0 (by decide))
  clear ht ha hb han hbn
  go_enter Tryd.func3, Tryd.ntmps3
  go_wp2_with fail
  refine (alive_any w HT.out).mono ?_
  rintro e w1 ⟨rfl, hb1⟩
  have B1 := Lib.hid hb1
  have hz1 : w.heap.size ≤ w1.heap.size := hb1.size
  have RA := Lib.hid (HA.out.below hb1)
  have RB := Lib.hid (HB.out.below hb1)
  clear hb1
  go_upto_if 16 with (fail)
  go_cut [5] (fun v wx => ∃ N : Nat, N ≤ n ∧ N ≤ m ∧ v = .int .i64 N ∧ wx = w1)
  case first =>
    by_cases hnm : m < n
    · go_wp2_with fail
      go_meet
      exact ⟨m, by omega, by omega, rfl, rfl⟩
    · go_wp2_with fail
      go_meet
      exact ⟨n, by omega, by omega, rfl, rfl⟩
  case rest =>
    obtain ⟨N, hNn, hNm, rfl, rfl⟩ := hcut
    go_wp2
    go_loopw [6, 7, 8] (fun v6 v7 v8 wr => ∃ (k : Nat) (A1 A2 : Option Addr) (c1 c2 : Nat), k ≤ N ∧ v8 = .int .i64 k ∧ v6 = .slice A1 k c1 ∧ v7 = .slice A2 k c2 ∧
      Hid (Two wc.heap.size wc wr A1 k c1 (Wire.xorL (xa.take k) (xb.take k)) A2 c2 (List.replicate k 0))) (fun _ _ i _ => N - (intOf i).toNat)
    case atStart => exact ⟨0, none, none, 0, 0, Nat.zero_le _, rfl, rfl, rfl, World.ownsRow_nil _ _ _ _, World.ownsRow_nil _ _ _ _, (fun _ h => by cases h), Below.refl _ _, Nat.le_refl _⟩
    case round =>
      obtain ⟨k, A1, A2, c1, c2, hk, rfl, rfl, rfl, HS⟩ := hrel
      by_cases hlt : k < N
      · obtain ⟨h1, h2, h3, h4, h5⟩ := HS.out
        have hRA := RA.out.below h4
        have hRB := RB.out.below h4
        obtain ⟨a, ea, hca⟩ := hRA.cell (by omega)
        obtain ⟨b, eb, hcb⟩ := hRB.cell (by omega)
        cases ea
        cases eb
        have ca : wr.cell? (a.add k) = some (.int .u8 (bg xa k)) := hca k (by omega)
        have cb : wr.cell? (b.add k) = some (.int .u8 (bg xb k)) := hcb k (by omega)
        have i1 : (k : Int) < (n : Int) := by omega
        have i2 : (k : Int) < (m : Int) := by omega
        have i3 : k < n := by omega
        have i4 : k < m := by omega
        have H1 := Lib.hid h1
        have H2 := Lib.hid h2
        have H5 := Lib.hid (show ∀ o, wc.heap.size ≤ ((wr.alloc o).drew).heap.size from fun o => by simp; omega)
        have b1 : k + 1 ≤ maxLen := by simp only [maxLen]; omega
        have b2 : (k + 1) * 1 ≤ 140737488355328 := by omega
        have hnews := Lib.hid (news_byte wr _ (xa.getD k 0 ^^^ xb.getD k 0) 5 (xor_byte xa xb k))
        clear h1 h2 h3 h4 h5 hRA hRB hca hcb
        go_wp2
        go_region_law (refine step_app rfl (.tmp 24) (.tmp 34) rfl eltByte wc.heap.size (.slice A1 k c1) k (Bv (Wire.xorL (xa.take k) (xb.take k))) rfl (H1.out.alloc _) (some ⟨wr.heap.size, 0, none⟩) 1 1 (Bv [xa.getD k 0 ^^^ xb.getD k 0]) rfl rfl (fun e => nomatch e) (fun ad e => Option.some.inj e ▸ hnews.out) (Bv_one _) b1 b2 (H5.out _) ?_; intro A3 c3 w3 hown3 hgrow3 hat3; have S3 := Lib.hid (HS.out.first (grown_alloc_drew _ _ _) hown3 hgrow3 hat3 (le_alloc_drew _ _)); clear hown3 hgrow3 hat3)
        all_goals
          go_wp2_with (at_builtin; refine wpList_app rfl (.tmp 36) (.tmp 37) rfl eltByte wc.heap.size (.slice A2 k c2) k (Bv (List.replicate k 0)) rfl (S3.out.2.1.alloc _) (some ⟨w3.heap.size, 0, none⟩) 1 1 (Bv [0]) rfl rfl (fun e => nomatch e) (fun ad e => Option.some.inj e ▸ news_byte w3 0 0 5 rfl) (Bv_one _) b1 b2 (le_alloc S3.out.2.2.2.2 _) ?_)
          intro A4 c4 w4 hown4 hgrow4 hat4
          have S4 := Lib.hid (Two.second S3.out rfl (World.grownBy_alloc _ _ _) hown4 hgrow4 hat4 (Nat.le_succ _))
          clear hown4 hgrow4 hat4
          go_wp2
          go_roundw
          case rel =>
            refine ⟨k + 1, A3, A4, c3, c4, by omega, by go_num, rfl, rfl, ?_⟩
            rw [xorL_snoc xa xb k (by have := RA.out.len; omega) (by have := RB.out.len; omega), List.replicate_succ']
            exact S4.out
          case measure => simp [intOf]; omega
      · obtain rfl : k = N := by omega
        go_wp2
        obtain ⟨h1, h2, h3, h4, h5⟩ := HS.out
        have hT : Tab wr := HT.out.below (B1.out.trans (h4.mono hz1)) h0
        have hB : Hid (Below w.heap.size w wr) := B1.out.trans (h4.mono hz1)
        have q1 := fun nq => sum_q A1 k c1 (Wire.xorL (xa.take k) (xb.take k)) (wr.drewN nq) (own_rd h1).drewN hT
        have q2 := fun nq => sum_q A k c (xa.take k) (wr.drewN nq) ((RA.out.below h4).take k hNn).drewN hT
        have q3 := fun nq => sum_q B k d (xb.take k) (wr.drewN nq) ((RB.out.below h4).take k hNm).drewN hT
        have q4 := fun nq => sum_q A2 k c2 (List.replicate k 0) (wr.drewN nq) (own_rd h2).drewN hT
        have Q1 := Lib.hid q1
        have Q2 := Lib.hid q2
        have Q3 := Lib.hid q3
        have Q4 := Lib.hid q4
        clear q1 q2 q3 q4 h1 h2 h3 h4 h5 hT
        have hkc : (k : Int) ≤ (c : Int) := by omega
        have hkd : (k : Int) ≤ (d : Int) := by omega
        go_quiet ((first | (go_at_call 15; (with_reducible exact Calls.quiet_of_same (Q1.out _))) | (go_at_call 15; (with_reducible exact Calls.quiet_of_same (Q2.out _))) | (go_at_call 15; (with_reducible exact Calls.quiet_of_same (Q3.out _))) | (go_at_call 15; (with_reducible exact Calls.quiet_of_same (Q4.out _)))))
        go_wp2
        go_ret
        have hl1 := RA.out.len
        have hl2 := RB.out.len
        have hx := Wire.sum_adds (xa.take k) (xb.take k) (by simp; omega)
        rw [show (xa.take k).length = k by simp; omega] at hx
        refine ⟨ret_bool ?_, Below.drewN hB.out _⟩
        rw [hx, x32 _ _ (Wire.sumN_lt _) (Wire.sumN_lt _), x32 _ _ (Wire.lt_xor (Wire.sumN_lt _) (Wire.sumN_lt _)) (Wire.sumN_lt _)]
        simp
end Go.Proofs.YtkdikbenheagmaaDoor
