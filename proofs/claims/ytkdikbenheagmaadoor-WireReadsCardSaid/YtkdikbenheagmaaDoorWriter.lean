/-
  The walks of wire.Writer's methods.
-/
import Derived.Test.YtkdikbenheagmaaDoorBase
import Derived.Test.YtkdikbenheagmaaDoorNum
set_option linter.unusedVariables false
set_option linter.unusedSimpArgs false
namespace Go.Proofs.YtkdikbenheagmaaDoor
open Go.RowKit

/-- A writer at block p: what was laid down, and its error. -/
structure Wr (w : World) (p : Nat) (A : Option Addr) (c : Nat) (bs : List UInt8) (e : Int) : Prop where
  buf : w.cell? ⟨p, 0, none⟩ = some (.slice A bs.length c)
  own : w.ownsRow (p + 1) 5 1 (.slice A bs.length c) bs.length (Bv bs)
  err : w.cell? ⟨p, 1, none⟩ = some (.int .i64 e)
  f0 : w.frozen? ⟨p, 0, none⟩ = false
  f1 : w.frozen? ⟨p, 1, none⟩ = false

theorem open_yes (p : Nat) (w : World) (h : w.cell? ⟨p, 1, none⟩ = some (.int .i64 0)) :
    Calls Tryd.prog 57 #[.pointer (some ⟨p, 0, none⟩)] w fun e w' => e = .returned (.bool true) ∧ w = w' := by
  go_enter Tryd.func57, Tryd.ntmps57
  go_wp2
  go_ret
  exact ⟨rfl, rfl⟩
theorem open_no (p : Nat) (w : World) (e : Int) (h : w.cell? ⟨p, 1, none⟩ = some (.int .i64 e)) (he : (e == 0) = false) :
    Calls Tryd.prog 57 #[.pointer (some ⟨p, 0, none⟩)] w fun e w' => e = .returned (.bool false) ∧ w = w' := by
  go_enter Tryd.func57, Tryd.ntmps57
  go_wp2
  go_ret
  exact ⟨rfl, rfl⟩
theorem open_nil (w : World) : Calls Tryd.prog 57 #[.pointer none] w fun e w' => e = .returned (.bool false) ∧ w = w' := by
  go_enter Tryd.func57, Tryd.ntmps57
  go_wp2
  go_ret
  exact ⟨rfl, rfl⟩

theorem info_u8 : (Tryd.prog.info? 5).map (fun i => (i.zero, i.size, i.bytes)) = some (some (.int .u8 0), 1, 1) := by kernel_rfl

/-- Behind an append and before the store of its value. -/
theorem Wr.stands {w W w1 : World} {p : Nat} {A : Option Addr} {c : Nat} {bs : List UInt8} {e : Int} (h : Wr w p A c bs e) (hW : w.grownBy W none) (hg : W.grownBy w1 (Value.slice A bs.length c).ownBlock) :
    w1.cell? ⟨p, 0, none⟩ = some (.slice A bs.length c) ∧ w1.cell? ⟨p, 1, none⟩ = some (.int .i64 e) ∧ w1.frozen? ⟨p, 0, none⟩ = false ∧ w1.frozen? ⟨p, 1, none⟩ = false ∧ Below p w w1 ∧ p < w1.heap.size := by
  have hp : p < w.heap.size := World.block_lt_of_cell? w _ h.buf
  have hpW : p < W.heap.size := Nat.lt_of_lt_of_le hp hW.size
  have hne : ∀ k, k ≤ p → some k ≠ (Value.slice A bs.length c).ownBlock := by
    intro k hk e
    have := (h.own.lt k e.symm).1
    omega
  have e1 : ∀ k, k ≤ p → w1.heap[k]? = w.heap[k]? := fun k hk => (hg.block k (by omega) (hne k hk)).trans (hW.block k (by omega) (by simp))
  refine ⟨?_, ?_, ?_, ?_, ⟨hg.os.trans hW.os, hg.tape.trans hW.tape, hg.output.trans hW.output, Nat.le_trans hW.size hg.size, fun k hk => e1 k (by omega)⟩, Nat.lt_of_lt_of_le hpW hg.size⟩
  · rw [World.cell?_of_block (w := w) (e1 p (Nat.le_refl _))]; exact h.buf
  · rw [World.cell?_of_block (w := w) (e1 p (Nat.le_refl _))]; exact h.err
  · rw [World.frozen?_of_block (w := w) (e1 p (Nat.le_refl _))]; exact h.f0
  · rw [World.frozen?_of_block (w := w) (e1 p (Nat.le_refl _))]; exact h.f1
/-- Behind the store. -/
theorem Wr.stored {w w1 : World} {p : Nat} {A : Option Addr} {c : Nat} {bs ys : List UInt8} {e : Int} {A' : Option Addr} {cap n : Nat} (hn : n = (bs ++ ys).length)
    (hs : w1.cell? ⟨p, 0, none⟩ = some (.slice A bs.length c) ∧ w1.cell? ⟨p, 1, none⟩ = some (.int .i64 e) ∧ w1.frozen? ⟨p, 0, none⟩ = false ∧ w1.frozen? ⟨p, 1, none⟩ = false ∧ Below p w w1 ∧ p < w1.heap.size)
    (ho : w1.ownsRow (p + 1) 5 1 (.slice A' n cap) n (Bv bs ++ Bv ys)) :
    Wr (w1.setCell ⟨p, 0, none⟩ (.slice A' n cap)) p A' cap (bs ++ ys) e ∧ Below p w (w1.setCell ⟨p, 0, none⟩ (.slice A' n cap)) := by
  obtain ⟨h0, h1, h2, h3, h4, h5⟩ := hs
  subst hn
  refine ⟨⟨World.cell?_setCell_same _ _ _ h0, ?_, ?_, ?_, ?_⟩, h4.setCell (Nat.le_refl _) _⟩
  · rw [Bv_append]
    exact ownsRow_setCell_below ho (by show p < p + 1; omega) _
  · rw [World.cell?_setCell_other _ _ _ _ (by simp)]; exact h1
  · rw [World.frozen?_setCell]; exact h2
  · rw [World.frozen?_setCell]; exact h3
theorem one_news (w : World) (x : Value) (t : TypeId) : ∀ j u, [x][j]? = some u → (w.alloc (.cells #[x] t)).cell? ((⟨w.heap.size, 0, none⟩ : Addr).add j) = some u :=
  World.news_of_block (cs := #[x]) (t := t) (fr := (0, 0)) (heap_alloc_new w _)

theorem news_byte (w : World) (z : Int) (x : UInt8) (t : TypeId) (hz : z = (x.toNat : Int)) : ∀ j u, (Bv [x])[j]? = some u → (w.alloc (.cells #[.int .u8 z] t)).cell? ((⟨w.heap.size, 0, none⟩ : Addr).add j) = some u := by
  subst hz
  exact one_news w _ t

theorem news_lit (z : Int) (x : UInt8) (hz : z = (x.toNat : Int)) : ∀ (j : Nat) (u : Value), (Bv [x])[j]? = some u → [Value.int .u8 z][j]? = some u := by
  subst hz
  exact fun _ _ h => h
theorem wrap_byte (v m : Nat) : IntKind.u8.wrap ((v : Int) / 2 ^ (8 * (m : Int)).toNat) = ((UInt8.ofNat (v / 256 ^ m)).toNat : Int) := by
  have h : (8 * (m : Int)).toNat = 8 * m := by omega
  have h2 : (v : Int) / 2 ^ (8 * m) = ((v / 256 ^ m : Nat) : Int) := by
    rw [Int.natCast_ediv, Int.natCast_pow, Int.pow_mul]; rfl
  rw [h, h2, IntKind.wrap_u8]
  rfl

/-- the counting loop's test -/
theorem nby_test (v k : Nat) (h : k < Wire.nby v) : (((v : Int) / 2 ^ (8 * k) != 0) = true) := by
  have h1 := Wire.nby_lt h
  have h2 : (256 : Nat) ^ k = 2 ^ (8 * k) := by rw [Nat.pow_mul]
  rw [h2] at h1
  have h3 : 0 < v / 2 ^ (8 * k) := Nat.div_pos h1 (Nat.pow_pos (by omega))
  rw [bne_iff_ne]
  have h4 : (v : Int) / 2 ^ (8 * k) = ((v / 2 ^ (8 * k) : Nat) : Int) := by rw [Int.natCast_ediv]; norm_cast
  rw [h4]; omega
theorem nby_stop (v : Nat) : (((v : Int) / 2 ^ (8 * Wire.nby v) != 0) = false) := by
  have h1 := Wire.lt_nby v
  have h2 : (256 : Nat) ^ Wire.nby v = 2 ^ (8 * Wire.nby v) := by rw [Nat.pow_mul]
  rw [h2] at h1
  have h4 : (v : Int) / 2 ^ (8 * Wire.nby v) = ((v / 2 ^ (8 * Wire.nby v) : Nat) : Int) := by rw [Int.natCast_ediv]; norm_cast
  rw [bne_eq_false_iff_eq, h4, Nat.div_eq_of_lt h1]; rfl

set_option maxRecDepth 100000 in
set_option maxHeartbeats 400000 in
theorem put_any (p : Nat) (v : Nat) (hv : v < 18446744073709551616) (A : Option Addr) (c : Nat) (bs : List UInt8) (w : World) (h : Wr w p A c bs 0) (hb : bs.length + 9 ≤ 140737488355328) :
    Calls Tryd.prog 58 #[.pointer (some ⟨p, 0, none⟩), .int .u64 v] w fun e w' => e = .returned (.tuple #[]) ∧ Below p w w' ∧ ∃ A' c', Wr w' p A' c' (bs ++ Wire.form v) 0 := by
  obtain ⟨i0, hi, hz0, hz1, hz2⟩ := info_parts info_u8
  have H := Lib.hid h
  have hV := Lib.hid hv
  have hbuf := h.buf
  have hp : p < w.heap.size := World.block_lt_of_cell? w _ hbuf
  have hown := Lib.hid h.own
  have HI := Lib.hid hi
  have HZ0 := Lib.hid hz0
  have HZ1 := Lib.hid hz1
  have HZ2 := Lib.hid hz2
  clear h hi hz0 hz1 hz2
  go_enter Tryd.func58, Tryd.ntmps58
  go_wp2
  go_loop [4] (fun i => ∃ k : Nat, k ≤ Wire.nby v ∧ i = .int .i64 k) (fun i => 8 - (intOf i).toNat)
  case atStart => exact ⟨0, Nat.zero_le _, rfl⟩
  case round =>
    obtain ⟨k, hk, rfl⟩ := hrel
    have h8 := Wire.nby_le8 hV.out
    by_cases hlt : k < Wire.nby v
    · have ht := nby_test v k hlt
      go_wp2
      go_round
      case rel => exact ⟨k + 1, by omega, by go_num⟩
      case measure => simp [intOf]; omega
    · obtain rfl : Wire.nby v = k := by omega
      have ht := nby_stop v
      by_cases hk8 : Wire.nby v < 8
      all_goals
        go_wp2_with (at_builtin; refine wpList_append_lies _ rfl (.tmp 21) (.tmp 24) 22 rfl (p + 1) 5 i0 (.int .u8 0) 1 1 Tryd.underlying22 HI.out HZ0.out HZ1.out HZ2.out rfl (by decide) _ _ _ rfl (hown.out.alloc _) ⟨w.heap.size, 0, none⟩ 1 1 (Bv [UInt8.ofNat (Wire.nby v)]) rfl rfl ?c1 ?c2 (by decide) ?c3 ?c4 ?c5 _ rfl ?_)
        case c1 => first | exact news_byte _ _ _ _ (by rw [Wire.nby_toNat hV.out]) | exact news_lit _ _ (by rw [Wire.nby_toNat hV.out])
        case c2 => exact Bv_one _
        case c3 => simp only [maxLen]; omega
        case c4 => omega
        case c5 => first | omega | (simp; omega)
        intro g cap w1 hown1 hgrow1 _ _
        have R := H.out.stands (World.grownBy_alloc _ _ _) hgrow1
        have S := Lib.hid (Wr.stored (by simp) R hown1)
        obtain ⟨r0, _, r2, _, _, _⟩ := R
        clear hgrow1 hown1
        go_wp2
        go_loopw [29] (fun i wr => ∃ j : Nat, j ≤ Wire.nby v ∧ i = .int .i64 j ∧ Hid (∃ L A' c', bs ++ [UInt8.ofNat (Wire.nby v)] ++ (Wire.be (Wire.nby v) v).take j = L ∧ Wr wr p A' c' L 0 ∧ Below p w wr)) (fun i _ => Wire.nby v - (intOf i).toNat)
        case atStart => exact ⟨0, Nat.zero_le _, rfl, _, _, _, by rw [List.take_zero, List.append_nil], S.out.1, S.out.2⟩
        case round =>
          obtain ⟨j, hj, rfl, HS⟩ := hrel
          clear r0 r2 hbuf S
          by_cases hjk : j < Wire.nby v
          · obtain ⟨L, A', c', hL, hw', hb'⟩ := HS.out
            have hLl : L.length ≤ bs.length + 8 := by
              rw [← hL, List.length_append, List.length_append, List.length_take, Wire.be_length]
              show bs.length + 1 + _ ≤ _
              omega
            have hbuf' := hw'.buf
            have hpr : p < wr.heap.size := World.block_lt_of_cell? wr _ hbuf'
            have hown' := Lib.hid hw'.own
            have HW := Lib.hid hw'
            have HB := Lib.hid hb'
            have HL := Lib.hid hL
            clear HS hw' hb' hL
            obtain ⟨m, hm⟩ : ∃ m, Wire.nby v = j + 1 + m := ⟨Wire.nby v - 1 - j, by omega⟩
            have hm8 : m < 8 := by omega
            have e1 : IntKind.i64.wrap ((Wire.nby v : Int) - 1) = (Wire.nby v : Int) - 1 := by rw [IntKind.wrap_i64]; omega
            have e2 : IntKind.i64.wrap ((Wire.nby v : Int) - 1 - (j : Int)) = (m : Int) := by rw [IntKind.wrap_i64]; omega
            have e3 : IntKind.i64.wrap (8 * (m : Int)) = 8 * (m : Int) := by rw [IntKind.wrap_i64]; omega
            have HM := Lib.hid hm
            have b1 : L.length + 1 ≤ maxLen := by simp only [maxLen]; omega
            have b2 : (L.length + 1) * 1 ≤ 140737488355328 := by omega
            have hnews := Lib.hid (news_byte wr _ (UInt8.ofNat (v / 256 ^ m)) 5 (wrap_byte v m))
            have hb5 := Lib.hid (show ∀ o, p + 1 ≤ ((wr.alloc o).drew).heap.size from fun o => by simp; omega)
            have hlen := Lib.hid (show L.length + 1 = (L ++ [UInt8.ofNat (v / 256 ^ m)]).length from by simp)
            clear hm
            go_wp2
            go_region_law (refine step_append_lies _ rfl (.tmp 36) (.tmp 45) 22 rfl (p + 1) 5 i0 (.int .u8 0) 1 1 Tryd.underlying22 HI.out HZ0.out HZ1.out HZ2.out rfl Nat.zero_lt_one (.slice A' L.length c') L.length (Bv L) rfl (hown'.out.alloc _) ⟨wr.heap.size, 0, none⟩ 1 1 (Bv [UInt8.ofNat (v / 256 ^ m)]) rfl rfl hnews.out (Bv_one _) Nat.zero_lt_one b1 b2 (hb5.out _) _ rfl ?_; intro g cap w1 hown1 hgrow1 _ _; have R := HW.out.stands (grown_alloc_drew _ _ _) hgrow1; have S := Lib.hid (Wr.stored hlen.out R hown1); obtain ⟨r0, _, r2, _, _, _⟩ := R; clear hgrow1 hown1)
            all_goals
              clear e1 e2 e3 r0 r2
              go_wp2
              go_roundw
              case rel =>
                refine ⟨j + 1, by omega, by go_num, _, _, _, ?_, S.out.1, ?_⟩
                · rw [← HL.out, List.append_assoc _ _ [_]]
                  congr 1
                  rw [List.take_succ_eq_append_getElem (by rw [Wire.be_length]; exact hjk)]
                  have hg := Wire.be_get (Wire.nby v) v j hjk
                  rw [show Wire.nby v - 1 - j = m by have := HM.out; omega, List.getD_eq_getElem?_getD, List.getElem?_eq_getElem (by rw [Wire.be_length]; exact hjk)] at hg
                  rw [← hg]; rfl
                · exact HB.out.trans S.out.2
              case measure => simp [intOf]; omega
          · obtain rfl : j = Wire.nby v := by omega
            go_wp2
            go_end0
            obtain ⟨L, A', c', hL, hw', hb'⟩ := HS.out
            rw [List.take_of_length_le (Nat.le_of_eq (Wire.be_length _ _)), List.append_assoc] at hL
            subst hL
            exact ⟨rfl, hb', A', c', hw'⟩
end Go.Proofs.YtkdikbenheagmaaDoor
