/-
  The walks of wire.Reader's methods.
-/
import Derived.Test.YtkdikbenheagmaaDoorBase
import Derived.Test.YtkdikbenheagmaaDoorNum
set_option linter.unusedVariables false
set_option linter.unusedSimpArgs false
namespace Go.Proofs.YtkdikbenheagmaaDoor
open Go.RowKit

/-- what a cut from a place on is, without a case on the capacity -/
theorem run_cut {P : Program} (t e : TypeId) {i : TypeInfo} (ht : P.underlying t = some (.slice e)) (hi : P.info? e = some i) (hsz : i.size = 1) (A : Option Addr) (n c m : Nat) (hm : m ≤ n) :
    ∃ A' : Option Addr, (∀ W : World, (Instr.slice t (.slice A n c) (some (.int .i64 (m : Int))) none none).run P W = .ok (.slice A' (n - m) (c - m)) W) ∧
      (∀ (w : World) (bs : List UInt8), Rd w A n bs → n ≤ c → Rd w A' (n - m) (bs.drop m)) := by
  refine ⟨if c = m then A else A.map (·.add m), fun W => ?_, fun w bs h hc => ?_⟩
  · have hel : P.elem t = e := by simp [Program.elem, ht]
    have hu : P.underlying t = some (.slice (P.elem t)) := by rw [hel]; exact ht
    rw [run_slice_l W t A n c hu .i64 (m : Int) (Int.natCast_nonneg _) (by omega), hel]
    simp [sizeOf, typeInfo, hi, hsz, sliced, Result.andThen]
  · by_cases h0 : c = m
    · rw [if_pos h0]
      have h1 : n - m = 0 := by omega
      rw [h1]
      refine ⟨by rw [List.length_drop, h.len]; omega, by omega, fun h2 => by omega⟩
    · rw [if_neg h0]
      rcases A with _ | ad
      · have h1 := h.none_zero rfl
        have h2 : n - m = 0 := by omega
        rw [h2]
        exact ⟨by rw [List.length_drop, h.len]; omega, by omega, fun h3 => by omega⟩
      · exact h.drop m hm

/-- A reader at block p: what it reads, how far it is, its error. -/
structure Rr (w : World) (p : Nat) (A : Option Addr) (c : Nat) (bs : List UInt8) (at_ : Nat) (e : Int) : Prop where
  buf : w.cell? ⟨p, 0, none⟩ = some (.slice A bs.length c)
  rd : Rd w A bs.length bs
  cap : bs.length ≤ c
  ne : ∀ ad, A = some ad → ad.block ≠ p
  pos : w.cell? ⟨p, 1, none⟩ = some (.int .i64 at_)
  err : w.cell? ⟨p, 2, none⟩ = some (.int .i64 e)
  made : w.cell? ⟨p, 3, none⟩ = some (.bool true)
  f1 : w.frozen? ⟨p, 1, none⟩ = false
  f2 : w.frozen? ⟨p, 2, none⟩ = false
  le : at_ ≤ bs.length
/-- Behind a call that writes elsewhere. -/
theorem Rr.kept {w w' : World} {p : Nat} {A : Option Addr} {c : Nat} {bs : List UInt8} {at_ : Nat} {e : Int} (h : Rr w p A c bs at_ e) {row : Option Nat} (hg : w.grownBy w' row) (hp : some p ≠ row) (hA : ∀ ad, A = some ad → some ad.block ≠ row) : Rr w' p A c bs at_ e := by
  have hb : w'.heap[p]? = w.heap[p]? := hg.block p (World.block_lt_of_cell? w _ h.buf) hp
  have hc : ∀ o, w'.cell? ⟨p, o, none⟩ = w.cell? ⟨p, o, none⟩ := fun o => World.cell?_of_block (a := ⟨p, o, none⟩) hb
  have hf : ∀ o, w'.frozen? ⟨p, o, none⟩ = w.frozen? ⟨p, o, none⟩ := fun o => World.frozen?_of_block (a := ⟨p, o, none⟩) hb
  exact ⟨(hc 0).trans h.buf, h.rd.grown hg hA, h.cap, h.ne, (hc 1).trans h.pos, (hc 2).trans h.err, (hc 3).trans h.made, (hf 1).trans h.f1, (hf 2).trans h.f2, h.le⟩
theorem grown_setCell (w : World) (a : Addr) (v : Value) : w.grownBy (w.setCell a v) (some a.block) :=
  ⟨rfl, rfl, rfl, by simp, fun k _ hne => Below.heap_setCell _ _ _ _ (fun e => hne (by rw [e]))⟩
theorem grown_drewN {w w' : World} {row : Option Nat} (h : w.grownBy w' row) (n : Nat) : w.grownBy (w'.drewN n) row := ⟨h.os, h.tape, h.output, h.size, h.block⟩
/-- The place is set. -/
theorem Rr.setPos {w : World} {p : Nat} {A : Option Addr} {c : Nat} {bs : List UInt8} {at_ at' : Nat} {e : Int} (h : Rr w p A c bs at_ e) (hl : at' ≤ bs.length) : Rr (w.setCell ⟨p, 1, none⟩ (.int .i64 at')) p A c bs at' e := by
  have ho : ∀ o, o ≠ 1 → (w.setCell ⟨p, 1, none⟩ (.int .i64 at')).cell? ⟨p, o, none⟩ = w.cell? ⟨p, o, none⟩ := fun o ho => World.cell?_setCell_other _ _ _ _ (fun e => ho (by injection e with _ e _; exact e.symm))
  exact ⟨(ho 0 (by decide)).trans h.buf, h.rd.grown (grown_setCell _ _ _) (fun ad ea => by have := h.ne ad ea; simpa using this), h.cap, h.ne, World.cell?_setCell_same _ _ _ h.pos, (ho 2 (by decide)).trans h.err, (ho 3 (by decide)).trans h.made,
    by rw [World.frozen?_setCell]; exact h.f1, by rw [World.frozen?_setCell]; exact h.f2, hl⟩
/-- The error is set. -/
theorem Rr.setErr {w : World} {p : Nat} {A : Option Addr} {c : Nat} {bs : List UInt8} {at_ : Nat} {e : Int} (h : Rr w p A c bs at_ e) (e' : Int) : Rr (w.setCell ⟨p, 2, none⟩ (.int .i64 e')) p A c bs at_ e' := by
  have ho : ∀ o, o ≠ 2 → (w.setCell ⟨p, 2, none⟩ (.int .i64 e')).cell? ⟨p, o, none⟩ = w.cell? ⟨p, o, none⟩ := fun o ho => World.cell?_setCell_other _ _ _ _ (fun e => ho (by injection e with _ e _; exact e.symm))
  exact ⟨(ho 0 (by decide)).trans h.buf, h.rd.grown (grown_setCell _ _ _) (fun ad ea => by have := h.ne ad ea; simpa using this), h.cap, h.ne, (ho 1 (by decide)).trans h.pos, World.cell?_setCell_same _ _ _ h.err, (ho 3 (by decide)).trans h.made,
    by rw [World.frozen?_setCell]; exact h.f1, by rw [World.frozen?_setCell]; exact h.f2, h.le⟩
theorem Rr.drewN {w : World} {p : Nat} {A : Option Addr} {c : Nat} {bs : List UInt8} {at_ : Nat} {e : Int} (h : Rr w p A c bs at_ e) (n : Nat) : Rr (w.drewN n) p A c bs at_ e :=
  h.kept (row := none) (grown_drewN (World.grownBy.refl _ _) n) (by simp) (by simp)

theorem ropen_yes (p : Nat) (w : World) (h3 : w.cell? ⟨p, 3, none⟩ = some (.bool true)) (h : w.cell? ⟨p, 2, none⟩ = some (.int .i64 0)) :
    Calls Tryd.prog 55 #[.pointer (some ⟨p, 0, none⟩)] w fun e w' => e = .returned (.bool true) ∧ w = w' := by
  go_enter Tryd.func55, Tryd.ntmps55
  go_wp2
  go_ret
  exact ⟨rfl, rfl⟩
theorem ropen_no (p : Nat) (w : World) (e : Int) (h3 : w.cell? ⟨p, 3, none⟩ = some (.bool true)) (h : w.cell? ⟨p, 2, none⟩ = some (.int .i64 e)) (he : (e == 0) = false) :
    Calls Tryd.prog 55 #[.pointer (some ⟨p, 0, none⟩)] w fun e w' => e = .returned (.bool false) ∧ w = w' := by
  go_enter Tryd.func55, Tryd.ntmps55
  go_wp2
  go_ret
  exact ⟨rfl, rfl⟩
theorem ropen_zero (p : Nat) (w : World) (h3 : w.cell? ⟨p, 3, none⟩ = some (.bool false)) :
    Calls Tryd.prog 55 #[.pointer (some ⟨p, 0, none⟩)] w fun e w' => e = .returned (.bool false) ∧ w = w' := by
  go_enter Tryd.func55, Tryd.ntmps55
  go_wp2
  go_ret
  exact ⟨rfl, rfl⟩
theorem ropen_nil (w : World) : Calls Tryd.prog 55 #[.pointer none] w fun e w' => e = .returned (.bool false) ∧ w = w' := by
  go_enter Tryd.func55, Tryd.ntmps55
  go_wp2
  go_ret
  exact ⟨rfl, rfl⟩

theorem shl8_or (v : Nat) (b : Nat) (hv : v < 72057594037927936) (hb : b < 256) : bits BinOp.or IntKind.u64 ((v : Int) * 256) (b : Int) = ((v * 256 + b : Nat) : Int) := by
  have h1 : ((v : Int) * 256) = ((v * 256 : Nat) : Int) := by omega
  rw [h1, u64_or_nat _ _ (by omega) (by omega)]
  rw [nat_join 8 (v * 256) b (by omega) (by omega)]

theorem get_ret {a : Int} {b b' : Int} {c : Int} (h : b = b') : Ending.returned (.tuple #[.int .u64 a, .int .i64 b, .int .i64 c]) = Ending.returned (.tuple #[.int .u64 a, .int .i64 b', .int .i64 c]) := by rw [h]
set_option maxRecDepth 100000 in
set_option maxHeartbeats 400000 in
theorem get_any (p : Nat) (A : Option Addr) (c : Nat) (bs : List UInt8) (at_ : Nat) (e0 : Int) (w : World) (h : Rr w p A c bs at_ e0) :
    Calls Tryd.prog 56 #[.pointer (some ⟨p, 0, none⟩)] w fun e w' =>
      e = .returned (.tuple #[.int .u64 ((Wire.num (bs.drop at_)).1 : Nat), .int .i64 (if (Wire.num (bs.drop at_)).2.2 = 0 then ((at_ + (Wire.num (bs.drop at_)).2.1 : Nat) : Int) else 0), .int .i64 ((Wire.num (bs.drop at_)).2.2 : Nat)]) ∧ ∃ m, w' = w.drewN m := by
  have hbuf := h.buf
  have hpos := h.pos
  have hle := h.le
  have hcap := h.cap
  have hlen := h.rd.le
  obtain ⟨i0, hi, hz0, hz1, hz2⟩ := info_parts (show (Tryd.prog.info? 5).map (fun i => (i.zero, i.size, i.bytes)) = some (some (.int .u8 0), 1, 1) by kernel_rfl)
  obtain ⟨A', hcut, hrd⟩ := run_cut (P := Tryd.prog) 22 5 Tryd.underlying22 hi hz1 A bs.length c at_ hle
  have hR := hrd w bs h.rd hcap
  have HL := Lib.hid (show (bs.drop at_).length = bs.length - at_ from List.length_drop)
  clear h hrd hi hz0 hz1 hz2
  have hp0 : (0 : Int) ≤ (at_ : Int) := by omega
  have hp1 : (at_ : Int) ≤ (bs.length : Int) := by omega
  generalize hr : bs.drop at_ = r at hR HL
  have HR := Lib.hid hR
  clear hR hr
  by_cases h0 : bs.length - at_ = 0
  · have hL0 : bs.length ≤ at_ := by omega
    obtain rfl : r = [] := List.eq_nil_of_length_eq_zero (by have := HL.out; omega)
    go_enter Tryd.func56, Tryd.ntmps56
    go_wp2
    go_quiet (fail)
    go_wp2
    go_ret3
    exact ⟨rfl, _, rfl⟩
  · cases r with
    | nil => exact absurd HL.out.symm h0
    | cons k t =>
    obtain ⟨ad, ea, hca⟩ := HR.out.cell (by omega)
    subst ea
    have hbl : bs.length - at_ = t.length + 1 := by have := HL.out; simp at this; omega
    have hk := k.toNat_lt
    have c0 : w.cell? ad = some (.int .u8 (k.toNat : Int)) := by
      have := hca 0 (by omega)
      rwa [show ad.add 0 = ad from rfl] at this
    have ct : ∀ j, j < t.length → w.cell? (ad.add (1 + j)) = some (.int .u8 (bg t j)) := fun j hj => by
      rw [hca (1 + j) (by omega)]
      simp [bg, Nat.add_comm 1 j]
    have HC := Lib.hid ct
    clear hca ct
    have hpos0 : 0 < bs.length - at_ := by omega
    have hpos1 : ((bs.length - at_ : Nat) : Int) = (t.length : Int) + 1 := by omega
    have HP := Lib.hid hpos1
    have hn0 : (((bs.length - at_ : Nat) : Int) == 0) = false := beq_eq_false_iff_ne.2 (by omega)
    have HB := Lib.hid hbl
    clear hpos1 hbl
    by_cases h8 : 8 < k.toNat
    · have hr : Wire.num (k :: t) = (0, 0, 12) := by unfold Wire.num; simp only; rw [if_pos h8]
      rw [hr]
      have HRR := Lib.hid hr
      clear hr
      go_enter Tryd.func56, Tryd.ntmps56
      go_wp2
      go_quiet (fail)
      go_wp2
      go_ret3
      exact ⟨rfl, _, rfl⟩
    · by_cases hs : t.length < k.toNat
      · have hr : Wire.num (k :: t) = (0, 0, 10) := by unfold Wire.num; simp only; rw [if_neg h8, if_pos hs]
        rw [hr]
        have HRR := Lib.hid hr
        have hs1 : ((bs.length - at_ : Nat) : Int) - 1 < (k.toNat : Int) := by have := HP.out; omega
        clear hr
        go_enter Tryd.func56, Tryd.ntmps56
        go_wp2
        go_quiet (fail)
        go_wp2
        go_ret3
        exact ⟨rfl, _, rfl⟩
      · have hs1 : ¬ ((bs.length - at_ : Nat) : Int) - 1 < (k.toNat : Int) := by have := HP.out; omega
        by_cases hz : 0 < k.toNat ∧ t.getD 0 0 = 0
        · have hr : Wire.num (k :: t) = (0, 0, 12) := by unfold Wire.num; simp only; rw [if_neg h8, if_neg hs, if_pos hz]
          rw [hr]
          have HRR := Lib.hid hr
          have hk0 : (0 : Int) < (k.toNat : Int) := by omega
          have c1 : w.cell? ⟨ad.block, ad.off + 1, none⟩ = some (.int .u8 0) := by
            show w.cell? (ad.add (1 + 0)) = _
            have := HC.out 0 (by omega)
            rw [this]
            unfold bg
            rw [hz.2]; rfl
          have hlt1 : 1 < bs.length - at_ := by have := HB.out; omega
          clear hr hz
          go_enter Tryd.func56, Tryd.ntmps56
          go_wp2
          go_quiet (fail)
          go_wp2
          go_ret3
          exact ⟨rfl, _, rfl⟩
        · have hr : Wire.num (k :: t) = (Wire.dec (t.take k.toNat), 1 + k.toNat, 0) := by unfold Wire.num; simp only; rw [if_neg h8, if_neg hs, if_neg hz]
          rw [hr]
          have HRR := Lib.hid hr
          have HZ := Lib.hid hz
          clear hr hz
          by_cases hk0 : 0 < k.toNat
          · have hk1 : (0 : Int) < (k.toNat : Int) := by omega
            have c1 : w.cell? ⟨ad.block, ad.off + 1, none⟩ = some (.int .u8 (bg t 0)) := HC.out 0 (by omega)
            have hb0 : (bg t 0 == 0) = false := beq_eq_false_iff_ne.2 (by
              intro e
              apply HZ.out
              refine ⟨hk0, UInt8.toNat.inj ?_⟩
              unfold bg at e
              have h00 : (0 : UInt8).toNat = 0 := rfl
              omega)
            have hlt1 : 1 < bs.length - at_ := by have := HB.out; omega
            go_enter Tryd.func56, Tryd.ntmps56
            go_wp2
            go_quiet (fail)
            go_wp2
            clear c1 hb0 hlt1
            go_loop [7, 8, 44] (fun v _ i => ∃ j : Nat, j ≤ k.toNat ∧ i = .int .i64 j ∧ v = .int .u64 (Wire.dec (t.take j) : Nat)) (fun _ _ i => k.toNat - (intOf i).toNat)
            case atStart => exact ⟨0, Nat.zero_le _, rfl, rfl⟩
            case round =>
              obtain ⟨j, hj, rfl, rfl⟩ := hrel
              by_cases hlt : j < k.toNat
              · have cj : w.cell? (ad.add (1 + j)) = some (.int .u8 (bg t j)) := HC.out j (by omega)
                have hj8 : 1 + j < bs.length - at_ := by have := HB.out; omega
                have hbr := bg_range t j
                have hd : Wire.dec (t.take j) < 72057594037927936 := by
                  have h1 := Wire.dec_lt (t.take j)
                  have h2 : (t.take j).length ≤ 7 := by rw [List.length_take]; omega
                  have h3 : (256 : Nat) ^ (t.take j).length ≤ 256 ^ 7 := Nat.pow_le_pow_right (by omega) h2
                  have h4 : (256 : Nat) ^ 7 = 72057594037927936 := by decide
                  omega
                have HD := Lib.hid (show Wire.dec (t.take (j + 1)) = Wire.dec (t.take j) * 256 + (t.getD j 0).toNat by
                  rw [List.take_succ_eq_append_getElem (by omega), Wire.dec_snoc, List.getD_eq_getElem?_getD, List.getElem?_eq_getElem (show j < t.length by omega)]
                  rfl)
                go_wp2
                go_round
                case rel =>
                  refine ⟨j + 1, by omega, by go_num, ?_⟩
                  rw [HD.out, ← shl8_or _ _ hd (t.getD j 0).toNat_lt]
                  rfl
                case measure => simp [intOf]; omega
              · obtain rfl : j = k.toNat := by omega
                go_wp2
                have e1 : IntKind.i64.wrap ((at_ : Int) + 1) = (at_ : Int) + 1 := by rw [IntKind.wrap_i64]; omega
                have e2 : IntKind.i64.wrap ((at_ : Int) + 1 + (k.toNat : Int)) = (at_ : Int) + 1 + (k.toNat : Int) := by
                  have := HB.out
                  rw [IntKind.wrap_i64]; omega
                go_quiet (fail)
                go_wp2
                go_ret3
                exact ⟨get_ret (by omega), _, rfl⟩
          · have hk1 : k.toNat = 0 := by omega
            have HK := Lib.hid hk1
            have hk2 : ¬ (0 : Int) < (k.toNat : Int) := by omega
            clear hk1 hk0
            go_enter Tryd.func56, Tryd.ntmps56
            go_wp2
            go_quiet (fail)
            go_wp2
            refine wp_loop_rounds 1 ?_
            rw [rounds_succ]
            go_wp2
            have e1 : IntKind.i64.wrap ((at_ : Int) + 1) = (at_ : Int) + 1 := by rw [IntKind.wrap_i64]; omega
            have e2 : IntKind.i64.wrap ((at_ : Int) + 1 + (k.toNat : Int)) = (at_ : Int) + 1 + (k.toNat : Int) := by
              have := HB.out
              rw [IntKind.wrap_i64]; omega
            go_quiet (fail)
            go_wp2
            go_ret3
            refine ⟨?_, _, rfl⟩
            rw [HK.out]
            exact get_ret (by omega)
end Go.Proofs.YtkdikbenheagmaaDoor
