/-
  The walks of the document's number and reader.
-/
import Derived.Test.YtkdikbenheagmaaDoorReader4
import Derived.Deep.QuietTactic
set_option linter.unusedVariables false
set_option linter.unusedSimpArgs false
namespace Go.Proofs.YtkdikbenheagmaaDoor
open Go.RowKit

set_option maxRecDepth 100000 in
set_option maxHeartbeats 800000 in
theorem rnum_any (A : Option Addr) (n c : Nat) (bs : List UInt8) (at_ : Nat) (w : World) (hr : Rd w A n bs) (hle : at_ ≤ n) :
    Calls Tryd.prog 59 #[.slice A n c, .int .i64 at_] w fun e w' =>
      e = .returned (.tuple #[.int .u64 ((Wire.num (bs.drop at_)).1 : Nat), .int .i64 ((at_ + (Wire.num (bs.drop at_)).2.1 : Nat) : Int), .int .i64 ((Wire.num (bs.drop at_)).2.2 : Nat)]) ∧ w = w' := by
  have HR := Lib.hid hr
  have hl := hr.len
  have hn := hr.le
  have HL := Lib.hid hl
  clear hr hl
  by_cases h0 : at_ < n
  · obtain ⟨ad, rfl, hca⟩ := HR.out.cell (by omega)
    have HC := Lib.hid hca
    clear hca
    have hlt : at_ < bs.length := by rw [HL.out]; exact h0
    have hd : bs.drop at_ = bs[at_] :: bs.drop (at_ + 1) := List.drop_eq_getElem_cons hlt
    have hb0 : bg bs at_ = (bs[at_].toNat : Int) := by unfold bg; rw [List.getD_eq_getElem?_getD, List.getElem?_eq_getElem hlt]; rfl
    have c0 := HC.out at_ h0
    rw [hb0] at c0
    rw [hd]
    have HT := Lib.hid (fun j => (show (bs.drop (at_ + 1)).getD j 0 = bs.getD (at_ + 1 + j) 0 by simp [List.getD_eq_getElem?_getD]))
    have HTL := Lib.hid (show (bs.drop (at_ + 1)).length = n - at_ - 1 by rw [List.length_drop, HL.out]; omega)
    generalize bs[at_] = k at c0
    generalize bs.drop (at_ + 1) = t at HT HTL
    clear hd hb0 hlt
    have hk := k.toNat_lt
    by_cases h8 : 8 < k.toNat
    · have hr : Wire.num (k :: t) = (0, 0, 12) := by unfold Wire.num; simp only; rw [if_pos h8]
      rw [hr]
      clear hr
      go_enter Tryd.func59, Tryd.ntmps59
      go_wp2
      go_ret3
      exact ⟨rfl, rfl⟩
    · by_cases hs : t.length < k.toNat
      · have hr : Wire.num (k :: t) = (0, 0, 10) := by unfold Wire.num; simp only; rw [if_neg h8, if_pos hs]
        rw [hr]
        have hs1 : (n : Int) - (at_ : Int) - 1 < (k.toNat : Int) := by have := HTL.out; omega
        clear hr hs
        go_enter Tryd.func59, Tryd.ntmps59
        go_wp2
        go_ret3
        exact ⟨rfl, rfl⟩
      · have hs1 : ¬ (n : Int) - (at_ : Int) - 1 < (k.toNat : Int) := by have := HTL.out; omega
        have hs2 : k.toNat ≤ n - at_ - 1 := by have := HTL.out; omega
        by_cases hz : 0 < k.toNat ∧ t.getD 0 0 = 0
        · have hr : Wire.num (k :: t) = (0, 0, 12) := by unfold Wire.num; simp only; rw [if_neg h8, if_neg hs, if_pos hz]
          rw [hr]
          have hk0 : (0 : Int) < (k.toNat : Int) := by omega
          have c1 : w.cell? (ad.add (at_ + 1)) = some (.int .u8 0) := by
            rw [HC.out (at_ + 1) (by omega)]
            have := HT.out 0
            rw [hz.2] at this
            unfold bg
            rw [show at_ + 1 = at_ + 1 + 0 from rfl, ← this]; rfl
          have c1' : w.cell? ⟨ad.block, ad.off + (at_ + 1), none⟩ = some (.int .u8 0) := c1
          clear hr hz hs
          go_enter Tryd.func59, Tryd.ntmps59
          go_wp2
          go_ret3
          exact ⟨rfl, rfl⟩
        · have hr : Wire.num (k :: t) = (Wire.dec (t.take k.toNat), 1 + k.toNat, 0) := by unfold Wire.num; simp only; rw [if_neg h8, if_neg hs, if_neg hz]
          rw [hr]
          have HZ := Lib.hid hz
          clear hr hz hs
          by_cases hk0 : 0 < k.toNat
          · have hk1 : (0 : Int) < (k.toNat : Int) := by omega
            have c1 : w.cell? (ad.add (at_ + 1)) = some (.int .u8 (bg bs (at_ + 1))) := HC.out _ (by omega)
            have hb0 : (bg bs (at_ + 1) == 0) = false := beq_eq_false_iff_ne.2 (by
              intro e
              apply HZ.out
              refine ⟨hk0, UInt8.toNat.inj ?_⟩
              rw [HT.out 0, Nat.add_zero]
              unfold bg at e
              have h00 : (0 : UInt8).toNat = 0 := rfl
              omega)
            have c1' : w.cell? ⟨ad.block, ad.off + (at_ + 1), none⟩ = some (.int .u8 (bg bs (at_ + 1))) := c1
            go_enter Tryd.func59, Tryd.ntmps59
            go_wp2
            clear c1 hb0 c1'
            go_loop [8, 9] (fun v i => ∃ j : Nat, j ≤ k.toNat ∧ i = .int .i64 j ∧ v = .int .u64 (Wire.dec (t.take j) : Nat)) (fun _ i => k.toNat - (intOf i).toNat)
            case atStart => exact ⟨0, Nat.zero_le _, rfl, rfl⟩
            case round =>
              obtain ⟨j, hj, rfl, rfl⟩ := hrel
              by_cases hlt : j < k.toNat
              · have cj : w.cell? (ad.add (at_ + 1 + j)) = some (.int .u8 (bg bs (at_ + 1 + j))) := HC.out _ (by omega)
                have hj8 : at_ + 1 + j < n := by omega
                have cj' : w.cell? ⟨ad.block, ad.off + (at_ + 1 + j), none⟩ = some (.int .u8 (bg bs (at_ + 1 + j))) := by
                  rwa [show ad.add (at_ + 1 + j) = ⟨ad.block, ad.off + (at_ + 1 + j), none⟩ by unfold Addr.add; rw [if_neg (by omega)]] at cj
                have hbr := bg_range bs (at_ + 1 + j)
                have hdd : Wire.dec (t.take j) < 72057594037927936 := by
                  have h1 := Wire.dec_lt (t.take j)
                  have h2 : (t.take j).length ≤ 7 := by rw [List.length_take]; omega
                  have h3 : (256 : Nat) ^ (t.take j).length ≤ 256 ^ 7 := Nat.pow_le_pow_right (by omega) h2
                  have h4 : (256 : Nat) ^ 7 = 72057594037927936 := by decide
                  omega
                have HD := Lib.hid (show Wire.dec (t.take (j + 1)) = Wire.dec (t.take j) * 256 + (bs.getD (at_ + 1 + j) 0).toNat by
                  have hjt : j < t.length := by have := HTL.out; omega
                  rw [List.take_succ_eq_append_getElem hjt, Wire.dec_snoc, ← HT.out j, List.getD_eq_getElem?_getD, List.getElem?_eq_getElem hjt]
                  rfl)
                go_wp2
                go_round
                case rel =>
                  refine ⟨j + 1, by omega, by go_num, ?_⟩
                  rw [HD.out]
                  unfold bg
                  go_num
                case measure => simp [intOf]; omega
              · obtain rfl : j = k.toNat := by omega
                go_wp2
                go_ret3
                exact ⟨get_ret (by omega), rfl⟩
          · have hk1 : k.toNat = 0 := by omega
            have HK := Lib.hid hk1
            have hk2 : ¬ (0 : Int) < (k.toNat : Int) := by omega
            clear hk1 hk0
            go_enter Tryd.func59, Tryd.ntmps59
            go_wp2
            refine wp_loop_rounds 1 ?_
            rw [rounds_succ]
            go_wp2
            go_ret3
            refine ⟨?_, rfl⟩
            rw [HK.out]
            exact get_ret (by omega)
  · have hd : bs.drop at_ = [] := List.drop_eq_nil_of_le (by rw [HL.out]; omega)
    rw [hd]
    go_enter Tryd.func59, Tryd.ntmps59
    go_wp2
    go_ret3
    exact ⟨rfl, rfl⟩

theorem Rd.grown0 {w w1 : World} {A : Option Addr} {n : Nat} {bs : List UInt8} {row : Option Nat} (h : Rd w A n bs) (hg : w.grownBy w1 row) (hne : n = 0 ∨ ∀ ad, A = some ad → some ad.block ≠ row) : Rd w1 A n bs := by
  rcases hne with h0 | hne
  · exact ⟨h.len, h.le, fun hn => absurd hn (by omega)⟩
  · exact h.grown hg hne
/-- the document's reader in memory -/
structure Rq (w : World) (p : Nat) (A : Option Addr) (c : Nat) (bs : List UInt8) (at_ : Nat) (e : Int) : Prop where
  buf : w.cell? ⟨p, 0, none⟩ = some (.slice A bs.length c)
  rd : Rd w A bs.length bs
  cap : bs.length ≤ c
  ne : bs.length = 0 ∨ ∀ ad, A = some ad → ad.block ≠ p
  pos : w.cell? ⟨p, 1, none⟩ = some (.int .i64 at_)
  err : w.cell? ⟨p, 2, none⟩ = some (.int .i64 e)
  f1 : w.frozen? ⟨p, 1, none⟩ = false
  f2 : w.frozen? ⟨p, 2, none⟩ = false
  le : at_ ≤ bs.length
theorem Rq.kept {w w' : World} {p : Nat} {A : Option Addr} {c : Nat} {bs : List UInt8} {at_ : Nat} {e : Int} (h : Rq w p A c bs at_ e) {row : Option Nat} (hg : w.grownBy w' row) (hp : some p ≠ row) (hA : bs.length = 0 ∨ ∀ ad, A = some ad → some ad.block ≠ row) : Rq w' p A c bs at_ e := by
  have hb : w'.heap[p]? = w.heap[p]? := hg.block p (World.block_lt_of_cell? w _ h.buf) hp
  have hc : ∀ o, w'.cell? ⟨p, o, none⟩ = w.cell? ⟨p, o, none⟩ := fun o => World.cell?_of_block (a := ⟨p, o, none⟩) hb
  have hf : ∀ o, w'.frozen? ⟨p, o, none⟩ = w.frozen? ⟨p, o, none⟩ := fun o => World.frozen?_of_block (a := ⟨p, o, none⟩) hb
  exact ⟨(hc 0).trans h.buf, h.rd.grown0 hg hA, h.cap, h.ne, (hc 1).trans h.pos, (hc 2).trans h.err, (hf 1).trans h.f1, (hf 2).trans h.f2, h.le⟩
theorem Rq.setPos {w : World} {p : Nat} {A : Option Addr} {c : Nat} {bs : List UInt8} {at_ at' : Nat} {e : Int} (h : Rq w p A c bs at_ e) (hl : at' ≤ bs.length) : Rq (w.setCell ⟨p, 1, none⟩ (.int .i64 at')) p A c bs at' e := by
  have ho : ∀ o, o ≠ 1 → (w.setCell ⟨p, 1, none⟩ (.int .i64 at')).cell? ⟨p, o, none⟩ = w.cell? ⟨p, o, none⟩ := fun o ho => World.cell?_setCell_other _ _ _ _ (fun e => ho (by injection e with _ e _; exact e.symm))
  exact ⟨(ho 0 (by decide)).trans h.buf, h.rd.grown0 (grown_setCell _ _ _) (h.ne.imp id fun hn ad ea => by have := hn ad ea; simpa using this), h.cap, h.ne, World.cell?_setCell_same _ _ _ h.pos, (ho 2 (by decide)).trans h.err,
    by rw [World.frozen?_setCell]; exact h.f1, by rw [World.frozen?_setCell]; exact h.f2, hl⟩
theorem Rq.setErr {w : World} {p : Nat} {A : Option Addr} {c : Nat} {bs : List UInt8} {at_ : Nat} {e : Int} (h : Rq w p A c bs at_ e) (e' : Int) : Rq (w.setCell ⟨p, 2, none⟩ (.int .i64 e')) p A c bs at_ e' := by
  have ho : ∀ o, o ≠ 2 → (w.setCell ⟨p, 2, none⟩ (.int .i64 e')).cell? ⟨p, o, none⟩ = w.cell? ⟨p, o, none⟩ := fun o ho => World.cell?_setCell_other _ _ _ _ (fun e => ho (by injection e with _ e _; exact e.symm))
  exact ⟨(ho 0 (by decide)).trans h.buf, h.rd.grown0 (grown_setCell _ _ _) (h.ne.imp id fun hn ad ea => by have := hn ad ea; simpa using this), h.cap, h.ne, (ho 1 (by decide)).trans h.pos, World.cell?_setCell_same _ _ _ h.err,
    by rw [World.frozen?_setCell]; exact h.f1, by rw [World.frozen?_setCell]; exact h.f2, h.le⟩
theorem Rq.drewN {w : World} {p : Nat} {A : Option Addr} {c : Nat} {bs : List UInt8} {at_ : Nat} {e : Int} (h : Rq w p A c bs at_ e) (n : Nat) : Rq (w.drewN n) p A c bs at_ e :=
  h.kept (row := none) (grown_drewN (World.grownBy.refl _ _) n) (by simp) (.inr (by simp))
def Readq (p : Nat) (A : Option Addr) (c : Nat) (bs : List UInt8) (s : RS) (w w' : World) : Prop := Rq w' p A c bs s.1 s.2 ∧ w.grownBy w' (some p)

theorem rnum_q (A : Option Addr) (c : Nat) (bs : List UInt8) (at_ : Nat) (w : World) (hr : Rd w A bs.length bs) (hle : at_ ≤ bs.length) (nq : Nat) :
    Calls Tryd.prog 59 #[.slice A bs.length c, .int .i64 at_] (w.drewN nq) fun e w' =>
      e = .returned (.tuple #[.int .u64 ((Wire.num (bs.drop at_)).1 : Nat), .int .i64 ((at_ + (Wire.num (bs.drop at_)).2.1 : Nat) : Int), .int .i64 ((Wire.num (bs.drop at_)).2.2 : Nat)]) ∧ w' = w.drewN nq :=
  (rnum_any A bs.length c bs at_ _ hr.drewN hle).mono fun _ _ h => ⟨h.1, h.2.symm⟩

set_option maxRecDepth 100000 in
set_option maxHeartbeats 800000 in
theorem qnumber_any (p : Nat) (A : Option Addr) (c : Nat) (bs : List UInt8) (s : RS) (w : World) (h : Rq w p A c bs s.1 s.2) :
    Calls Tryd.prog 33 #[.pointer (some ⟨p, 0, none⟩)] w fun e w' => e = .returned (.int .u64 ((rNum bs s).1 : Nat)) ∧ Readq p A c bs (rNum bs s).2 w w' := by
  have H := Lib.hid h
  have hbuf := h.buf
  have hpos := h.pos
  have herr := h.err
  have hf1 := h.f1
  have hf2 := h.f2
  have hle := h.le
  clear h
  by_cases he : s.2 = 0
  · have F := rnum_q A c bs s.1 w H.out.rd hle
    have HN := num_lt (bs.drop s.1)
    rw [List.length_drop] at HN
    rcases hr : Wire.num (bs.drop s.1) with ⟨v, n, e⟩
    rw [hr] at F HN
    simp only at F HN
    have F := Lib.hid F
    by_cases he2 : e = 0
    · have HE : Hid (rNum bs s = (v, (s.1 + n, 0))) := by show _ = _; unfold rNum; rw [if_pos he, hr]; simp only; rw [if_pos he2]
      subst he2
      rw [he] at herr
      clear he hr
      have HV := Lib.hid HN
      clear HN
      go_enter Tryd.func33, Tryd.ntmps33
      go_wp2
      go_quiet ((go_at_call 59; (with_reducible exact Calls.quiet_of_same (F.out _))))
      go_wp2
      go_ret
      rw [HE.out]
      refine ⟨rfl, ?_, ?_⟩
      · exact ((H.out.drewN _).setErr 0).setPos (by have := HV.out; show s.1 + n ≤ _; omega)
      · exact ((grown_drewN (World.grownBy.refl _ _) _).trans (grown_setCell _ ⟨p, 2, none⟩ _)).trans (grown_setCell _ ⟨p, 1, none⟩ _)
    · have HE : Hid (rNum bs s = (0, (s.1, (e : Int)))) := by show _ = _; unfold rNum; rw [if_pos he, hr]; simp only; rw [if_neg he2]
      have he3 : ((e : Int) != 0) = true := bne_iff_ne.2 (by omega)
      rw [he] at herr
      clear he hr HN he2
      go_enter Tryd.func33, Tryd.ntmps33
      go_wp2
      go_quiet ((go_at_call 59; (with_reducible exact Calls.quiet_of_same (F.out _))))
      go_wp2
      go_ret
      rw [HE.out]
      refine ⟨rfl, ?_, ?_⟩
      · exact (H.out.drewN _).setErr e
      · exact (grown_drewN (World.grownBy.refl _ _) _).trans (grown_setCell _ ⟨p, 2, none⟩ _)
  · have HE : Hid (rNum bs s = (0, s)) := by show _ = _; unfold rNum; rw [if_neg he]
    have he3 : (s.2 != 0) = true := bne_iff_ne.2 he
    clear he
    go_enter Tryd.func33, Tryd.ntmps33
    go_wp2
    go_ret
    rw [HE.out]
    exact ⟨rfl, H.out, World.grownBy.refl _ _⟩

set_option maxRecDepth 100000 in
set_option maxHeartbeats 800000 in
theorem qint_any (p : Nat) (A : Option Addr) (c : Nat) (bs : List UInt8) (s : RS) (most : Int) (hm : most ≤ 9223372036854775807) (w : World) (h : Rq w p A c bs s.1 s.2) :
    Calls Tryd.prog 35 #[.pointer (some ⟨p, 0, none⟩), .int .i64 most] w fun e w' => e = .returned (.int .i64 ((rInt bs s most).1 : Nat)) ∧ Readq p A c bs (rInt bs s most).2 w w' := by
  have H := Lib.hid h
  have hbuf := h.buf
  have hpos := h.pos
  have herr := h.err
  have hf1 := h.f1
  have hf2 := h.f2
  have hle := h.le
  clear h
  by_cases he : s.2 = 0
  · by_cases hneg : most < 0
    · have HE : Hid (rInt bs s most = (0, (s.1, 3))) := by show _ = _; unfold rInt; rw [if_pos he, if_pos hneg]
      rw [he] at herr
      clear he
      go_enter Tryd.func35, Tryd.ntmps35
      go_wp2
      go_ret
      rw [HE.out]
      exact ⟨rfl, H.out.setErr 3, grown_setCell _ ⟨p, 2, none⟩ _⟩
    · have F := rnum_q A c bs s.1 w H.out.rd hle
      have HN := num_lt (bs.drop s.1)
      rw [List.length_drop] at HN
      rcases hr : Wire.num (bs.drop s.1) with ⟨v, n, e⟩
      rw [hr] at F HN
      simp only at F HN
      have F := Lib.hid F
      by_cases he2 : e = 0
      · subst he2
        by_cases hbig : most < (v : Int)
        · have HE : Hid (rInt bs s most = (0, (s.1, 11))) := by show _ = _; unfold rInt; rw [if_pos he, if_neg hneg, hr]; simp only; rw [if_pos trivial, if_pos hbig]
          rw [he] at herr
          clear he hr
          have HV := Lib.hid HN
          have hv1 : (v : Int) < 18446744073709551616 := by have := HN.1; omega
          clear HN
          go_enter Tryd.func35, Tryd.ntmps35
          go_wp2
          go_quiet ((go_at_call 59; (with_reducible exact Calls.quiet_of_same (F.out _))))
          go_wp2
          go_ret
          rw [HE.out]
          refine ⟨rfl, (H.out.drewN _).setErr 11, (grown_drewN (World.grownBy.refl _ _) _).trans (grown_setCell _ ⟨p, 2, none⟩ _)⟩
        · have HE : Hid (rInt bs s most = (v, (s.1 + n, 0))) := by show _ = _; unfold rInt; rw [if_pos he, if_neg hneg, hr]; simp only; rw [if_pos trivial, if_neg hbig]
          rw [he] at herr
          clear he hr
          have HV := Lib.hid HN
          clear HN
          go_enter Tryd.func35, Tryd.ntmps35
          go_wp2
          go_quiet ((go_at_call 59; (with_reducible exact Calls.quiet_of_same (F.out _))))
          go_wp2
          go_ret
          rw [HE.out]
          refine ⟨rfl, ?_, ?_⟩
          · exact ((H.out.drewN _).setErr 0).setPos (by have := HV.out; show s.1 + n ≤ _; omega)
          · exact ((grown_drewN (World.grownBy.refl _ _) _).trans (grown_setCell _ ⟨p, 2, none⟩ _)).trans (grown_setCell _ ⟨p, 1, none⟩ _)
      · have HE : Hid (rInt bs s most = (0, (s.1, (e : Int)))) := by show _ = _; unfold rInt; rw [if_pos he, if_neg hneg, hr]; simp only; rw [if_neg he2]
        have he3 : ((e : Int) != 0) = true := bne_iff_ne.2 (by omega)
        have he4 : ((e : Int) == 0) = false := beq_eq_false_iff_ne.2 (by omega)
        rw [he] at herr
        clear he hr HN he2
        go_enter Tryd.func35, Tryd.ntmps35
        go_wp2
        go_quiet ((go_at_call 59; (with_reducible exact Calls.quiet_of_same (F.out _))))
        go_wp2
        go_ret
        rw [HE.out]
        refine ⟨rfl, (H.out.drewN _).setErr e, (grown_drewN (World.grownBy.refl _ _) _).trans (grown_setCell _ ⟨p, 2, none⟩ _)⟩
  · have HE : Hid (rInt bs s most = (0, s)) := by show _ = _; unfold rInt; rw [if_neg he]
    have he3 : (s.2 != 0) = true := bne_iff_ne.2 he
    clear he
    go_enter Tryd.func35, Tryd.ntmps35
    go_wp2
    go_ret
    rw [HE.out]
    exact ⟨rfl, H.out, World.grownBy.refl _ _⟩

set_option maxRecDepth 100000 in
set_option maxHeartbeats 800000 in
theorem qend_any (p : Nat) (A : Option Addr) (c : Nat) (bs : List UInt8) (s : RS) (w : World) (h : Rq w p A c bs s.1 s.2) :
    Calls Tryd.prog 40 #[.pointer (some ⟨p, 0, none⟩)] w fun e w' => e = .returned (.int .i64 (rEnd bs s)) ∧ ∃ m, w' = w.drewN m := by
  have hbuf := h.buf
  have hpos := h.pos
  have herr := h.err
  clear h
  by_cases he : s.2 = 0
  · rw [he] at herr
    by_cases hl : s.1 < bs.length
    · have HE : Hid (rEnd bs s = 15) := by show _ = _; unfold rEnd; rw [if_pos he, if_pos hl]
      have hl' : decide ((s.1 : Int) < (bs.length : Int)) = true := decide_eq_true (by omega)
      clear he
      go_enter Tryd.func40, Tryd.ntmps40
      go_wp2
      go_quiet (fail)
      go_wp2
      go_ret
      rw [HE.out]
      exact ⟨rfl, _, rfl⟩
    · have HE : Hid (rEnd bs s = 0) := by show _ = _; unfold rEnd; rw [if_pos he, if_neg hl]
      have hl' : decide ((s.1 : Int) < (bs.length : Int)) = false := decide_eq_false (by omega)
      clear he
      go_enter Tryd.func40, Tryd.ntmps40
      go_wp2
      go_quiet (fail)
      go_wp2
      go_ret
      rw [HE.out]
      exact ⟨rfl, _, rfl⟩
  · have HE : Hid (rEnd bs s = s.2) := by show _ = _; unfold rEnd; rw [if_neg he]
    have he3 : (s.2 == 0) = false := beq_eq_false_iff_ne.2 he
    clear he
    go_enter Tryd.func40, Tryd.ntmps40
    go_wp2
    go_quiet (fail)
    go_wp2
    go_ret
    rw [HE.out]
    exact ⟨rfl, _, rfl⟩
end Go.Proofs.YtkdikbenheagmaaDoor
