/-
  The walk of the law WireReads.
-/
import Derived.Test.YtkdikbenheagmaaDoorGets
import Derived.Test.YtkdikbenheagmaaDoorRefText
import Derived.Test.YtkdikbenheagmaaDoorIntact
import Derived.Test.YtkdikbenheagmaaDoorAlive
import Derived.Deep.RegionWith
set_option linter.unusedVariables false
set_option linter.unusedSimpArgs false
namespace Go.Proofs.YtkdikbenheagmaaDoor
open Go.RowKit

theorem Rr.kept0 {w w' : World} {p : Nat} {A : Option Addr} {c : Nat} {bs : List UInt8} {at_ : Nat} {e : Int} (h : Rr w p A c bs at_ e) {row : Option Nat} (hg : w.grownBy w' row) (hp : some p ≠ row) (hA : bs.length = 0 ∨ ∀ ad, A = some ad → some ad.block ≠ row) : Rr w' p A c bs at_ e := by
  have hb : w'.heap[p]? = w.heap[p]? := hg.block p (World.block_lt_of_cell? w _ h.buf) hp
  have hc : ∀ o, w'.cell? ⟨p, o, none⟩ = w.cell? ⟨p, o, none⟩ := fun o => World.cell?_of_block (a := ⟨p, o, none⟩) hb
  have hf : ∀ o, w'.frozen? ⟨p, o, none⟩ = w.frozen? ⟨p, o, none⟩ := fun o => World.frozen?_of_block (a := ⟨p, o, none⟩) hb
  exact ⟨(hc 0).trans h.buf, h.rd.grown0 hg hA, h.cap, h.ne, (hc 1).trans h.pos, (hc 2).trans h.err, (hc 3).trans h.made, (hf 1).trans h.f1, (hf 2).trans h.f2, h.le⟩
theorem Rd.lt0 {w : World} {A : Option Addr} {n : Nat} {bs : List UInt8} (h : Rd w A n bs) : n = 0 ∨ ∀ ad, A = some ad → ad.block < w.heap.size := by
  rcases Nat.eq_zero_or_pos n with h0 | h0
  · exact .inl h0
  · refine .inr fun ad e => ?_
    obtain ⟨ad', e', hc⟩ := h.cell h0
    rw [e] at e'
    cases e'
    have := World.block_lt_of_cell? w _ (hc 0 h0)
    rwa [add_block] at this
/-- both readers, and what lay before -/
structure St (w2 w : World) (p : Nat) (A1 : Option Addr) (c1 : Nat) (q : Nat) (A : Option Addr) (c : Nat) (bs : List UInt8) (s r : RS) : Prop where
  rr : Rr w p A1 c1 bs s.1 s.2
  rq : Rq w q A c bs r.1 r.2
  bel : Below w2.heap.size w2 w
structure Env (w2 : World) (p : Nat) (A1 : Option Addr) (q : Nat) (A : Option Addr) (bs : List UInt8) : Prop where
  hp : w2.heap.size ≤ p
  hq : w2.heap.size ≤ q
  pq : p ≠ q
  a1 : bs.length = 0 ∨ ∀ ad, A1 = some ad → ad.block ≠ q
  a : bs.length = 0 ∨ ∀ ad, A = some ad → ad.block ≠ p
section
variable {w2 w w' : World} {p : Nat} {A1 : Option Addr} {c1 q : Nat} {A : Option Addr} {c : Nat} {bs : List UInt8} {s r s' : RS}
theorem St.onR (h : St w2 w p A1 c1 q A c bs s r) (E : Env w2 p A1 q A bs) (k : Read1 p A1 c1 bs s' w w') : St w2 w' p A1 c1 q A c bs s' r :=
  ⟨k.1, h.rq.kept k.2 (fun e => E.pq (by cases e; rfl)) (E.a.imp id fun hn ad e1 e2 => hn ad e1 (by cases e2; rfl)), h.bel.grown k.2 h.bel.size (fun b e => by cases e; exact E.hp)⟩
theorem St.onQ (h : St w2 w p A1 c1 q A c bs s r) (E : Env w2 p A1 q A bs) (k : Readq q A c bs s' w w') : St w2 w' p A1 c1 q A c bs s s' :=
  ⟨h.rr.kept0 k.2 (fun e => E.pq (by cases e; rfl)) (E.a1.imp id fun hn ad e1 e2 => hn ad e1 (by cases e2; rfl)), k.1, h.bel.grown k.2 h.bel.size (fun b e => by cases e; exact E.hq)⟩
theorem St.drewN (h : St w2 w p A1 c1 q A c bs s r) (m : Nat) : St w2 (w.drewN m) p A1 c1 q A c bs s r := ⟨h.rr.drewN m, h.rq.drewN m, Below.drewN h.bel m⟩
end

set_option maxRecDepth 100000 in
set_option maxHeartbeats 8000000 in
theorem wireReads_walk (A : Option Addr) (n c : Nat) (bs : List UInt8) (D : Option Addr) (m d : Nat) (l : List GetV) (w : World) (hr : Rd w A n bs) (hc : n ≤ c) (hA : A = none → n = 0 ∧ c = 0) (hy : n ≤ 140737488351232)
    (hl0 : RdC 2 GetV.cells w D m l) (hdm : m ≤ d) (hok : ∀ x ∈ l, x.Ok) (ht : Tab w) :
    Calls Tryd.prog 10 #[.slice A n c, .slice D m d] w fun e w' => e = .returned (.bool true) ∧ Below w.heap.size w w' := by
  have h0 : 0 < w.heap.size := World.block_lt_of_cell? w _ (ht 0 (by decide))
  have HT := Lib.hid ht
  have HR := Lib.hid hr
  have HA := Lib.hid hA
  have HC := Lib.hid hl0
  have HOK := Lib.hid hok
  have hl := hr.len
  have hml := hl0.le
  have HL := Lib.hid hl
  have HLL := Lib.hid hl0.len
  have G1 := Lib.hid (Gv.start w 33)
  have Ba : Hid (Below w.heap.size w (w.alloc (.cells #[.slice none 0 0, .slice none 0 0, .slice none 0 0, .slice none 0 0, .slice none 0 0, .slice none 0 0, .slice none 0 0, .slice none 0 0, .slice none 0 0, .slice none 0 0] 33))) := (Below.refl _ _).alloc (Nat.le_refl _) _
  clear ht hr hA hl hl0 hok
  go_enter Tryd.func10, Tryd.ntmps10
  go_wp2_with fail
  refine (gbytes_any w.heap.size none 0 none 0 [] [] _ G1.out (by decide) (by decide) A n c bs (HR.out.below Ba.out) HA.out hy).mono ?_
  rintro e w2 ⟨G, gd, G', gd', x, y, rfl, hb2, hg2, hx1, hy1, hx2, hy2⟩
  have BW : Hid (Below w.heap.size w w2) := Ba.out.trans hb2
  have HG2 := Lib.hid hg2
  have hxo := hg2.e0 x (by simp)
  have HX : Hid (Rd w2 x.A n bs) := by
    have := hxo.1.take n (by omega)
    rwa [hx1, List.take_left' HL.out] at this
  have HXA : Hid (x.A = none → n = 0 ∧ x.c = 0) := fun e => by have := hxo.2.1 e; omega
  have HSM : Hid (x.bs = y.bs) := by show _ = _; rw [hx1, hy1]
  have HR2 := Lib.hid (HR.out.below BW.out)
  have hz2 := BW.out.size
  have HW0 := Lib.hid (HR.out.lt0)
  clear hb2 hg2 hxo hx1 hy1 hx2 hy2 G1 Ba
  generalize hxA : x.A = XA at HX HXA
  generalize hxcc : x.c = xc at HXA
  clear hxA hxcc
  go_wp2_with fail
  refine (newReader_any XA n xc bs w2 HX.out HXA.out (by omega)).mono ?_
  rintro e w3 ⟨p, A1, c1, rfl, hr3, hA3, hb3, hp1, hp2, hp3⟩
  have HA1 := Lib.hid hA3
  have HE : Hid (Env w2 p A1 w3.heap.size A bs) := by
    have hsz := hb3.size
    refine ⟨hp1, hsz, by omega, ?_, ?_⟩
    · exact hr3.rd.lt0.imp id fun hn ad e h => by have := hn ad e; omega
    · rw [HL.out]
      exact HW0.out.imp id fun hn ad e h => by have := hn ad e; omega
  have HRA := Lib.hid (HR2.out.below hb3)
  have HS0 : Hid (St w2 (w3.alloc (.cells #[.slice A n c, .int .i64 0, .int .i64 0] 64)) p A1 c1 w3.heap.size A c bs (0, 0) (0, 0)) := by
    have hg := World.grownBy_alloc w3 (.cells #[.slice A n c, .int .i64 0, .int .i64 0] 64) none
    have hrd : Rd (w3.alloc (.cells #[.slice A n c, .int .i64 0, .int .i64 0] 64)) A n bs := HRA.out.below (below_of_grown hg)
    refine ⟨hr3.kept hg (by simp) (by simp), ⟨by rw [HL.out]; simp, by rw [HL.out]; exact hrd, by rw [HL.out]; exact hc, ?_, by simp, by simp, by simp, by simp, Nat.zero_le _⟩, hb3.alloc hb3.size _⟩
    rw [HL.out]
    exact HW0.out.imp id fun hn ad e h => by have := hn ad e; have := hb3.size; omega
  have HC2 : Hid (∀ W', Below w2.heap.size w2 W' → RdC 2 GetV.cells W' D m l) := fun W' hb => HC.out.below (BW.out.trans (hb.mono hz2))
  clear hr3 hb3 hp3 hA3
  generalize hqq : w3.heap.size = q at HS0 HE
  go_wp2
  clear hqq
  go_loopw [9] (fun i wr => ∃ k : Nat, k ≤ m ∧ i = .int .i64 k ∧ Hid (∃ s, St w2 wr p A1 c1 q A c bs s s)) (fun i _ => m - (intOf i).toNat)
  case atStart => exact ⟨0, Nat.zero_le _, rfl, (0, 0), HS0.out⟩
  case round =>
    obtain ⟨k, hk, rfl, HS⟩ := hrel
    obtain ⟨s, hs⟩ := HS.out
    have HS := Lib.hid hs
    clear hs
    by_cases hlt : k < m
    · have hkl : k < l.length := by rw [HLL.out]; exact hlt
      obtain ⟨ad, ea, hcc⟩ := (HC.out).cell k _ (List.getElem?_eq_getElem hkl)
      cases ea
      have HCK := Lib.hid (fun W' (hb : Below w2.heap.size w2 W') i u hu => (by
        obtain ⟨ad', e', h'⟩ := (HC2.out W' hb).cell k _ (List.getElem?_eq_getElem hkl)
        cases e'
        rw [add_add]
        exact h' i u hu : W'.cell? ((ad.add (k * 2)).add i) = some u))
      have hx := Lib.hid (HOK.out _ (List.getElem_mem hkl))
      generalize hxx : l[k] = x at HCK hx
      clear hxx hcc
      have ck : wr.cell? (ad.add (k * 2)) = some (.int .i64 x.kind) := HCK.out wr HS.out.bel 0 _ rfl
      have cm : wr.cell? ⟨(ad.add (k * 2)).block, (ad.add (k * 2)).off + 1, none⟩ = some (.int .i64 x.most) := HCK.out wr HS.out.bel 1 _ rfl
      have S0 : Hid (St w2 wr.drew p A1 c1 q A c bs s s) := HS.out.drewN 1
      by_cases k0 : x.kind = 0
      · have hk0 : (x.kind == 0) = true := beq_iff_eq.2 k0
        have FR : Hid (∀ W' r, Hid (St w2 W' p A1 c1 q A c bs s r) → Calls Tryd.prog 29 #[.pointer (some ⟨p, 0, none⟩)] W' fun e w' => e = .returned (.int .u64 ((rNum bs s).1 : Nat)) ∧ w'.cell? ⟨(ad.add (k * 2)).block, (ad.add (k * 2)).off + 1, none⟩ = some (.int .i64 x.most) ∧ Hid (St w2 w' p A1 c1 q A c bs (rNum bs s).2 r)) := by
          intro W' r h
          refine (rnumber_any p A1 c1 bs s W' h.out.rr).mono ?_
          rintro e w' ⟨h1, h2⟩
          have h3 := h.out.onR HE.out h2
          exact ⟨h1, HCK.out w' h3.bel 1 _ rfl, h3⟩
        have FQ : Hid (∀ W' r, Hid (St w2 W' p A1 c1 q A c bs r s) → Calls Tryd.prog 33 #[.pointer (some ⟨q, 0, none⟩)] W' fun e w' => e = .returned (.int .u64 ((rNum bs s).1 : Nat)) ∧ w'.cell? ⟨(ad.add (k * 2)).block, (ad.add (k * 2)).off + 1, none⟩ = some (.int .i64 x.most) ∧ Hid (St w2 w' p A1 c1 q A c bs r (rNum bs s).2)) := by
          intro W' r h
          refine (qnumber_any q A c bs s W' h.out.rq).mono ?_
          rintro e w' ⟨h1, h2⟩
          have h3 := h.out.onQ HE.out h2
          exact ⟨h1, HCK.out w' h3.bel 1 _ rfl, h3⟩
        generalize (rNum bs s).1 = v at FR FQ
        generalize (rNum bs s).2 = s2 at FR FQ
        have hvv : (((v : Nat) : Int) != ((v : Nat) : Int)) = false := bne_self_eq_false _
        clear k0
        go_wp2_with fail
        refine (FR.out _ _ HS).mono ?_
        rintro e w5 ⟨rfl, hc5, S5⟩
        go_wp2_with fail
        refine (FQ.out _ _ S5).mono ?_
        rintro e w6 ⟨rfl, hc6, S6⟩
        go_wp2
        clear cm hc5 hc6 ck
        have cq : w6.cell? ⟨q, 1, none⟩ = some (.int .i64 (s2.1 : Int)) := S6.out.rq.pos
        have Q1 := Lib.hid (fun nq => (rat_any p A1 c1 bs s2 (w6.drewN nq) (S6.out.rr.drewN nq)).mono fun e w' h => (⟨h.1, h.2.symm⟩ : e = .returned (.int .i64 (s2.1 : Int)) ∧ w' = w6.drewN nq))
        have Q2 := Lib.hid (fun nq => rleft_any p A1 c1 bs s2 (w6.drewN nq) (S6.out.rr.drewN nq))
        have Q3 := Lib.hid (fun nq => rend_any p A1 c1 bs s2 (w6.drewN nq) (S6.out.rr.drewN nq))
        have Q4 := Lib.hid (fun nq => (num_any (rEnd bs s2) (w6.drewN nq)).mono fun e w' h => (⟨h.1, h.2.symm⟩ : e = .returned (.int .i64 (rEnd bs s2)) ∧ w' = w6.drewN nq))
        have Q5 := Lib.hid (fun nq => qend_any q A c bs s2 (w6.drewN nq) (S6.out.rq.drewN nq))
        have hsle := S6.out.rr.le
        have hwr : IntKind.i64.wrap ((n : Int) - (s2.1 : Int)) = ((bs.length - s2.1 : Nat) : Int) := by have := HL.out; rw [IntKind.wrap_i64]; omega
        have hn1 : (((s2.1 : Nat) : Int) != ((s2.1 : Nat) : Int)) = false := bne_self_eq_false _
        have hn2 : (((bs.length - s2.1 : Nat) : Int) != ((bs.length - s2.1 : Nat) : Int)) = false := bne_self_eq_false _
        have hn3 : (rEnd bs s2 != rEnd bs s2) = false := bne_self_eq_false _
        go_quiet ((first | (go_at_call 30; (with_reducible exact Calls.quiet_of_same (Q1.out _))) | (go_at_call 39; (with_reducible exact Calls.quiet_of (Q2.out _))) | (go_at_call 31; (with_reducible exact Calls.quiet_of (Q3.out _))) | (go_at_call 22; (with_reducible exact Calls.quiet_of_same (Q4.out _))) | (go_at_call 40; (with_reducible exact Calls.quiet_of (Q5.out _)))))
        go_wp2
        go_roundw
        case rel => exact ⟨k + 1, by omega, by go_num, s2, S6.out.drewN _⟩
        case measure => simp [intOf]; omega
      · have hk0 : (x.kind == 0) = false := beq_eq_false_iff_ne.2 k0
        by_cases k1 : x.kind = 1
        · have hk1 : (x.kind == 1) = true := beq_iff_eq.2 k1
          have hm1 := hx.out.m1
          have FR : Hid (∀ W' r, Hid (St w2 W' p A1 c1 q A c bs s r) → Calls Tryd.prog 34 #[.pointer (some ⟨p, 0, none⟩), .int .i64 x.most] W' fun e w' => e = .returned (.int .i64 ((rInt bs s x.most).1 : Nat)) ∧ w'.cell? ⟨(ad.add (k * 2)).block, (ad.add (k * 2)).off + 1, none⟩ = some (.int .i64 x.most) ∧ Hid (St w2 w' p A1 c1 q A c bs (rInt bs s x.most).2 r)) := by
            intro W' r h
            refine (rint_any p A1 c1 bs s x.most hm1 W' h.out.rr).mono ?_
            rintro e w' ⟨h1, h2⟩
            have h3 := h.out.onR HE.out h2
            exact ⟨h1, HCK.out w' h3.bel 1 _ rfl, h3⟩
          have FQ : Hid (∀ W' r, Hid (St w2 W' p A1 c1 q A c bs r s) → Calls Tryd.prog 35 #[.pointer (some ⟨q, 0, none⟩), .int .i64 x.most] W' fun e w' => e = .returned (.int .i64 ((rInt bs s x.most).1 : Nat)) ∧ w'.cell? ⟨(ad.add (k * 2)).block, (ad.add (k * 2)).off + 1, none⟩ = some (.int .i64 x.most) ∧ Hid (St w2 w' p A1 c1 q A c bs r (rInt bs s x.most).2)) := by
            intro W' r h
            refine (qint_any q A c bs s x.most hm1 W' h.out.rq).mono ?_
            rintro e w' ⟨h1, h2⟩
            have h3 := h.out.onQ HE.out h2
            exact ⟨h1, HCK.out w' h3.bel 1 _ rfl, h3⟩
          generalize (rInt bs s x.most).1 = v at FR FQ
          generalize (rInt bs s x.most).2 = s2 at FR FQ
          have hvv : (((v : Nat) : Int) != ((v : Nat) : Int)) = false := bne_self_eq_false _
          clear k0 k1
          go_wp2
          go_region_with (first | (go_at_call 34; go_must (first | (with_reducible refine (FR.out _ _ S0).mono ?_) | (with_reducible refine (FR.out _ _ S6).mono ?_)); go_must (rintro e w5 ⟨rfl, hc5, S5⟩)) | (go_at_call 35; go_must (first | (with_reducible refine (FQ.out _ _ S0).mono ?_) | (with_reducible refine (FQ.out _ _ S5).mono ?_)); go_must (rintro e w6 ⟨rfl, hc6, S6⟩)))
          all_goals
            go_wp2
          all_goals
            clear cm hc5 hc6 ck
            first
              | (have SL : Hid (St w2 w6 p A1 c1 q A c bs s2 s2) := S6
                 clear S5
                 have cq : w6.cell? ⟨q, 1, none⟩ = some (.int .i64 (s2.1 : Int)) := SL.out.rq.pos
                 have Q1 := Lib.hid (fun nq => (rat_any p A1 c1 bs s2 (w6.drewN nq) (SL.out.rr.drewN nq)).mono fun e w' h => (⟨h.1, h.2.symm⟩ : e = .returned (.int .i64 (s2.1 : Int)) ∧ w' = w6.drewN nq))
                 have Q2 := Lib.hid (fun nq => rleft_any p A1 c1 bs s2 (w6.drewN nq) (SL.out.rr.drewN nq))
                 have Q3 := Lib.hid (fun nq => rend_any p A1 c1 bs s2 (w6.drewN nq) (SL.out.rr.drewN nq))
                 have Q4 := Lib.hid (fun nq => (num_any (rEnd bs s2) (w6.drewN nq)).mono fun e w' h => (⟨h.1, h.2.symm⟩ : e = .returned (.int .i64 (rEnd bs s2)) ∧ w' = w6.drewN nq))
                 have Q5 := Lib.hid (fun nq => qend_any q A c bs s2 (w6.drewN nq) (SL.out.rq.drewN nq))
                 have hsle := SL.out.rr.le
                 have hwr : IntKind.i64.wrap ((n : Int) - (s2.1 : Int)) = ((bs.length - s2.1 : Nat) : Int) := by have := HL.out; rw [IntKind.wrap_i64]; omega
                 have hn1 : (((s2.1 : Nat) : Int) != ((s2.1 : Nat) : Int)) = false := bne_self_eq_false _
                 have hn2 : (((bs.length - s2.1 : Nat) : Int) != ((bs.length - s2.1 : Nat) : Int)) = false := bne_self_eq_false _
                 have hn3 : (rEnd bs s2 != rEnd bs s2) = false := bne_self_eq_false _
                 go_quiet ((first | (go_at_call 30; (with_reducible exact Calls.quiet_of_same (Q1.out _))) | (go_at_call 39; (with_reducible exact Calls.quiet_of (Q2.out _))) | (go_at_call 31; (with_reducible exact Calls.quiet_of (Q3.out _))) | (go_at_call 22; (with_reducible exact Calls.quiet_of_same (Q4.out _))) | (go_at_call 40; (with_reducible exact Calls.quiet_of (Q5.out _)))))
                 go_wp2
                 go_roundw
                 case rel => exact ⟨k + 1, by omega, by go_num, s2, SL.out.drewN _⟩
                 case measure => simp [intOf]; omega)
              | (have SL : Hid (St w2 w5 p A1 c1 q A c bs s2 s2) := S5
                 clear S6
                 have cq : w5.cell? ⟨q, 1, none⟩ = some (.int .i64 (s2.1 : Int)) := SL.out.rq.pos
                 have Q1 := Lib.hid (fun nq => (rat_any p A1 c1 bs s2 (w5.drewN nq) (SL.out.rr.drewN nq)).mono fun e w' h => (⟨h.1, h.2.symm⟩ : e = .returned (.int .i64 (s2.1 : Int)) ∧ w' = w5.drewN nq))
                 have Q2 := Lib.hid (fun nq => rleft_any p A1 c1 bs s2 (w5.drewN nq) (SL.out.rr.drewN nq))
                 have Q3 := Lib.hid (fun nq => rend_any p A1 c1 bs s2 (w5.drewN nq) (SL.out.rr.drewN nq))
                 have Q4 := Lib.hid (fun nq => (num_any (rEnd bs s2) (w5.drewN nq)).mono fun e w' h => (⟨h.1, h.2.symm⟩ : e = .returned (.int .i64 (rEnd bs s2)) ∧ w' = w5.drewN nq))
                 have Q5 := Lib.hid (fun nq => qend_any q A c bs s2 (w5.drewN nq) (SL.out.rq.drewN nq))
                 have hsle := SL.out.rr.le
                 have hwr : IntKind.i64.wrap ((n : Int) - (s2.1 : Int)) = ((bs.length - s2.1 : Nat) : Int) := by have := HL.out; rw [IntKind.wrap_i64]; omega
                 have hn1 : (((s2.1 : Nat) : Int) != ((s2.1 : Nat) : Int)) = false := bne_self_eq_false _
                 have hn2 : (((bs.length - s2.1 : Nat) : Int) != ((bs.length - s2.1 : Nat) : Int)) = false := bne_self_eq_false _
                 have hn3 : (rEnd bs s2 != rEnd bs s2) = false := bne_self_eq_false _
                 go_quiet ((first | (go_at_call 30; (with_reducible exact Calls.quiet_of_same (Q1.out _))) | (go_at_call 39; (with_reducible exact Calls.quiet_of (Q2.out _))) | (go_at_call 31; (with_reducible exact Calls.quiet_of (Q3.out _))) | (go_at_call 22; (with_reducible exact Calls.quiet_of_same (Q4.out _))) | (go_at_call 40; (with_reducible exact Calls.quiet_of (Q5.out _)))))
                 go_wp2
                 go_roundw
                 case rel => exact ⟨k + 1, by omega, by go_num, s2, SL.out.drewN _⟩
                 case measure => simp [intOf]; omega)
        · have hk1 : (x.kind == 1) = false := beq_eq_false_iff_ne.2 k1
          by_cases k2 : x.kind = 2
          · have hk2 : (x.kind == 2) = true := beq_iff_eq.2 k2
            have hm1 := hx.out.m1
            have FR : Hid (∀ W' r, Hid (St w2 W' p A1 c1 q A c bs s r) → Calls Tryd.prog 36 #[.pointer (some ⟨p, 0, none⟩), .int .i64 x.most] W' fun e w' => e = .returned (.int .i64 ((rInt bs s x.most).1 : Nat)) ∧ w'.cell? ⟨(ad.add (k * 2)).block, (ad.add (k * 2)).off + 1, none⟩ = some (.int .i64 x.most) ∧ Hid (St w2 w' p A1 c1 q A c bs (rInt bs s x.most).2 r)) := by
              intro W' r h
              refine (rcount_any p A1 c1 bs s x.most hm1 W' h.out.rr).mono ?_
              rintro e w' ⟨h1, h2⟩
              have h3 := h.out.onR HE.out h2
              exact ⟨h1, HCK.out w' h3.bel 1 _ rfl, h3⟩
            have FQ : Hid (∀ W' r, Hid (St w2 W' p A1 c1 q A c bs r s) → Calls Tryd.prog 35 #[.pointer (some ⟨q, 0, none⟩), .int .i64 x.most] W' fun e w' => e = .returned (.int .i64 ((rInt bs s x.most).1 : Nat)) ∧ w'.cell? ⟨(ad.add (k * 2)).block, (ad.add (k * 2)).off + 1, none⟩ = some (.int .i64 x.most) ∧ Hid (St w2 w' p A1 c1 q A c bs r (rInt bs s x.most).2)) := by
              intro W' r h
              refine (qint_any q A c bs s x.most hm1 W' h.out.rq).mono ?_
              rintro e w' ⟨h1, h2⟩
              have h3 := h.out.onQ HE.out h2
              exact ⟨h1, HCK.out w' h3.bel 1 _ rfl, h3⟩
            generalize (rInt bs s x.most).1 = v at FR FQ
            generalize (rInt bs s x.most).2 = s2 at FR FQ
            have hvv : (((v : Nat) : Int) != ((v : Nat) : Int)) = false := bne_self_eq_false _
            clear k0 k1 k2
            go_wp2
            go_region_with (first | (go_at_call 36; go_must (first | (with_reducible refine (FR.out _ _ S0).mono ?_) | (with_reducible refine (FR.out _ _ S6).mono ?_)); go_must (rintro e w5 ⟨rfl, hc5, S5⟩)) | (go_at_call 35; go_must (first | (with_reducible refine (FQ.out _ _ S0).mono ?_) | (with_reducible refine (FQ.out _ _ S5).mono ?_)); go_must (rintro e w6 ⟨rfl, hc6, S6⟩)))
            all_goals
              go_wp2
            all_goals
              clear cm hc5 hc6 ck
              first
                | (have SL : Hid (St w2 w6 p A1 c1 q A c bs s2 s2) := S6
                   clear S5
                   have cq : w6.cell? ⟨q, 1, none⟩ = some (.int .i64 (s2.1 : Int)) := SL.out.rq.pos
                   have Q1 := Lib.hid (fun nq => (rat_any p A1 c1 bs s2 (w6.drewN nq) (SL.out.rr.drewN nq)).mono fun e w' h => (⟨h.1, h.2.symm⟩ : e = .returned (.int .i64 (s2.1 : Int)) ∧ w' = w6.drewN nq))
                   have Q2 := Lib.hid (fun nq => rleft_any p A1 c1 bs s2 (w6.drewN nq) (SL.out.rr.drewN nq))
                   have Q3 := Lib.hid (fun nq => rend_any p A1 c1 bs s2 (w6.drewN nq) (SL.out.rr.drewN nq))
                   have Q4 := Lib.hid (fun nq => (num_any (rEnd bs s2) (w6.drewN nq)).mono fun e w' h => (⟨h.1, h.2.symm⟩ : e = .returned (.int .i64 (rEnd bs s2)) ∧ w' = w6.drewN nq))
                   have Q5 := Lib.hid (fun nq => qend_any q A c bs s2 (w6.drewN nq) (SL.out.rq.drewN nq))
                   have hsle := SL.out.rr.le
                   have hwr : IntKind.i64.wrap ((n : Int) - (s2.1 : Int)) = ((bs.length - s2.1 : Nat) : Int) := by have := HL.out; rw [IntKind.wrap_i64]; omega
                   have hn1 : (((s2.1 : Nat) : Int) != ((s2.1 : Nat) : Int)) = false := bne_self_eq_false _
                   have hn2 : (((bs.length - s2.1 : Nat) : Int) != ((bs.length - s2.1 : Nat) : Int)) = false := bne_self_eq_false _
                   have hn3 : (rEnd bs s2 != rEnd bs s2) = false := bne_self_eq_false _
                   go_quiet ((first | (go_at_call 30; (with_reducible exact Calls.quiet_of_same (Q1.out _))) | (go_at_call 39; (with_reducible exact Calls.quiet_of (Q2.out _))) | (go_at_call 31; (with_reducible exact Calls.quiet_of (Q3.out _))) | (go_at_call 22; (with_reducible exact Calls.quiet_of_same (Q4.out _))) | (go_at_call 40; (with_reducible exact Calls.quiet_of (Q5.out _)))))
                   go_wp2
                   go_roundw
                   case rel => exact ⟨k + 1, by omega, by go_num, s2, SL.out.drewN _⟩
                   case measure => simp [intOf]; omega)
                | (have SL : Hid (St w2 w5 p A1 c1 q A c bs s2 s2) := S5
                   clear S6
                   have cq : w5.cell? ⟨q, 1, none⟩ = some (.int .i64 (s2.1 : Int)) := SL.out.rq.pos
                   have Q1 := Lib.hid (fun nq => (rat_any p A1 c1 bs s2 (w5.drewN nq) (SL.out.rr.drewN nq)).mono fun e w' h => (⟨h.1, h.2.symm⟩ : e = .returned (.int .i64 (s2.1 : Int)) ∧ w' = w5.drewN nq))
                   have Q2 := Lib.hid (fun nq => rleft_any p A1 c1 bs s2 (w5.drewN nq) (SL.out.rr.drewN nq))
                   have Q3 := Lib.hid (fun nq => rend_any p A1 c1 bs s2 (w5.drewN nq) (SL.out.rr.drewN nq))
                   have Q4 := Lib.hid (fun nq => (num_any (rEnd bs s2) (w5.drewN nq)).mono fun e w' h => (⟨h.1, h.2.symm⟩ : e = .returned (.int .i64 (rEnd bs s2)) ∧ w' = w5.drewN nq))
                   have Q5 := Lib.hid (fun nq => qend_any q A c bs s2 (w5.drewN nq) (SL.out.rq.drewN nq))
                   have hsle := SL.out.rr.le
                   have hwr : IntKind.i64.wrap ((n : Int) - (s2.1 : Int)) = ((bs.length - s2.1 : Nat) : Int) := by have := HL.out; rw [IntKind.wrap_i64]; omega
                   have hn1 : (((s2.1 : Nat) : Int) != ((s2.1 : Nat) : Int)) = false := bne_self_eq_false _
                   have hn2 : (((bs.length - s2.1 : Nat) : Int) != ((bs.length - s2.1 : Nat) : Int)) = false := bne_self_eq_false _
                   have hn3 : (rEnd bs s2 != rEnd bs s2) = false := bne_self_eq_false _
                   go_quiet ((first | (go_at_call 30; (with_reducible exact Calls.quiet_of_same (Q1.out _))) | (go_at_call 39; (with_reducible exact Calls.quiet_of (Q2.out _))) | (go_at_call 31; (with_reducible exact Calls.quiet_of (Q3.out _))) | (go_at_call 22; (with_reducible exact Calls.quiet_of_same (Q4.out _))) | (go_at_call 40; (with_reducible exact Calls.quiet_of (Q5.out _)))))
                   go_wp2
                   go_roundw
                   case rel => exact ⟨k + 1, by omega, by go_num, s2, SL.out.drewN _⟩
                   case measure => simp [intOf]; omega)
          · have hk2 : (x.kind == 2) = false := beq_eq_false_iff_ne.2 k2
            by_cases k3 : x.kind = 3
            · have hk3 : (x.kind == 3) = true := beq_iff_eq.2 k3
              have hm1 := hx.out.m1
              have FR : Hid (∀ W' r, Hid (St w2 W' p A1 c1 q A c bs s r) → Calls Tryd.prog 37 #[.pointer (some ⟨p, 0, none⟩), .int .i64 x.most] W' fun e w' => e = .returned (.string (txt (rText bs s x.most).1)) ∧ w'.cell? ⟨(ad.add (k * 2)).block, (ad.add (k * 2)).off + 1, none⟩ = some (.int .i64 x.most) ∧ Hid (St w2 w' p A1 c1 q A c bs (rText bs s x.most).2 r)) := by
                intro W' r h
                refine (rtext_any p A1 c1 bs s x.most hm1 W' h.out.rr HA1.out).mono ?_
                rintro e w' ⟨h1, h2⟩
                have h3 := h.out.onR HE.out h2
                exact ⟨h1, HCK.out w' h3.bel 1 _ rfl, h3⟩
              have FQ : Hid (∀ W' r, Hid (St w2 W' p A1 c1 q A c bs r s) → Calls Tryd.prog 38 #[.pointer (some ⟨q, 0, none⟩), .int .i64 x.most] W' fun e w' => e = .returned (.string (txt (rText bs s x.most).1)) ∧ w'.cell? ⟨(ad.add (k * 2)).block, (ad.add (k * 2)).off + 1, none⟩ = some (.int .i64 x.most) ∧ Hid (St w2 w' p A1 c1 q A c bs r (rText bs s x.most).2)) := by
                intro W' r h
                refine (qtext_any q A c bs s x.most hm1 W' h.out.rq (fun e => (HA.out e).2)).mono ?_
                rintro e w' ⟨h1, h2⟩
                have h3 := h.out.onQ HE.out h2
                exact ⟨h1, HCK.out w' h3.bel 1 _ rfl, h3⟩
              generalize txt (rText bs s x.most).1 = v at FR FQ
              generalize (rText bs s x.most).2 = s2 at FR FQ
              have hvv : (v.toList == v.toList) = true := beq_self_eq_true _
              clear k0 k1 k2 k3
              go_wp2
              go_region_with (first | (go_at_call 37; go_must (first | (with_reducible refine (FR.out _ _ S0).mono ?_) | (with_reducible refine (FR.out _ _ S6).mono ?_)); go_must (rintro e w5 ⟨rfl, hc5, S5⟩)) | (go_at_call 38; go_must (first | (with_reducible refine (FQ.out _ _ S0).mono ?_) | (with_reducible refine (FQ.out _ _ S5).mono ?_)); go_must (rintro e w6 ⟨rfl, hc6, S6⟩)))
              all_goals
                go_wp2
              all_goals
                clear cm hc5 hc6 ck
                first
                  | (have SL : Hid (St w2 w6 p A1 c1 q A c bs s2 s2) := S6
                     clear S5
                     have cq : w6.cell? ⟨q, 1, none⟩ = some (.int .i64 (s2.1 : Int)) := SL.out.rq.pos
                     have Q1 := Lib.hid (fun nq => (rat_any p A1 c1 bs s2 (w6.drewN nq) (SL.out.rr.drewN nq)).mono fun e w' h => (⟨h.1, h.2.symm⟩ : e = .returned (.int .i64 (s2.1 : Int)) ∧ w' = w6.drewN nq))
                     have Q2 := Lib.hid (fun nq => rleft_any p A1 c1 bs s2 (w6.drewN nq) (SL.out.rr.drewN nq))
                     have Q3 := Lib.hid (fun nq => rend_any p A1 c1 bs s2 (w6.drewN nq) (SL.out.rr.drewN nq))
                     have Q4 := Lib.hid (fun nq => (num_any (rEnd bs s2) (w6.drewN nq)).mono fun e w' h => (⟨h.1, h.2.symm⟩ : e = .returned (.int .i64 (rEnd bs s2)) ∧ w' = w6.drewN nq))
                     have Q5 := Lib.hid (fun nq => qend_any q A c bs s2 (w6.drewN nq) (SL.out.rq.drewN nq))
                     have hsle := SL.out.rr.le
                     have hwr : IntKind.i64.wrap ((n : Int) - (s2.1 : Int)) = ((bs.length - s2.1 : Nat) : Int) := by have := HL.out; rw [IntKind.wrap_i64]; omega
                     have hn1 : (((s2.1 : Nat) : Int) != ((s2.1 : Nat) : Int)) = false := bne_self_eq_false _
                     have hn2 : (((bs.length - s2.1 : Nat) : Int) != ((bs.length - s2.1 : Nat) : Int)) = false := bne_self_eq_false _
                     have hn3 : (rEnd bs s2 != rEnd bs s2) = false := bne_self_eq_false _
                     go_quiet ((first | (go_at_call 30; (with_reducible exact Calls.quiet_of_same (Q1.out _))) | (go_at_call 39; (with_reducible exact Calls.quiet_of (Q2.out _))) | (go_at_call 31; (with_reducible exact Calls.quiet_of (Q3.out _))) | (go_at_call 22; (with_reducible exact Calls.quiet_of_same (Q4.out _))) | (go_at_call 40; (with_reducible exact Calls.quiet_of (Q5.out _)))))
                     go_wp2
                     go_roundw
                     case rel => exact ⟨k + 1, by omega, by go_num, s2, SL.out.drewN _⟩
                     case measure => simp [intOf]; omega)
                  | (have SL : Hid (St w2 w5 p A1 c1 q A c bs s2 s2) := S5
                     clear S6
                     have cq : w5.cell? ⟨q, 1, none⟩ = some (.int .i64 (s2.1 : Int)) := SL.out.rq.pos
                     have Q1 := Lib.hid (fun nq => (rat_any p A1 c1 bs s2 (w5.drewN nq) (SL.out.rr.drewN nq)).mono fun e w' h => (⟨h.1, h.2.symm⟩ : e = .returned (.int .i64 (s2.1 : Int)) ∧ w' = w5.drewN nq))
                     have Q2 := Lib.hid (fun nq => rleft_any p A1 c1 bs s2 (w5.drewN nq) (SL.out.rr.drewN nq))
                     have Q3 := Lib.hid (fun nq => rend_any p A1 c1 bs s2 (w5.drewN nq) (SL.out.rr.drewN nq))
                     have Q4 := Lib.hid (fun nq => (num_any (rEnd bs s2) (w5.drewN nq)).mono fun e w' h => (⟨h.1, h.2.symm⟩ : e = .returned (.int .i64 (rEnd bs s2)) ∧ w' = w5.drewN nq))
                     have Q5 := Lib.hid (fun nq => qend_any q A c bs s2 (w5.drewN nq) (SL.out.rq.drewN nq))
                     have hsle := SL.out.rr.le
                     have hwr : IntKind.i64.wrap ((n : Int) - (s2.1 : Int)) = ((bs.length - s2.1 : Nat) : Int) := by have := HL.out; rw [IntKind.wrap_i64]; omega
                     have hn1 : (((s2.1 : Nat) : Int) != ((s2.1 : Nat) : Int)) = false := bne_self_eq_false _
                     have hn2 : (((bs.length - s2.1 : Nat) : Int) != ((bs.length - s2.1 : Nat) : Int)) = false := bne_self_eq_false _
                     have hn3 : (rEnd bs s2 != rEnd bs s2) = false := bne_self_eq_false _
                     go_quiet ((first | (go_at_call 30; (with_reducible exact Calls.quiet_of_same (Q1.out _))) | (go_at_call 39; (with_reducible exact Calls.quiet_of (Q2.out _))) | (go_at_call 31; (with_reducible exact Calls.quiet_of (Q3.out _))) | (go_at_call 22; (with_reducible exact Calls.quiet_of_same (Q4.out _))) | (go_at_call 40; (with_reducible exact Calls.quiet_of (Q5.out _)))))
                     go_wp2
                     go_roundw
                     case rel => exact ⟨k + 1, by omega, by go_num, s2, SL.out.drewN _⟩
                     case measure => simp [intOf]; omega)
            · have hk3 : (x.kind == 3) = false := beq_eq_false_iff_ne.2 k3
              clear k0 k1 k2 k3
              go_wp2
              clear cm ck
              have cq : wr.cell? ⟨q, 1, none⟩ = some (.int .i64 (s.1 : Int)) := HS.out.rq.pos
              have Q1 := Lib.hid (fun nq => (rat_any p A1 c1 bs s (wr.drewN nq) (HS.out.rr.drewN nq)).mono fun e w' h => (⟨h.1, h.2.symm⟩ : e = .returned (.int .i64 (s.1 : Int)) ∧ w' = wr.drewN nq))
              have Q2 := Lib.hid (fun nq => rleft_any p A1 c1 bs s (wr.drewN nq) (HS.out.rr.drewN nq))
              have Q3 := Lib.hid (fun nq => rend_any p A1 c1 bs s (wr.drewN nq) (HS.out.rr.drewN nq))
              have Q4 := Lib.hid (fun nq => (num_any (rEnd bs s) (wr.drewN nq)).mono fun e w' h => (⟨h.1, h.2.symm⟩ : e = .returned (.int .i64 (rEnd bs s)) ∧ w' = wr.drewN nq))
              have Q5 := Lib.hid (fun nq => qend_any q A c bs s (wr.drewN nq) (HS.out.rq.drewN nq))
              have hsle := HS.out.rr.le
              have hwr : IntKind.i64.wrap ((n : Int) - (s.1 : Int)) = ((bs.length - s.1 : Nat) : Int) := by have := HL.out; rw [IntKind.wrap_i64]; omega
              have hn1 : (((s.1 : Nat) : Int) != ((s.1 : Nat) : Int)) = false := bne_self_eq_false _
              have hn2 : (((bs.length - s.1 : Nat) : Int) != ((bs.length - s.1 : Nat) : Int)) = false := bne_self_eq_false _
              have hn3 : (rEnd bs s != rEnd bs s) = false := bne_self_eq_false _
              go_quiet ((first | (go_at_call 30; (with_reducible exact Calls.quiet_of_same (Q1.out _))) | (go_at_call 39; (with_reducible exact Calls.quiet_of (Q2.out _))) | (go_at_call 31; (with_reducible exact Calls.quiet_of (Q3.out _))) | (go_at_call 22; (with_reducible exact Calls.quiet_of_same (Q4.out _))) | (go_at_call 40; (with_reducible exact Calls.quiet_of (Q5.out _)))))
              go_wp2
              go_roundw
              case rel => exact ⟨k + 1, by omega, by go_num, s, HS.out.drewN _⟩
              case measure => simp [intOf]; omega
    · have BWw : Hid (Below w.heap.size w wr) := BW.out.trans (HS.out.bel.mono hz2)
      have hee : (rEnd bs s == rEnd bs s) = true := beq_self_eq_true _
      go_wp2_with fail
      refine (rend_any p A1 c1 bs s wr HS.out.rr).mono ?_
      rintro e w' ⟨rfl, m1, rfl⟩
      go_wp2_with fail
      refine (num_any _ _).mono ?_
      rintro e w' ⟨rfl, rfl⟩
      go_wp2_with fail
      refine (qend_any q A c bs s _ (HS.out.rq.drewN m1)).mono ?_
      rintro e w' ⟨rfl, m2, rfl⟩
      have HG3 := Lib.hid (HG2.out.below (Below.drewN HS.out.bel (m1 + m2)))
      go_wp2_with fail
      refine (gintact_any w.heap.size G gd G' gd' [x] [y] _ HG3.out rfl (by simp) ?_).mono ?_
      · intro k a b ha hb
        have hk : k = 0 := by have := (List.getElem?_eq_some_iff.1 ha).1; simpa using this
        subst hk
        simp at ha hb
        subst ha hb
        exact HSM.out
      rintro e w' ⟨rfl, m3, rfl⟩
      have BF : Hid (Below w.heap.size w (wr.drewN (m1 + m2 + m3))) := Below.drewN BWw.out (m1 + m2 + m3)
      go_wp2_with fail
      refine (alive_any _ (HT.out.below BF.out h0)).mono ?_
      rintro e w5 ⟨rfl, hb5⟩
      have HB5 : Hid (Below w.heap.size w w5) := BF.out.trans (hb5.mono BF.out.size)
      clear hb5
      go_wp2
      go_ret
      exact ⟨rfl, HB5.out⟩
end Go.Proofs.YtkdikbenheagmaaDoor
