/-
  The walk of the law WireFrames.
-/
import Derived.Test.YtkdikbenheagmaaDoorIntact
import Derived.Test.YtkdikbenheagmaaDoorRefSeal
import Derived.Test.YtkdikbenheagmaaDoorRefOpen
import Derived.Test.YtkdikbenheagmaaDoorAlive
set_option linter.unusedVariables false
set_option linter.unusedSimpArgs false
namespace Go.Proofs.YtkdikbenheagmaaDoor
open Go.RowKit

set_option maxRecDepth 100000 in
set_option maxHeartbeats 8000000 in
theorem wireFrames_walk (A : Option Addr) (n c : Nat) (bs : List UInt8) (w : World) (hr : Rd w A n bs) (hc : n ≤ c) (hA : A = none → n = 0 ∧ c = 0) (hy : n ≤ 140737488351232) (ht : Tab w) :
    Calls Tryd.prog 4 #[.slice A n c] w fun e w' => e = .returned (.bool true) ∧ Below w.heap.size w w' := by
  have h0 : 0 < w.heap.size := World.block_lt_of_cell? w _ (ht 0 (by decide))
  have HT := Lib.hid ht
  have HR := Lib.hid hr
  have HA := Lib.hid hA
  have hl := hr.len
  have HL := Lib.hid hl
  have G1 := Lib.hid (Gv.start w 33)
  have Ba : Hid (Below w.heap.size w (w.alloc (.cells #[.slice none 0 0, .slice none 0 0, .slice none 0 0, .slice none 0 0, .slice none 0 0, .slice none 0 0, .slice none 0 0, .slice none 0 0, .slice none 0 0, .slice none 0 0] 33))) := (Below.refl _ _).alloc (Nat.le_refl _) _
  clear ht hr hA hl
  go_enter Tryd.func4, Tryd.ntmps4
  go_wp2_with fail
  refine (gbytes_any w.heap.size none 0 none 0 [] [] _ G1.out (by decide) (by decide) A n c bs (HR.out.below Ba.out) HA.out hy).mono ?_
  rintro e w2 ⟨G, d, G', d', x, y, rfl, hb2, hg2, hx1, hy1, hx2, hy2⟩
  have BW : Hid (Below w.heap.size w w2) := Ba.out.trans hb2
  have HG2 := Lib.hid hg2
  have hxo := hg2.e0 x (by simp)
  have HX : Hid (Rd w2 x.A n bs) := by
    have := hxo.1.take n (by omega)
    rwa [hx1, List.take_left' HL.out] at this
  have hxc : n ≤ x.c := by have := hxo.2.2.1; omega
  have HXA : Hid (x.A = none → n = 0 ∧ x.c = 0) := fun e => by have := hxo.2.1 e; omega
  have HSM : Hid (x.bs = y.bs) := by show _ = _; rw [hx1, hy1]
  have B2 : Hid (Below w2.heap.size w2 w2) := Below.refl _ _
  have HR2 := Lib.hid (HR.out.below BW.out)
  have HT2 := Lib.hid (HT.out.below BW.out h0)
  have hz2 := BW.out.size
  have h02 : 0 < w2.heap.size := by omega
  clear hb2 hg2 hxo hx1 hy1 hx2 hy2 G1 Ba
  generalize hxA : x.A = XA at HX HXA
  generalize hxcc : x.c = xc at hxc HXA
  clear hxA hxcc
  have FS := Lib.hid (fun w' (hb : Below w2.heap.size w2 w') => seal_any XA n xc bs w' (HX.out.below hb) HXA.out (HT2.out.below hb h02))
  have RS := Lib.hid (fun w' (hb : Below w2.heap.size w2 w') => rseal_any A n c bs w' (HR2.out.below hb) HA.out)
  have FO := Lib.hid (fun w' (hb : Below w2.heap.size w2 w') => open_any' XA n xc bs w' (HX.out.below hb) hxc HXA.out (HT2.out.below hb h02))
  have RO := Lib.hid (fun w' (hb : Below w2.heap.size w2 w') => ropen_any A n c bs w' (HR2.out.below hb) hc HA.out)
  generalize (if n ≤ 32756 then sealL bs else []) = sl at FS RS
  generalize (if n ≤ 32756 then (0 : Int) else 11) = se at FS RS
  generalize (openL bs).1 = ol at FO RO
  generalize (openL bs).2 = oe at FO RO
  go_wp2_with fail
  refine (FS.out w2 B2.out).mono ?_
  rintro e w3 ⟨A3, c3, rfl, hb3, ho3⟩
  have B3 : Hid (Below w2.heap.size w2 w3) := B2.out.trans (hb3.mono B2.out.size)
  have H3 := Lib.hid (own_rd ho3)
  clear hb3 ho3
  go_wp2_with fail
  refine (RS.out w3 B3.out).mono ?_
  rintro e w4 ⟨A4, c4, rfl, hb4, ho4⟩
  have B4 : Hid (Below w2.heap.size w2 w4) := B3.out.trans (hb4.mono B3.out.size)
  have H4 := Lib.hid (own_rd ho4)
  have H3 := Lib.hid (H3.out.below hb4)
  clear hb4 ho4
  go_wp2_with fail
  refine (FO.out w4 B4.out).mono ?_
  rintro e w5 ⟨A5, c5, rfl, hb5, ho5⟩
  have B5 : Hid (Below w2.heap.size w2 w5) := B4.out.trans (hb5.mono B4.out.size)
  have H5 := Lib.hid (own_rd ho5)
  have H3 := Lib.hid (H3.out.below hb5)
  have H4 := Lib.hid (H4.out.below hb5)
  clear hb5 ho5
  go_wp2_with fail
  refine (RO.out w5 B5.out).mono ?_
  rintro e w6 ⟨A6, c6, rfl, hb6, ho6⟩
  have B6 : Hid (Below w2.heap.size w2 w6) := B5.out.trans (hb6.mono B5.out.size)
  have H6 := Lib.hid (own_rd ho6)
  have H3 := Lib.hid (H3.out.below hb6)
  have H4 := Lib.hid (H4.out.below hb6)
  have H5 := Lib.hid (H5.out.below hb6)
  clear hb6 ho6
  have hs1 : (((Wire.sumN bs : Nat) : Int) == ((Wire.sumN bs : Nat) : Int)) = true := beq_self_eq_true _
  have hs2 : (se == se) = true := beq_self_eq_true _
  have hs3 : (((oe : Nat) : Int) == ((oe : Nat) : Int)) = true := beq_self_eq_true _
  go_wp2_with fail
  refine (sum_any XA n xc bs w6 (HX.out.below B6.out) (HT2.out.below B6.out h02)).mono ?_
  rintro e w' ⟨rfl, rfl⟩
  go_wp2_with fail
  refine (rsum_any A n c bs w6 (HR2.out.below B6.out)).mono ?_
  rintro e w' ⟨rfl, rfl⟩
  go_wp2_with fail
  refine (num_any _ _).mono ?_
  rintro e w' ⟨rfl, rfl⟩
  go_wp2_with fail
  refine (sameBytes_any A3 _ c3 sl A4 _ c4 sl w6 H3.out H4.out).mono ?_
  rintro e w' ⟨rfl, rfl⟩
  rw [beq_self_eq_true]
  go_wp2_with fail
  refine (num_any _ _).mono ?_
  rintro e w' ⟨rfl, rfl⟩
  go_wp2_with fail
  refine (sameBytes_any A5 _ c5 ol A6 _ c6 ol w6 H5.out H6.out).mono ?_
  rintro e w' ⟨rfl, rfl⟩
  rw [beq_self_eq_true]
  go_wp2_with fail
  refine (gintact_any w.heap.size G d G' d' [x] [y] w6 (HG2.out.below B6.out) rfl (by simp) ?_).mono ?_
  · intro k a b ha hb
    have hk : k = 0 := by have := (List.getElem?_eq_some_iff.1 ha).1; simpa using this
    subst hk
    simp at ha hb
    subst ha hb
    exact HSM.out
  rintro e w' ⟨rfl, m, rfl⟩
  go_wp2
  go_ret
  exact ⟨rfl, Below.drewN (BW.out.trans (B6.out.mono hz2)) m⟩
end Go.Proofs.YtkdikbenheagmaaDoor
