/-
  The walks of the document's Form and one.
-/
import Derived.Test.YtkdikbenheagmaaDoorLay
import Derived.Test.YtkdikbenheagmaaDoorRefSeal
import Derived.Deep.RegionWith
set_option linter.unusedVariables false
set_option linter.unusedSimpArgs false
namespace Go.Proofs.YtkdikbenheagmaaDoor
open Go.RowKit

theorem be_front : ∀ (k v : Nat), Wire.be (k + 1) v = UInt8.ofNat (v / 256 ^ k) :: Wire.be k v
  | 0, v => by simp [Wire.be]
  | k + 1, v => by
    have h := be_front k (v / 256)
    show Wire.be (k + 1) (v / 256) ++ [UInt8.ofNat v] = _ :: (Wire.be k (v / 256) ++ [UInt8.ofNat v])
    rw [h, Nat.div_div_eq_div_mul, show 256 * 256 ^ k = 256 ^ (k + 1) by rw [Nat.pow_succ, Nat.mul_comm]]
    rfl
/-- a literal of one byte, and a row appended to it -/
theorem RowB.front {w0 w w1 : World} {A : Option Addr} {l c : Nat} {L : List UInt8} (h : RowB w0 w A l c L) {A' : Option Addr} {c' : Nat} {y : UInt8} {z : Int} (hz : z = (y.toNat : Int)) {t : TypeId}
    (ho : w1.ownsRow w.heap.size 5 1 (.slice A' (1 + l) c') (1 + l) (Bv [y] ++ Bv L)) (hg : (w.alloc (.cells #[.int .u8 z] t)).grownBy w1 (some w.heap.size)) : RowB w0 w1 A' (1 + l) c' (y :: L) := by
  obtain ⟨h1, h2, h3⟩ := h
  have hb : Below w.heap.size w w1 := ((Below.refl _ _).alloc (Nat.le_refl _) _).grown hg (by simp) (fun b e => by cases e; exact Nat.le_refl _)
  refine ⟨?_, h2.trans (hb.mono h3), Nat.le_trans h3 hb.size⟩
  have e : Bv (y :: L) = Bv [y] ++ Bv L := rfl
  rw [e]
  rcases ho.2 with hn | ⟨g, cap, cur, hv, hbs, rest⟩
  · exact ⟨ho.1, .inl hn⟩
  · exact ⟨ho.1, .inr ⟨g, cap, cur, hv, by omega, rest⟩⟩

set_option maxRecDepth 100000 in
set_option maxHeartbeats 800000 in
theorem form_any (v : Nat) (hv : v < 18446744073709551616) (w : World) :
    Calls Tryd.prog 75 #[.int .u64 v] w fun e w' => ∃ A c, e = .returned (.slice A (Wire.form v).length c) ∧ RowB w w' A (Wire.form v).length c (Wire.form v) := by
  have hn8 := Wire.nby_le8 hv
  have HV := Lib.hid hv
  clear hv
  go_enter Tryd.func75, Tryd.ntmps75
  go_wp2
  go_loopw [0, 3] (fun u b wr => ∃ (j : Nat) (A : Option Addr) (c : Nat), j ≤ Wire.nby v ∧ u = .int .u64 ((v / 256 ^ j : Nat) : Int) ∧ b = .slice A j c ∧ Hid (RowB w wr A j c (Wire.be j v))) (fun _ b _ => 8 - (match b with | .slice _ j _ => j | _ => 0))
  case atStart => exact ⟨0, none, 0, Nat.zero_le _, by simp, rfl, RowB.nil w⟩
  case round =>
    obtain ⟨j, A, c, hj, rfl, rfl, HS⟩ := hrel
    by_cases hlt : j < Wire.nby v
    · have hge := Wire.nby_lt hlt
      have hpos : 0 < v / 256 ^ j := Nat.div_pos hge (Nat.pow_pos (by omega))
      have hq : v / 256 ^ j < 18446744073709551616 := Nat.lt_of_le_of_lt (Nat.div_le_self _ _) HV.out
      have hnx : v / 256 ^ j / 256 = v / 256 ^ (j + 1) := by rw [Nat.div_div_eq_div_mul, Nat.pow_succ]
      have HNX := Lib.hid hnx
      have HBF := Lib.hid (be_front j v)
      have HN := Lib.hid (news_byte wr _ (UInt8.ofNat (v / 256 ^ j)) 5 (show (((v / 256 ^ j : Nat) : Int)) % 256 = _ from rfl))
      generalize hqq : v / 256 ^ j = q at hpos hq HNX HBF HN
      clear hqq hnx hge
      have HOL := Lib.hid (World.ownsRow_lit (base := wr.heap.size) (e := 5) (size := 1) wr #[.int .u8 ((q : Int) % 256)] 1 (Nat.le_refl _) (by decide) rfl)
      have RD := own_rd HS.out.1
      have hsh := own_shape HS.out.1
      have RN := Lib.hid (fun ad (e : A = some ad) j u h => (Below.cell ((Below.refl wr.heap.size wr).alloc (Nat.le_refl _) (.cells #[.int .u8 ((q : Int) % 256)] 5)) (World.block_lt_of_cell? wr _ (RD.news ad e j u h))).trans (RD.news ad e j u h))
      have RL := Lib.hid RD.lenBv
      have RA := Lib.hid RD.none_zero
      have hc0 : Hid (A = none → j = 0 ∧ c = 0) := by
        obtain ⟨A1, c1, hv1, _, hn1, _⟩ := hsh
        cases hv1
        exact hn1
      clear RD hsh
      go_wp2_with (at_builtin; refine wpList_app rfl (.tmp 9) (.tmp 10) rfl eltByte wr.heap.size _ 1 _ rfl HOL.out A j c (Bv (Wire.be j v)) rfl RL.out hc0.out RN.out (Bv_one _) ?c3 ?c4 ?c5 ?_)
      case c3 => simp only [maxLen]; omega
      case c4 => omega
      intro A3 c3 w3 hown3 hgrow3 _
      have R3 := Lib.hid (RowB.front (y := UInt8.ofNat q) (t := 5) HS.out rfl hown3 hgrow3)
      clear hown3 hgrow3
      go_wp2
      go_roundw
      case rel =>
        refine ⟨1 + j, A3, c3, by omega, ?_, rfl, ?_⟩
        · rw [Nat.add_comm 1 j, ← HNX.out]; go_num
        · rw [Nat.add_comm 1 j, HBF.out, ← Nat.add_comm 1 j]; exact R3.out
      case measure => show 8 - (1 + j) < 8 - j; omega
    · obtain rfl : j = Wire.nby v := by omega
      have hz : v / 256 ^ Wire.nby v = 0 := Nat.div_eq_of_lt (Wire.lt_nby v)
      rw [hz]
      have HZ := Lib.hid hz
      clear hz
      have HOL := Lib.hid (World.ownsRow_lit (base := wr.heap.size) (e := 5) (size := 1) wr #[.int .u8 ((Wire.nby v : Int))] 1 (Nat.le_refl _) (by decide) rfl)
      have RD := own_rd HS.out.1
      have hsh := own_shape HS.out.1
      have RN := Lib.hid (fun ad (e : A = some ad) j u h => (Below.cell ((Below.refl wr.heap.size wr).alloc (Nat.le_refl _) (.cells #[.int .u8 ((Wire.nby v : Int))] 5)) (World.block_lt_of_cell? wr _ (RD.news ad e j u h))).trans (RD.news ad e j u h))
      have RL := Lib.hid RD.lenBv
      have hc0 : Hid (A = none → Wire.nby v = 0 ∧ c = 0) := by
        obtain ⟨A1, c1, hv1, _, hn1, _⟩ := hsh
        cases hv1
        exact hn1
      clear RD hsh
      have hnt := Lib.hid (Wire.nby_toNat HV.out)
      go_wp2_with (at_builtin; refine wpList_app rfl (.tmp 17) (.tmp 18) rfl eltByte wr.heap.size _ 1 _ rfl HOL.out A (Wire.nby v) c (Bv (Wire.be (Wire.nby v) v)) rfl RL.out hc0.out RN.out (Bv_one _) ?e3 ?e4 ?e5 ?_)
      case e3 => simp only [maxLen]; omega
      case e4 => omega
      all_goals try simp
      intro A3 c3 w3 hown3 hgrow3 _
      have R3 := Lib.hid (RowB.front (y := UInt8.ofNat (Wire.nby v)) (z := (Wire.nby v : Int)) (t := 5) HS.out (by rw [hnt.out]) (by rw [show Bv [UInt8.ofNat (Wire.nby v)] = [.int .u8 (Wire.nby v : Int)] by simp [Bv, hnt.out]]; exact hown3) hgrow3)
      clear hown3 hgrow3
      go_wp2
      go_ret
      have hfl := Wire.form_length v
      refine ⟨A3, c3, by rw [hfl, Nat.add_comm]; rfl, ?_⟩
      rw [hfl, Nat.add_comm]
      exact R3.out
end Go.Proofs.YtkdikbenheagmaaDoor
