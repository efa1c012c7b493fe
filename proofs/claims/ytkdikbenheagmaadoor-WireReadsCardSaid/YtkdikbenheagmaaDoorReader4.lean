/-
  The walks of wire.NewReader, of readers that no call made, and of SameBytes.
-/
import Derived.Test.YtkdikbenheagmaaDoorReader3
set_option linter.unusedVariables false
set_option linter.unusedSimpArgs false
namespace Go.Proofs.YtkdikbenheagmaaDoor
open Go.RowKit

theorem gone_none {A' : Option Addr} {n c' : Nat} {w : World} {base : Nat} {e : TypeId} {xs : List Value} {size : Nat} (h : w.ownsRow base e size (.slice A' n c') n xs) : (A' = none → n = 0 ∧ c' = 0) ∧ n ≤ c' ∧ ∀ ad, A' = some ad → base ≤ ad.block ∧ ad.block < w.heap.size := by
  obtain ⟨A, c, e, hc, hn, ha⟩ := own_shape h
  cases e
  exact ⟨hn, hc, fun ad e => ⟨(ha ad e).2.2.1, (ha ad e).2.2.2⟩⟩

/-- A reader that was just made. -/
def NewRd (w w' : World) (e : Ending) (bs : List UInt8) : Prop :=
  ∃ p A c, e = .returned (.pointer (some ⟨p, 0, none⟩)) ∧ Rr w' p A c bs 0 0 ∧ (A = none → c = 0) ∧ Below w.heap.size w w' ∧ w.heap.size ≤ p ∧ p < w'.heap.size ∧ ∀ ad, A = some ad → w.heap.size ≤ ad.block
set_option maxHeartbeats 400000 in
theorem newReader_any (A : Option Addr) (n c : Nat) (bs : List UInt8) (w : World) (h : Rd w A n bs) (hA : A = none → n = 0 ∧ c = 0) (hb : n ≤ 140737488355328) :
    Calls Tryd.prog 28 #[.slice A n c] w fun e w' => NewRd w w' e bs := by
  have HR := Lib.hid h
  have HA := Lib.hid hA
  have b1 : 0 + n ≤ maxLen := by simp only [maxLen]; omega
  have b2 : (0 + n) * 1 ≤ 140737488355328 := by omega
  clear h hA
  go_enter Tryd.func28, Tryd.ntmps28
  go_wp2_with (at_builtin; refine wpList_app rfl (.const (.slice none 0 0)) (.tmp 3) rfl eltByte w.heap.size _ _ [] rfl (World.ownsRow_nil _ _ _ _) A _ _ (Bv bs) rfl HR.out.lenBv HA.out HR.out.news (Bv_one _) b1 b2 (Nat.le_refl _) ?_)
  intro A' c' w1 hown hgrow _
  try simp only [Nat.zero_add, List.nil_append] at hown
  have HO := Lib.hid hown
  have HG : Hid (Below w.heap.size w w1) := (Below.refl _ _).grown hgrow (Nat.le_refl _) (by intro k hk; cases hk)
  clear hown hgrow
  go_wp2
  go_ret
  have hs := gone_none HO.out
  have hl := HR.out.len
  have hz := HG.out.size
  refine ⟨w1.heap.size, A', c', rfl, ⟨?_, ?_, ?_, ?_, ?_, ?_, ?_, ?_, ?_, Nat.zero_le _⟩, fun e => (hs.1 e).2, HG.out.alloc hz _, hz, by simp, fun ad e => (hs.2.2 ad e).1⟩
  · rw [hl]; simp
  · rw [hl]; exact (own_rd HO.out).below ((Below.refl _ _).alloc (Nat.le_refl _) _)
  · rw [hl]; exact hs.2.1
  · intro ad e; have := (hs.2.2 ad e).2; omega
  all_goals simp

theorem sameBytes_any (A : Option Addr) (n c : Nat) (xa : List UInt8) (B : Option Addr) (m d : Nat) (bs : List UInt8) (w : World) (ha : Rd w A n xa) (hb : Rd w B m bs) :
    Calls Tryd.prog 23 #[.slice A n c, .slice B m d] w fun e w' => e = .returned (.bool (xa == bs)) ∧ w = w' := by
  have c1 := run_text (P := Tryd.prog) 22 9 5 Tryd.underlying22 Tryd.underlying5 Tryd.underlying9 ha c
  have c2 := run_text (P := Tryd.prog) 22 9 5 Tryd.underlying22 Tryd.underlying5 Tryd.underlying9 hb d
  clear ha hb
  go_enter Tryd.func23, Tryd.ntmps23
  go_wp2
  go_ret
  refine ⟨ret_bool ?_, rfl⟩
  rw [ByteArray.toList_eq, ByteArray.toList_eq, txt_data, txt_data]

/-! ### readers that no call made -/
/-- a reader at block p that no call made -/
def ZeroRd (w : World) (p : Nat) : Prop := w.cell? ⟨p, 3, none⟩ = some (.bool false)
section
variable (p : Nat) (w : World) (h : ZeroRd w p)
include h
theorem znumber : Calls Tryd.prog 29 #[.pointer (some ⟨p, 0, none⟩)] w fun e w' => e = .returned (.int .u64 0) ∧ w = w' := by
  go_enter Tryd.func29, Tryd.ntmps29
  go_wp2_with fail
  refine (ropen_zero p w h).mono ?_
  rintro e w' ⟨rfl, rfl⟩
  go_wp2
  go_ret
  exact ⟨rfl, rfl⟩
theorem zint (n : Int) : Calls Tryd.prog 34 #[.pointer (some ⟨p, 0, none⟩), .int .i64 n] w fun e w' => e = .returned (.int .i64 0) ∧ w = w' := by
  go_enter Tryd.func34, Tryd.ntmps34
  go_wp2_with fail
  refine (ropen_zero p w h).mono ?_
  rintro e w' ⟨rfl, rfl⟩
  go_wp2
  go_ret
  exact ⟨rfl, rfl⟩
theorem zcount (n : Int) : Calls Tryd.prog 36 #[.pointer (some ⟨p, 0, none⟩), .int .i64 n] w fun e w' => e = .returned (.int .i64 0) ∧ w = w' := by
  have F := Lib.hid (zint p w h n)
  go_enter Tryd.func36, Tryd.ntmps36
  go_wp2_with fail
  refine F.out.mono ?_
  rintro e w' ⟨rfl, rfl⟩
  go_wp2
  go_ret
  exact ⟨rfl, rfl⟩
theorem ztext (n : Int) : Calls Tryd.prog 37 #[.pointer (some ⟨p, 0, none⟩), .int .i64 n] w fun e w' => e = .returned (.string (txt [])) ∧ w = w' := by
  go_enter Tryd.func37, Tryd.ntmps37
  go_wp2_with fail
  refine (ropen_zero p w h).mono ?_
  rintro e w' ⟨rfl, rfl⟩
  go_wp2
  go_ret
  exact ⟨rfl, rfl⟩
theorem zat : Calls Tryd.prog 30 #[.pointer (some ⟨p, 0, none⟩)] w fun e w' => e = .returned (.int .i64 0) ∧ w = w' := by
  have h3 : w.cell? ⟨p, 3, none⟩ = some (.bool false) := h
  go_enter Tryd.func30, Tryd.ntmps30
  go_wp2
  go_ret
  exact ⟨rfl, rfl⟩
theorem zleft : Calls Tryd.prog 39 #[.pointer (some ⟨p, 0, none⟩)] w fun e w' => e = .returned (.int .i64 0) ∧ w = w' := by
  have h3 : w.cell? ⟨p, 3, none⟩ = some (.bool false) := h
  go_enter Tryd.func39, Tryd.ntmps39
  go_wp2
  go_ret
  exact ⟨rfl, rfl⟩
theorem zend : Calls Tryd.prog 31 #[.pointer (some ⟨p, 0, none⟩)] w fun e w' => e = .returned (.int .i64 4) ∧ w = w' := by
  have h3 : w.cell? ⟨p, 3, none⟩ = some (.bool false) := h
  go_enter Tryd.func31, Tryd.ntmps31
  go_wp2
  go_ret
  exact ⟨rfl, rfl⟩
end
section
variable (w : World)
theorem nnumber : Calls Tryd.prog 29 #[.pointer none] w fun e w' => e = .returned (.int .u64 0) ∧ w = w' := by
  go_enter Tryd.func29, Tryd.ntmps29
  go_wp2_with fail
  refine (ropen_nil w).mono ?_
  rintro e w' ⟨rfl, rfl⟩
  go_wp2
  go_ret
  exact ⟨rfl, rfl⟩
theorem nint (n : Int) : Calls Tryd.prog 34 #[.pointer none, .int .i64 n] w fun e w' => e = .returned (.int .i64 0) ∧ w = w' := by
  go_enter Tryd.func34, Tryd.ntmps34
  go_wp2_with fail
  refine (ropen_nil w).mono ?_
  rintro e w' ⟨rfl, rfl⟩
  go_wp2
  go_ret
  exact ⟨rfl, rfl⟩
theorem ncount (n : Int) : Calls Tryd.prog 36 #[.pointer none, .int .i64 n] w fun e w' => e = .returned (.int .i64 0) ∧ w = w' := by
  have F := Lib.hid (nint w n)
  go_enter Tryd.func36, Tryd.ntmps36
  go_wp2_with fail
  refine F.out.mono ?_
  rintro e w' ⟨rfl, rfl⟩
  go_wp2
  go_ret
  exact ⟨rfl, rfl⟩
theorem ntext (n : Int) : Calls Tryd.prog 37 #[.pointer none, .int .i64 n] w fun e w' => e = .returned (.string (txt [])) ∧ w = w' := by
  go_enter Tryd.func37, Tryd.ntmps37
  go_wp2_with fail
  refine (ropen_nil w).mono ?_
  rintro e w' ⟨rfl, rfl⟩
  go_wp2
  go_ret
  exact ⟨rfl, rfl⟩
theorem nat_ : Calls Tryd.prog 30 #[.pointer none] w fun e w' => e = .returned (.int .i64 0) ∧ w = w' := by
  go_enter Tryd.func30, Tryd.ntmps30
  go_wp2
  go_ret
  exact ⟨rfl, rfl⟩
theorem nleft : Calls Tryd.prog 39 #[.pointer none] w fun e w' => e = .returned (.int .i64 0) ∧ w = w' := by
  go_enter Tryd.func39, Tryd.ntmps39
  go_wp2
  go_ret
  exact ⟨rfl, rfl⟩
theorem nend : Calls Tryd.prog 31 #[.pointer none] w fun e w' => e = .returned (.int .i64 4) ∧ w = w' := by
  go_enter Tryd.func31, Tryd.ntmps31
  go_wp2
  go_ret
  exact ⟨rfl, rfl⟩
end
end Go.Proofs.YtkdikbenheagmaaDoor
