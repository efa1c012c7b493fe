/-
  Bytes as texts; cuts with two ends.
-/
import Derived.Test.YtkdikbenheagmaaDoorBase
set_option linter.unusedVariables false
set_option linter.unusedSimpArgs false
namespace Go.Proofs.YtkdikbenheagmaaDoor
open Go.RowKit

/-- bytes as a text -/
def txt (bs : List UInt8) : ByteArray := ⟨bs.toArray⟩
theorem txt_size (bs : List UInt8) : (txt bs).size = bs.length := by simp [txt, ByteArray.size]
theorem txt_data (bs : List UInt8) : (txt bs).data.toList = bs := by simp [txt]
theorem txt_of (s : ByteArray) : txt s.data.toList = s := by cases s; simp [txt]
theorem run_text {P : Program} {w : World} (src dst e : TypeId) (hs : P.underlying src = some (.slice e)) (he : P.underlying e = some (.int .u8)) (hd : P.underlying dst = some .string) {A : Option Addr} {n : Nat} {bs : List UInt8} (h : Rd w A n bs) (c : Nat) :
    (convert src dst (.slice A n c)).run P w = .ok (.string (txt bs)) w := by
  rcases A with _ | a
  · have h0 := h.none_zero rfl
    have hl := h.len
    subst h0
    obtain rfl : bs = [] := List.eq_nil_of_length_eq_zero hl
    rw [run_convert_bytes_nil w src e hs he _ _ dst hd]
    rfl
  · have hl : (loadCells a n).run P w = .ok ((bs.map fun x => (x.toNat : Int)).map (Value.int .u8)).toArray w := by
      have := run_loadCells_list (P := P) w a (Bv bs) (rd_news h)
      rw [Bv_length, h.len] at this
      rw [this]
      simp [Bv]
    rw [run_convert_bytes_string w src dst e _ n c hs he hd, run_bytesToString w _ n c _ hl, foldl_push_bytes]
    simp only [Result.ok.injEq, Value.string.injEq, and_true]
    have hid : ((fun n : Int => UInt8.ofNat n.toNat) ∘ fun x : UInt8 => (x.toNat : Int)) = id := by funext x; simp
    simp [txt, ByteArray.empty, ByteArray.emptyWithCapacity]
    rw [hid, List.map_id]
    rfl
/-- a cut with two ends, without a case on the capacity -/
theorem run_cut2 {P : Program} (t e : TypeId) {i : TypeInfo} (ht : P.underlying t = some (.slice e)) (hi : P.info? e = some i) (hsz : i.size = 1) (A : Option Addr) (n c l m : Nat) (hl : l ≤ m) (hm : m ≤ c) (hn : A = none → c = 0) :
    ∃ A' : Option Addr, (∀ W : World, (Instr.slice t (.slice A n c) (some (.int .i64 (l : Int))) (some (.int .i64 (m : Int))) none).run P W = .ok (.slice A' (m - l) (c - l)) W) ∧
      (∀ (w : World) (bs : List UInt8), Rd w A n bs → m ≤ n → Rd w A' (m - l) ((bs.drop l).take (m - l))) := by
  refine ⟨if c = l then A else A.map (·.add l), fun W => ?_, fun w bs h hc => ?_⟩
  · have hel : P.elem t = e := by simp [Program.elem, ht]
    have hu : P.underlying t = some (.slice (P.elem t)) := by rw [hel]; exact ht
    rw [run_slice_lh W t A n c hu .i64 .i64 (l : Int) (m : Int) (Int.natCast_nonneg _) (by omega) (by omega), hel]
    simp [sizeOf, typeInfo, hi, hsz, sliced, Result.andThen]
  · have hle := h.le
    by_cases h0 : c = l
    · rw [if_pos h0]
      have h1 : m - l = 0 := by omega
      rw [h1]
      exact ⟨by simp, by omega, fun h2 => by omega⟩
    · rw [if_neg h0]
      rcases A with _ | ad
      · have h1 := h.none_zero rfl
        have h2 : m - l = 0 := by omega
        rw [h2]
        exact ⟨by simp, by omega, fun h3 => by omega⟩
      · exact (h.drop l (by omega)).take (m - l) (by omega)
end Go.Proofs.YtkdikbenheagmaaDoor
