/-
  Opening a law's arguments: what a slice of bytes that came in gives the walks; the table.
-/
import Derived.Test.YtkdikbenheagmaaDoorSum
import Derived.Test.YtkdikbenheagmaaDoorRows
import Derived.ProofKit
import Derived.OpenShut
import Derived.SizedLaws
import Derived.Carry
import Derived.Lib.LaidTab
set_option linter.unusedVariables false
set_option linter.unusedSimpArgs false
namespace Go.Proofs.YtkdikbenheagmaaDoor
open Go.ChangeShapes Go.WideShapes Go.ChangeAt Go.RowKit

theorem own : ownKnob Tryd.prog.godebug = none := by kernel_rfl
theorem laidOut : laidOutB Tryd.prog = true := by kernel_rfl

/-! ### the table -/
def nibI : List Int := [0, 498536548, 997073096, 651767980, 1994146192, 1802195444, 1303535960, 1342533948, 3988292384, 4027552580, 3604390888, 3412177804, 2607071920, 2262029012, 2685067896, 3183342108]
theorem gTab : Tryd.prog.globalNamed "amnesia/wire.nibbles" = some 0 := by kernel_rfl
theorem gTabType : (Tryd.prog.globals[0]?).map (·.type) = some 86 := by kernel_rfl
theorem cellsTab : Tryd.prog.cellsOf 86 = 16 := by kernel_rfl
theorem cellsU32 : Tryd.prog.cellsOf 24 = 1 := by kernel_rfl
theorem tab_of {W : World} (h : laidMetH Tryd.prog [("amnesia/wire.nibbles", Rows.laid_amnesia_wire_nibbles)] W) : Tab W := by
  have ht : Lib.TabIs Tryd.prog W "amnesia/wire.nibbles" .u32 nibI := Lib.tabIs_of_head (rest := []) gTab gTabType Tryd.underlying86 Tryd.underlying24 cellsU32 cellsTab h
  intro j hj
  have hc := ht.cell gTab j hj
  rw [hc]
  have e : ∀ i : Fin 16, nibI.getD i.val 0 = (Wire.nb i.val : Int) := by decide
  rw [e ⟨j, hj⟩]
/-- A world for the witness: the table as its initialiser lays it. -/
noncomputable def laidWorld (os : Os) : World :=
  { World.holding Tryd.prog os ⟨#[], #[], []⟩ with heap := (World.holding Tryd.prog os ⟨#[], #[], []⟩).heap.modify 0 fun
      | .cells _ t frozen => .cells #[.int .u32 0, .int .u32 498536548, .int .u32 997073096, .int .u32 651767980, .int .u32 1994146192, .int .u32 1802195444, .int .u32 1303535960, .int .u32 1342533948, .int .u32 3988292384, .int .u32 4027552580, .int .u32 3604390888, .int .u32 3412177804, .int .u32 2607071920, .int .u32 2262029012, .int .u32 2685067896, .int .u32 3183342108] t frozen
      | o => o }

/-! ### a slice of bytes that came in -/
structure BArg {H : Type} (P : Program) (W : World) (t : TypeId) (A : Option Addr) (n c : Nat) (bs : List UInt8) (d : DataW H) : Prop where
  rd : Rd W A n bs
  cap : n ≤ c
  none : A = .none → n = 0 ∧ c = 0
  small : ∀ {ts : List TypeId} {ds : List (DataW H)} {j : Nat}, (DataW.weightsEach P ts ds).all (· ≤ reachBytes) = true → ts[j]? = some t → ds[j]? = some d → n ≤ 140737488351232
  bulk : n + 1 ≤ Rows.uptoBulk d
theorem bulk_len {H : Type} (l : List (DataW H)) : l.length ≤ Rows.uptoBulkAll l := by
  induction l with
  | nil => simp [Rows.uptoBulkAll]
  | cons x r ih =>
    have h1 : 1 ≤ Rows.uptoBulk x := by
      cases x with
      | lit l => cases l <;> simp [Rows.uptoBulk]
      | _ => simp [Rows.uptoBulk]
    simp only [Rows.uptoBulkAll, List.length_cons]; omega
theorem ints_bytes (zs : List Int) (h : ∀ n ∈ zs, (Lit.int .u8 n).wf = true) : ∃ bs : List UInt8, bs.length = zs.length ∧ ∀ j, zs.getD j 0 = bg bs j := by
  induction zs with
  | nil => exact ⟨[], rfl, fun j => by simp [bg]⟩
  | cons z r ih =>
    obtain ⟨bs, hl, hb⟩ := ih fun n hn => h n (List.mem_cons_of_mem _ hn)
    have hz := h z List.mem_cons_self
    have hz' : 0 ≤ z ∧ z < 256 := by
      have := bounds_u8 hz
      omega
    refine ⟨UInt8.ofNat z.toNat :: bs, by simp [hl], fun j => ?_⟩
    cases j with
    | zero =>
      simp [bg, UInt8.toNat_ofNat']
      omega
    | succ j =>
      have := hb j
      simpa [bg] using this
set_option maxRecDepth 100000 in
theorem open_bytes {H : Type} {enc : TypeId × Value → H} {W : World} {base : Nat} {v : Value} {d : DataW H} {p : List MemPlace} (hv : Value.okWide Tryd.prog W .any base 22 v)
    (h : DataW.Trod enc Tryd.prog W 0 (fun _ => true) true 22 v d p) : ∃ A n c bs, v = .slice A n c ∧ BArg Tryd.prog W 22 A n c bs d := by
  obtain ⟨a, len, cap, rfl⟩ := okWide_slice Tryd.underlying22 hv
  obtain ⟨fuel, hf⟩ := h
  rcases open_ints Tryd.underlying22 Tryd.underlying5 (by kernel_rfl) hf with ⟨hcs, hx⟩ | ⟨x, l, c, zs, hcs, _, hl, hm, hz, hx, hcell, hwz⟩
  · simp [Value.cells] at hcs
    obtain ⟨rfl, rfl, rfl⟩ := hcs
    simp only [Prod.mk.injEq] at hx
    obtain ⟨rfl, _⟩ := hx
    exact ⟨none, 0, 0, [], rfl, Rd.nil W, Nat.le_refl _, fun _ => ⟨rfl, rfl⟩, fun _ _ _ => Nat.zero_le _, by simp [Rows.uptoBulk]⟩
  · simp [Value.cells] at hcs
    obtain ⟨rfl, rfl, rfl⟩ := hcs
    simp only [Prod.mk.injEq] at hx
    obtain ⟨rfl, _⟩ := hx
    obtain ⟨bs, hbl, hbg⟩ := ints_bytes zs hwz
    have hzl : zs.length = cap := by simpa using hz
    have hll : (lits (H := H) .u8 (zs.take len)).length + (lits (H := H) .u8 (zs.drop len)).length = cap := by simp [lits]; omega
    refine ⟨some x, len, cap, bs.take len, rfl, ⟨by rw [List.length_take]; omega, by simp only [maxLen] at hm; omega, fun h0 => ⟨x, rfl, fun j hj => ?_⟩⟩, hl, (fun e => by cases e), ?_, ?_⟩
    · rw [hcell j (by omega), hbg]
      simp [bg, List.getD_eq_getElem?_getD, hj]
    · intro ts ds j hw ht hd
      have := sized_slice hw ht hd Tryd.underlying22
      rw [show Tryd.prog.bytesOf 5 = 1 from by kernel_rfl, hll] at this
      simp only [reachBytes] at this
      omega
    · have h1 := bulk_len (lits (H := H) .u8 (zs.take len))
      have h2 : (lits (H := H) .u8 (zs.take len)).length = len := by simp [lits]; omega
      simp only [Rows.uptoBulk]
      omega
end Go.Proofs.YtkdikbenheagmaaDoor
