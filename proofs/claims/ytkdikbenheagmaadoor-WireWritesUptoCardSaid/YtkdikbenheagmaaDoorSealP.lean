/-
  Frames: the plain laws of sealing and opening, without memory.
-/
import Derived.Test.YtkdikbenheagmaaDoorUnseal
set_option linter.unusedVariables false
set_option linter.unusedSimpArgs false
namespace Go.Proofs.YtkdikbenheagmaaDoor

theorem headL_len (n : Nat) : (headL n).length = 8 := by simp [headL, magicL, Wire.be_length]
theorem sealL_whole (b : List UInt8) : Wire.Whole (sealL b) := ⟨_, rfl⟩
theorem open_seal (b : List UInt8) (h : b.length ≤ 32756) : openL (sealL b) = (b, 0) := by
  have hl := sealL_len b
  have hh := headL_len b.length
  have e4 : (sealL b).take 4 = magicL := by
    unfold sealL headL
    rw [List.append_assoc, List.append_assoc]
    exact List.take_left' rfl
  have e8 : ((sealL b).drop 4).take 4 = Wire.be 4 b.length := by
    unfold sealL headL
    rw [List.append_assoc, List.append_assoc, List.drop_left' (show magicL.length = 4 from rfl)]
    exact List.take_left' (Wire.be_length _ _)
  have ed : Wire.dec (((sealL b).drop 4).take 4) = b.length := by rw [e8, Wire.dec_be]; exact Nat.mod_eq_of_lt (by omega)
  have et : (sealL b).take (b.length + 8) = headL b.length ++ b := by
    unfold sealL
    exact List.take_left' (by rw [List.length_append, hh]; omega)
  have er : (sealL b).drop (b.length + 8) = Wire.le 4 (Wire.sumN (headL b.length ++ b)) := by
    unfold sealL
    exact List.drop_left' (by rw [List.length_append, hh]; omega)
  have eb : ((sealL b).drop 8).take b.length = b := by
    unfold sealL
    rw [List.append_assoc, List.drop_left' hh]
    exact List.take_left' rfl
  unfold openL
  rw [if_neg (by omega), if_neg (by omega), if_neg (by rw [e4]; simp), ed, if_neg (by omega), if_neg (by omega), hl, show b.length + 12 - 4 = b.length + 8 by omega, et, er, if_neg (by simp), show b.length + 12 - 12 = b.length by omega, eb]
theorem open_err (f : List UInt8) (h : (openL f).2 ≠ 0) : (openL f).1 = [] := by
  unfold openL at *
  split
  · rfl
  · split
    · rfl
    · split
      · rfl
      · split
        · rfl
        · split
          · rfl
          · split
            · rfl
            · exact absurd (by simp_all) h
theorem open_ok (f : List UInt8) (h : (openL f).2 = 0) : sealL (openL f).1 = f ∧ (openL f).1.length ≤ 32756 ∧ Wire.Whole f := by
  unfold openL at *
  split at h
  · simp at h
  · rename_i h1
    split at h
    · simp at h
    · rename_i h2
      split at h
      · simp at h
      · rename_i h3
        split at h
        · simp at h
        · rename_i h4
          split at h
          · simp at h
          · rename_i h5
            split at h
            · simp at h
            · rename_i h6
              rw [if_neg h1, if_neg h2, if_neg h3, if_neg h4, if_neg h5, if_neg h6]
              simp only at *
              have h3 : f.take 4 = magicL := Decidable.not_not.1 h3
              have h6 : f.drop (f.length - 4) = Wire.le 4 (Wire.sumN (f.take (f.length - 4))) := Decidable.not_not.1 h6
              obtain ⟨N, hN⟩ : ∃ N, f.length = N + 12 := ⟨f.length - 12, by omega⟩
              rw [hN] at h1 h2 h4 h5 h6
              have hbl : ((f.drop 8).take N).length = N := by rw [List.length_take, List.length_drop]; omega
              rw [hN, show N + 12 - 12 = N by omega]
              rw [show N + 12 - 4 = N + 8 by omega] at h6
              have hd : Wire.dec ((f.drop 4).take 4) = N := by omega
              have hbe : Wire.be 4 N = (f.drop 4).take 4 := by
                have := Wire.be_dec ((f.drop 4).take 4)
                rw [hd, show ((f.drop 4).take 4).length = 4 by rw [List.length_take, List.length_drop]; omega] at this
                exact this
              have hhead : headL N ++ (f.drop 8).take N = f.take (N + 8) := by
                unfold headL
                rw [hbe, ← h3]
                have e1 : f.take (N + 8) = f.take 8 ++ (f.drop 8).take N := by rw [Nat.add_comm N 8, List.take_add]
                have e2 : f.take 8 = f.take 4 ++ (f.drop 4).take 4 := List.take_add (i := 4) (j := 4)
                rw [e1, e2]
              refine ⟨?_, by rw [hbl]; omega, ?_⟩
              · unfold sealL
                rw [hbl, hhead, ← h6, List.take_append_drop]
              · refine ⟨f.take (N + 8), ?_⟩
                rw [← h6, List.take_append_drop]
end Go.Proofs.YtkdikbenheagmaaDoor
