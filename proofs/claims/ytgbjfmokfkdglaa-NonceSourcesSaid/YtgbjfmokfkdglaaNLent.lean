/-
  NonceSources' lent and kept.
-/
import Derived.Test.YtgbjfmokfkdglaaNStream
import Derived.Test.YtgbjfmokfkdglaaNTakes
set_option linter.unusedVariables false
set_option linter.unusedSimpArgs false
namespace Go.Proofs.Ytgbjfmokfkdglaa
open Go.RowKit

def tailL (k : Nat) : List (Nat × Nat) := (List.range k).map (fun i => (77, i))
theorem tailL_len (k : Nat) : (tailL k).length = k := by simp [tailL]
theorem tailL_succ (k : Nat) : tailL (k + 1) = tailL k ++ [(77, k)] := by simp [tailL, List.range_succ]
theorem tailL_get {k i : Nat} (h : i < k) : (tailL k)[i]? = some (77, i) := by simp [tailL, h]
set_option maxRecDepth 100000 in
set_option maxHeartbeats 1600000 in
theorem lent_any (A : Option Addr) (n c : Nat) (L : List (Nat × Nat)) (w : World) (h : RdC 2 dv w A n L) (hA : A = none → n = 0 ∧ c = 0) (hsm : n * 16 ≤ 140737488351232) :
    Calls Try.prog 29 #[.slice A n c] w fun e w' => ∃ (ad : Addr) (cg : Nat), e = .returned (.slice (some ad) n cg) ∧ w.grownBy w' none ∧ w'.ownsRow w.heap.size 25 2 (.slice (some ad) (n + 7) cg) (n + 7) (DV (L ++ tailL 7)) := by
  have H := Lib.hid h
  have HA := Lib.hid hA
  have HSM := Lib.hid hsm
  clear h hA hsm
  go_enter Try.func29, Try.ntmps29
  go_wp2_with (at_builtin; refine wpList_app rfl (.tmp 5) (.tmp 6) rfl eltDraw w.heap.size (.slice none 0 0) 0 [] rfl (World.ownsRow_nil _ _ _ _) A n c (DV L) rfl (by rw [DV_len, H.out.len]) HA.out (rdc_news H.out) (DV_one L) ?d3 ?d4 ?d5 ?_)
  case d3 => have := HSM.out; simp only [maxLen]; omega
  case d4 => have := HSM.out; omega
  case d5 => omega
  intro A' c' w1 ho hg hblk
  have HO : Hid (w1.ownsRow w.heap.size 25 2 (.slice A' n c') n (DV L)) := by simp only [Hid]; simpa using ho
  have HG : Hid (w.grownBy w1 none) := hg
  clear ho hg hblk
  go_wp2_with fail
  go_loopw [3, 4] (fun lv iv wr => ∃ (k : Nat) (G : Option Addr) (cg : Nat), k ≤ 7 ∧ lv = .slice G (n + k) cg ∧ iv = .int .i64 k ∧
    Hid (w.grownBy wr none ∧ wr.ownsRow w.heap.size 25 2 (.slice G (n + k) cg) (n + k) (DV (L ++ tailL k)))) (fun _ i _ => 7 - (intOf i).toNat)
  case atStart => exact ⟨0, A', c', by omega, rfl, rfl, HG.out, by simpa [tailL] using HO.out⟩
  case round =>
    obtain ⟨k, G, cg, hk, rfl, rfl, HR⟩ := hrel
    by_cases hkn : k < 7
    · have e1 : IntKind.i64.wrap ((k : Int) + 1) = (k : Int) + 1 := by rw [IntKind.wrap_i64]; omega
      have e2 : IntKind.u64.wrap (k : Int) = (k : Int) := by rw [IntKind.wrap_u64]; omega
      have hk7 : (k : Int) < 7 := by omega
      have E1 := Lib.hid e1
      have Z1 : Hid (w.heap.size ≤ wr.heap.size) := HR.out.1.size
      clear e1
      go_wp2_with (at_builtin; refine wpList_app rfl (.tmp 12) (.tmp 16) rfl eltDraw w.heap.size (.slice G (n + k) cg) (n + k) (DV (L ++ tailL k)) rfl (HR.out.2.alloc _) (some ⟨wr.heap.size, 0, none⟩) 1 1 [.int .u64 ((77 : Nat) : Int), .int .u64 (k : Nat)] rfl rfl (fun h => by cases h) ?d2 (DV_one [(77, k)]) ?d3 ?d4 ?d5 ?_)
      case d2 => exact news2 wr (.int .u64 ((77 : Nat) : Int)) (.int .u64 (k : Nat)) 25
      case d3 => have := HSM.out; simp only [maxLen]; omega
      case d4 => have := HSM.out; omega
      case d5 => have := Z1.out; simp; omega
      intro G' cg' v9 ho9 hg9 _
      have g9 : wr.grownBy v9 (Value.slice G (n + k) cg).ownBlock := (World.grownBy_alloc wr _ _).trans hg9
      have hgw : w.grownBy v9 none := HR.out.1.andThen g9 (fun j e => .inl ((HR.out.2.lt j e).1))
      have HG9 := Lib.hid hgw
      have HO9 := Lib.hid ho9
      clear ho9 hg9 g9 hgw
      have e1 := E1.out
      go_wp2
      go_roundw
      case rel =>
        refine ⟨k + 1, G', cg', by omega, rfl, by go_num, HG9.out, ?_⟩
        rw [tailL_succ, ← List.append_assoc, DV_append]; exact HO9.out
      case measure => simp [intOf]; omega
    · obtain rfl : k = 7 := by omega
      obtain ⟨A'', c'', hv, hcap, hnone, hsome⟩ := own_shape HR.out.2
      cases hv
      obtain ⟨ad, rfl⟩ : ∃ ad, G = some ad := by
        cases G with
        | none => have := (hnone rfl).1; omega
        | some ad => exact ⟨ad, rfl⟩
      have h0 : (0 : Int) ≤ (n : Int) := by omega
      have h2 : (n : Int) ≤ (cg : Int) := by omega
      have HX := Lib.hid HR.out
      clear HR hcap hnone hsome
      go_wp2
      go_ret
      exact ⟨ad, cg, rfl, HX.out.1, HX.out.2⟩
set_option maxRecDepth 100000 in
set_option maxHeartbeats 1600000 in
theorem kept_any (ad : Addr) (A : Option Addr) (n c cg : Nat) (L : List (Nat × Nat)) (w : World) (hcg : n + 7 ≤ cg) (h7 : RdC 2 dv w (some ad) (n + 7) (L ++ tailL 7)) (hl : RdC 2 dv w A n L) (hsm : n * 16 ≤ 140737488351232) :
    Calls Try.prog 31 #[.slice (some ad) n cg, .slice A n c] w fun e w' => e = .returned (.bool true) ∧ ∃ m, w' = w.drewN m := by
  have H7 := Lib.hid h7
  have HL := Lib.hid hl
  have HSM := Lib.hid hsm
  have hn7 : IntKind.i64.wrap ((n : Int) + 7) = ((n + 7 : Nat) : Int) := by rw [IntKind.wrap_i64]; omega
  have h0 : (0 : Int) ≤ ((n + 7 : Nat) : Int) := by omega
  have h2 : ((n + 7 : Nat) : Int) ≤ (cg : Int) := by omega
  clear h7 hl hsm hcg
  go_enter Try.func31, Try.ntmps31
  go_wp2_with fail
  clear hn7 h0 h2
  have hna : (n : Int) ≤ 9223372036854775807 := by have := HSM.out; omega
  go_loopw [6] (fun i wr => ∃ (k m : Nat), k ≤ n + 7 ∧ i = .int .i64 k ∧ Hid (wr = w.drewN m)) (fun i _ => n + 7 - (intOf i).toNat)
  case atStart => exact ⟨0, 0, by omega, rfl, rfl⟩
  case round =>
    obtain ⟨k, m, hk, rfl, HR⟩ := hrel
    by_cases hk7 : k < n + 7
    · obtain ⟨x, hx⟩ : ∃ x, (L ++ tailL 7)[k]? = some x := ⟨_, List.getElem?_eq_getElem (by have := H7.out.len; omega)⟩
      obtain ⟨ad', e, g0, g1⟩ := H7.out.two hx
      cases e
      have e1 : IntKind.i64.wrap ((k : Int) + 1) = (k : Int) + 1 := by have := HSM.out; rw [IntKind.wrap_i64]; omega
      have E1 := Lib.hid e1
      have hi7 : (k : Int) < ((n + 7 : Nat) : Int) := by omega
      have hk0 : (0 : Int) ≤ (k : Int) := by omega
      by_cases hkn : k < n
      · have hxl : L[k]? = some x := by rwa [List.getElem?_append_left (by have := HL.out.len; omega)] at hx
        obtain ⟨bd, rfl, g2, g3⟩ := HL.out.two hxl
        obtain ⟨x1, x2⟩ := x
        have q0 : wr.cell? (ad.add (k * 2)) = some (.int .u64 x1) := HR.out ▸ g0
        have q1 : wr.cell? ⟨(ad.add (k * 2)).block, (ad.add (k * 2)).off + 1, none⟩ = some (.int .u64 x2) := HR.out ▸ g1
        have q2 : wr.cell? (bd.add (k * 2)) = some (.int .u64 x1) := HR.out ▸ g2
        have q3 : wr.cell? ⟨(bd.add (k * 2)).block, (bd.add (k * 2)).off + 1, none⟩ = some (.int .u64 x2) := HR.out ▸ g3
        have hi : (k : Int) < (n : Int) := by omega
        have hge : decide (n ≤ k) = false := decide_eq_false (by omega)
        clear hx hxl g0 g1 g2 g3 e1 hk hk7
        go_wp2_with fail
        have e1 := E1.out
        go_quiet (fail)
        go_wp2
        go_roundw
        case rel => exact ⟨k + 1, m + nq, by omega, by go_num, by rw [HR.out, World.drewN_drewN]; exact rfl⟩
        case measure => simp [intOf]; omega
      · have hxl : x = (77, k - n) := by
          rw [List.getElem?_append_right (by have := HL.out.len; omega), HL.out.len, tailL_get (by omega)] at hx
          exact (Option.some.inj hx).symm
        subst hxl
        have q0 : wr.cell? (ad.add (k * 2)) = some (.int .u64 77) := HR.out ▸ g0
        have q1 : wr.cell? ⟨(ad.add (k * 2)).block, (ad.add (k * 2)).off + 1, none⟩ = some (.int .u64 ((k - n : Nat) : Int)) := HR.out ▸ g1
        have hi : ¬ (k : Int) < (n : Int) := by omega
        have hi' : (n : Int) ≤ (k : Int) := by omega
        have hge : decide (n ≤ k) = true := decide_eq_true (by omega)
        have hlt : decide (k < n) = false := decide_eq_false (by omega)
        have e2 : IntKind.i64.wrap ((k : Int) - (n : Int)) = ((k - n : Nat) : Int) := by have := HSM.out; rw [IntKind.wrap_i64]; omega
        have e3 : IntKind.u64.wrap ((k - n : Nat) : Int) = ((k - n : Nat) : Int) := by have := HSM.out; rw [IntKind.wrap_u64]; omega
        obtain ⟨j, hj⟩ : ∃ j, k - n = j := ⟨_, rfl⟩
        rw [hj] at q1 e2 e3
        clear hx g0 g1 e1 hk hk7 hj
        go_wp2_with fail
        have e1 := E1.out
        go_quiet (fail)
        go_wp2
        go_roundw
        case rel => exact ⟨k + 1, m + nq, by omega, by go_num, by rw [HR.out, World.drewN_drewN]; exact rfl⟩
        case measure => simp [intOf]; omega
    · obtain rfl : k = n + 7 := by omega
      go_wp2
      go_ret
      exact ⟨rfl, m, HR.out⟩
end Go.Proofs.Ytgbjfmokfkdglaa
