/-
  NonceSources: the walk.
-/
import Derived.Test.YtgbjfmokfkdglaaNDoes0
import Derived.Test.YtgbjfmokfkdglaaNDoes3
import Derived.Test.YtgbjfmokfkdglaaNDoes4
import Derived.Test.YtgbjfmokfkdglaaNDoes6
import Derived.Test.YtgbjfmokfkdglaaNLent
import Derived.Test.YtgbjfmokfkdglaaNOpen4
set_option linter.unusedVariables false
set_option linter.unusedSimpArgs false
namespace Go.Proofs.Ytgbjfmokfkdglaa
open Go.RowKit

theorem does_any (W : World) (b : Bk) (L : List (Nat × Nat)) (Al : Option Addr) (cl : Nat) (w : World) (v : Vs) (k : Int) (who : Bool) (N : Nat) (hN : N < 18446744073709551616) (HRL : RdC 2 dv W Al L.length L) (HLB : (L.length : Int) ≤ 9223372036854775807) (h : Sr W b L Al cl w v) (hb : b.Ok W) :
    Calls Try.prog 32 #[P0 b.T, .agg #[.int .i64 k, .bool who, .int .u64 (N : Nat)]] w (DoesOut W b L Al cl) := by
  by_cases h0 : k = 0
  · subst h0
    cases who
    · exact does0f W b L Al cl w v N hN h hb
    · exact does0t W b L Al cl w v N hN h hb
  by_cases h1 : k = 1
  · subst h1
    cases who
    · exact does1f W b L Al cl w v N hN h hb
    · exact does1t W b L Al cl w v N hN h hb
  by_cases h2 : k = 2
  · subst h2; exact does2 W b L Al cl w v who N h hb
  by_cases h3 : k = 3
  · subst h3
    cases who
    · exact does3f W b L Al cl w v N h hb
    · exact does3t W b L Al cl w v N h hb
  by_cases h4 : k = 4
  · subst h4
    cases who
    · exact does4f W b L Al cl w v N h hb
    · exact does4t W b L Al cl w v N h hb
  by_cases h5 : k = 5
  · subst h5; exact does5 W b L Al cl w v who N h hb
  by_cases h6 : k = 6
  · subst h6; exact does6 W b L Al cl w v who N HRL h hb
  by_cases h7 : k = 7
  · subst h7; exact does7 W b L Al cl w v who N HLB h hb
  exact doesN W b L Al cl w v k who N h0 h1 h2 h3 h4 h5 h6 h7 h hb
theorem Ss.anyG {w : World} {s g g' : Nat} {A : Option Addr} {c : Nat} {R : List (Nat × Nat)} (h : Ss w s g A c R) (hA : A = none) : Ss w s g' A c R :=
  ⟨h.ob, h.rd, h.cap, (fun ad e => by rw [hA] at e; cases e), (fun ad e => by rw [hA] at e; cases e)⟩
/-- the program's objects before the script -/
structure Mid (W : World) (at_ : Nat) (seed : Int) (L : List (Nat × Nat)) (ci s g : Nat) (As : Option Addr) (cs : Nat) (w : World) : Prop where
  c : Ob w ci [.int .u64 (at_ : Nat)]
  m : Ob w (ci + 1) [.int .u64 seed]
  ss : Ss w s g As cs L
  bel : Below W.heap.size W w
theorem Mid.kept {W : World} {at_ : Nat} {seed : Int} {L : List (Nat × Nat)} {ci s g : Nat} {As : Option Addr} {cs : Nat} {w w' : World} (h : Mid W at_ seed L ci s g As cs w) {r : Nat} (hg : w.grownBy w' (some r)) (h1 : ci ≠ r) (h2 : ci + 1 ≠ r) (h3 : s ≠ r) (h4 : g ≠ r) (h5 : W.heap.size ≤ r) : Mid W at_ seed L ci s g As cs w' :=
  ⟨h.c.kept hg (by simpa using h1), h.m.kept hg (by simpa using h2), h.ss.kept hg (by simpa using h3) (fun _ _ => by simpa using h4), Below.trans h.bel (Below.of_grown hg h5 h.bel.size)⟩
theorem Mid.keptN {W : World} {at_ : Nat} {seed : Int} {L : List (Nat × Nat)} {ci s g : Nat} {As : Option Addr} {cs : Nat} {w w' : World} (h : Mid W at_ seed L ci s g As cs w) (hg : w.grownBy w' none) : Mid W at_ seed L ci s g As cs w' :=
  ⟨h.c.kept hg (by simp), h.m.kept hg (by simp), h.ss.kept hg (by simp) (fun _ _ => by simp), grown_below_drop ((grown_of_below h.bel none).trans hg) (Nat.le_refl _)⟩
theorem own_keptN {w w' : World} {base n m : Nat} {xs : List Value} {v : Value} (h : w.ownsRow base 25 2 v n xs) (hg : w.grownBy w' none) : w'.ownsRow base 25 2 v n xs := h.kept hg (by cases v.ownBlock <;> simp)
theorem box_set (w : World) (T K j : Nat) (C : Array Value) (t : TypeId) (hK : w.heap.size = K) {cs : List Value} (hT : Ob w T cs) (hj : j < cs.length) :
    Ob ((w.setCell ⟨T, j, none⟩ (P0 K)).alloc (.cells C t)) K C.toList ∧ Ob ((w.setCell ⟨T, j, none⟩ (P0 K)).alloc (.cells C t)) T (cs.set j (P0 K)) ∧ w.grownBy ((w.setCell ⟨T, j, none⟩ (P0 K)).alloc (.cells C t)) (some T) ∧ ((w.setCell ⟨T, j, none⟩ (P0 K)).alloc (.cells C t)).heap.size = K + 1 := by
  refine ⟨?_, (hT.set j hj _).alloc _, (gb_set (World.grownBy.refl _ _) _ _ (.inl rfl)).trans (World.grownBy_alloc _ _ _), by rw [World.size_alloc, World.size_setCell, hK]⟩
  have := Ob.fresh (w.setCell ⟨T, j, none⟩ (P0 K)) C t
  rwa [World.size_setCell, hK] at this
set_option maxRecDepth 100000 in
set_option maxHeartbeats 3200000 in
theorem nonceSources_walk (a : Int) (seed : Int) (A : Option Addr) (n c : Nat) (L : List (Nat × Nat)) (SA : Option Addr) (sn sc : Nat) (SL : List (Int × Bool × Nat)) (W : World)
    (wa : (Lit.int .u64 a).wf = true) (ws : (Lit.int .u64 seed).wf = true) (hl : RdC 2 dv W A n L) (hA : A = none → n = 0 ∧ c = 0) (hsm : n * 16 ≤ 140737488351232) (hs : RdC 3 opv W SA sn SL) (hok : ∀ x ∈ SL, OpOk x) :
    Calls Try.prog 7 #[.int .u64 a, .int .u64 seed, .slice A n c, .slice SA sn sc] W fun e w' => e = .returned (.bool true) ∧ Below W.heap.size W w' := by
  obtain ⟨at_, rfl, hat⟩ : ∃ k : Nat, a = (k : Int) ∧ k < 18446744073709551616 := by
    have := bounds_u64 wa
    exact ⟨a.toNat, by omega, by omega⟩
  obtain rfl : L.length = n := hl.len
  have HAT := Lib.hid hat
  have HL := Lib.hid hl
  have HSM := Lib.hid hsm
  have HS := Lib.hid hs
  have HOK := Lib.hid hok
  have F := Lib.hid (lent_any A L.length c L W hl hA hsm)
  clear wa ws hl hA hsm hs hok hat
  go_enter Try.func7, Try.ntmps7
  go_wp2_with fail
  refine F.out.mono ?_
  clear F
  rintro e w1 ⟨ad, cg, rfl, g1, o1⟩
  obtain ⟨A'', c'', hv, hcap, _, hsome⟩ := own_shape o1
  cases hv
  obtain ⟨ho0, hsp, hbl, hlt⟩ := hsome ad rfl
  obtain ⟨gb, off, spot⟩ := ad
  simp only at ho0 hsp hbl hlt
  subst ho0 hsp
  have G1 := Lib.hid g1
  have O1 := Lib.hid o1
  have H7 : Hid (RdC 2 dv w1 (some ⟨gb, 0, none⟩) (L.length + 7) (L ++ tailL 7)) := rdc_own o1 (by rw [List.length_append, tailL_len])
  have HGB : Hid (W.heap.size ≤ gb ∧ gb < w1.heap.size ∧ L.length + 7 ≤ cg) := ⟨hbl, hlt, hcap⟩
  clear g1 o1 hcap hsome hbl hlt
  go_wp2_with fail
  refine (newClock_at at_ w1 _ rfl).mono ?_
  obtain ⟨ci, hci⟩ : ∃ x, w1.heap.size = x := ⟨_, rfl⟩
  rw [hci] at HGB ⊢
  rintro e w2 ⟨rfl, g2, z2, o2⟩
  have G2 := Lib.hid g2
  have C2 := Lib.hid o2
  have Z2 := Lib.hid z2
  have HCI := Lib.hid hci
  clear g2 o2 z2 hci
  go_wp2_with fail
  refine (newMixed_at seed w2 _ Z2.out).mono ?_
  rintro e w3 ⟨rfl, g3, z3, o3⟩
  have G3 := Lib.hid g3
  have M3 := Lib.hid o3
  have Z3 := Lib.hid z3
  have C3 : Hid (Ob w3 ci [.int .u64 (at_ : Nat)]) := C2.out.kept g3 (by simp)
  clear g3 o3 z3 C2
  have hl3 : RdC 2 dv w3 (some ⟨gb, 0, none⟩) L.length L := by
    have h := (H7.out.grown (G2.out.trans G3.out) (fun _ _ => by simp)).take L.length (by omega)
    rwa [List.take_left' rfl] at h
  have F := Lib.hid (newStream_any (some ⟨gb, 0, none⟩) L.length cg L w3 hl3 (fun e => by cases e) HSM.out)
  clear hl3
  go_wp2_with fail
  refine F.out.mono ?_
  clear F
  rintro e w4 ⟨s, g', As, cs, rfl, hb4, hs4, hg4, S4⟩
  obtain ⟨g, S4', hgn, hgs⟩ : ∃ g, Ss w4 s g As cs L ∧ (W.heap.size ≤ g ∧ g ≠ ci ∧ g ≠ ci + 1 ∧ g ≠ s ∧ g < w4.heap.size) ∧ (As.isSome = true → gb ≠ g) := by
    have hs1 := S4.ob.lt (by simp)
    have := HGB.out
    have := Z3.out
    cases As with
    | none => exact ⟨gb, S4.anyG rfl, by omega, fun e => by cases e⟩
    | some ad => have := S4.ne ad rfl; exact ⟨g', S4, by omega, fun _ => by omega⟩
  have HG : Hid (W.heap.size ≤ g ∧ g ≠ ci ∧ g ≠ ci + 1 ∧ g ≠ s ∧ g < w4.heap.size ∧ ci + 2 ≤ s ∧ s < w4.heap.size) := by
    have := Z3.out
    have hs1 := S4.ob.lt (by simp)
    exact ⟨hgn.1, hgn.2.1, hgn.2.2.1, hgn.2.2.2.1, hgn.2.2.2.2, by omega, hs1⟩
  have HS4 := Lib.hid S4'
  have HGS := Lib.hid hgs
  have C4 := Lib.hid (C3.out.below hb4)
  have M4 := Lib.hid (M3.out.below hb4)
  have O4 : Hid (w4.ownsRow W.heap.size 25 2 (.slice (some ⟨gb, 0, none⟩) (L.length + 7) cg) (L.length + 7) (DV (L ++ tailL 7))) := O1.out.kept ((G2.out.trans G3.out).trans (grown_of_below hb4 none)) (by cases (Value.slice (some ⟨gb, 0, none⟩) (L.length + 7) cg).ownBlock <;> simp)
  have B4 : Hid (Below W.heap.size W w4) := grown_below_drop ((G1.out.trans (G2.out.trans G3.out)).trans (grown_of_below hb4 none)) (Nat.le_refl _)
  have Z4 : Hid (ci + 2 ≤ w4.heap.size) := by have h1 := hb4.size; have h2 := Z3.out; simp only [Hid]; omega
  clear hb4 hs4 hg4 S4 S4' hgn hgs C3 M3 O1 G1 G2 G3 H7 HCI
  have fT := Ob.fresh w4 #[P0 ci, .pointer none, .pointer none, P0 (ci + 1), P0 s, .pointer none, .pointer none, .pointer none, .pointer none, .slice A L.length c, .int .i64 0] 70
  have gT := World.grownBy_alloc w4 (.cells #[P0 ci, .pointer none, .pointer none, P0 (ci + 1), P0 s, .pointer none, .pointer none, .pointer none, .pointer none, .slice A L.length c, .int .i64 0] 70) none
  have zT : (w4.alloc (.cells #[P0 ci, .pointer none, .pointer none, P0 (ci + 1), P0 s, .pointer none, .pointer none, .pointer none, .pointer none, .slice A L.length c, .int .i64 0] 70)).heap.size = w4.heap.size + 1 := World.size_alloc _ _
  have FT := Lib.hid fT
  have GT := Lib.hid gT
  have ZT := Lib.hid zT
  clear fT gT zT
  go_upto_region 4 with fail
  generalize w4.alloc (.cells #[P0 ci, .pointer none, .pointer none, P0 (ci + 1), P0 s, .pointer none, .pointer none, .pointer none, .pointer none, .slice A L.length c, .int .i64 0] 70) = w5 at FT GT ZT ⊢
  obtain ⟨T, hT⟩ : ∃ x, w4.heap.size = x := ⟨_, rfl⟩
  rw [hT] at FT ZT HG Z4 ⊢
  have GB4 := grown_of_below B4.out none
  have S5 : Hid (Mid W at_ seed L ci s g As cs w5) := ⟨C4.out.kept GT.out (by simp), M4.out.kept GT.out (by simp), HS4.out.kept GT.out (by simp) (fun _ _ => by simp), grown_below_drop (GB4.trans GT.out) (Nat.le_refl _)⟩
  have O5 : Hid (w5.ownsRow W.heap.size 25 2 (.slice (some ⟨gb, 0, none⟩) (L.length + 7) cg) (L.length + 7) (DV (L ++ tailL 7))) := O4.out.kept GT.out (by cases (Value.slice (some ⟨gb, 0, none⟩) (L.length + 7) cg).ownBlock <;> simp)
  have HGT : Hid ((ci + 2 ≤ s ∧ s < T ∧ ci < T) ∧ (As.isSome = true → g ≠ gb)) := by
    have h1 := HG.out
    exact ⟨by omega, fun e => Ne.symm (HGS.out e)⟩
  have HLT : Hid (W.heap.size ≤ ci ∧ ci ≠ T ∧ ci + 1 ≠ T ∧ s ≠ T ∧ g ≠ T ∧ gb ≠ T ∧ W.heap.size ≤ T) := by
    have h1 := HG.out
    have h2 := HGB.out
    simp only [Hid]; omega
  clear HS4 C4 M4 O4 B4 GT hT GB4
  have y0 := FT.out.cell 0 rfl
  have yf := FT.out.fr 1 (by simp)
  go_wp2_with fail
  refine (newPairs_at ci w5 _ ZT.out).mono ?_
  rintro e w6 ⟨rfl, g6, z6, o6⟩
  have y0 := (FT.out.kept g6 (by simp)).cell 0 rfl
  have y1 := (FT.out.kept g6 (by simp)).cell 1 rfl
  have yf := (FT.out.kept g6 (by simp)).fr 1 (by simp)
  go_upto_region 5 with fail
  have g67 := grown_setCell w6 ⟨T, 1, none⟩ (P0 (T + 1))
  have T7 := Lib.hid ((FT.out.kept g6 (by simp)).set 1 (by simp) (P0 (T + 1)))
  have P7 : Hid (Ob (w6.setCell ⟨T, 1, none⟩ (P0 (T + 1))) (T + 1) [P0 ci, .int .u64 0, .int .u64 0]) := o6.kept g67 (by simp)
  have S7 : Hid (Mid W at_ seed L ci s g As cs (w6.setCell ⟨T, 1, none⟩ (P0 (T + 1)))) := by
    obtain ⟨l0, l1, l2, l3, l4, l5, l6⟩ := HLT.out
    exact (S5.out.keptN g6).kept g67 l1 l2 l3 l4 l6
  have O7 : Hid ((w6.setCell ⟨T, 1, none⟩ (P0 (T + 1))).ownsRow W.heap.size 25 2 (.slice (some ⟨gb, 0, none⟩) (L.length + 7) cg) (L.length + 7) (DV (L ++ tailL 7))) := by
    have := HLT.out.2.2.2.2.2.1
    exact (own_keptN (m := 0) O5.out g6).kept g67 (.inr (by simp [Value.ownBlock]; omega))
  have Z7 : Hid ((w6.setCell ⟨T, 1, none⟩ (P0 (T + 1))).heap.size = T + 1 + 1) := by simp only [Hid, World.size_setCell]; exact z6
  generalize w6.setCell ⟨T, 1, none⟩ (P0 (T + 1)) = w7 at T7 P7 S7 O7 Z7 ⊢
  clear g67 g6 z6 o6 FT S5 O5 y0 y1 yf
  have y0 := T7.out.cell 0 rfl
  have yf := T7.out.fr 2 (by simp)
  go_wp2_with fail
  refine (newPairs_at ci w7 _ Z7.out).mono ?_
  rintro e w8 ⟨rfl, g8, z8, o8⟩
  have y0 := (T7.out.kept g8 (by simp)).cell 0 rfl
  have y2 := (T7.out.kept g8 (by simp)).cell 2 rfl
  have yf := (T7.out.kept g8 (by simp)).fr 2 (by simp)
  go_upto_region 6 with fail
  have g89 := grown_setCell w8 ⟨T, 2, none⟩ (P0 (T + 1 + 1))
  have T9 := Lib.hid ((T7.out.kept g8 (by simp)).set 2 (by simp) (P0 (T + 1 + 1)))
  have Q9 : Hid (Ob (w8.setCell ⟨T, 2, none⟩ (P0 (T + 1 + 1))) (T + 1 + 1) [P0 ci, .int .u64 0, .int .u64 0]) := o8.kept g89 (by simp; omega)
  have P9 : Hid (Ob (w8.setCell ⟨T, 2, none⟩ (P0 (T + 1 + 1))) (T + 1) [P0 ci, .int .u64 0, .int .u64 0]) := (P7.out.kept g8 (by simp)).kept g89 (by simp)
  have S9 : Hid (Mid W at_ seed L ci s g As cs (w8.setCell ⟨T, 2, none⟩ (P0 (T + 1 + 1)))) := by
    obtain ⟨l0, l1, l2, l3, l4, l5, l6⟩ := HLT.out
    exact (S7.out.keptN g8).kept g89 l1 l2 l3 l4 l6
  have O9 : Hid ((w8.setCell ⟨T, 2, none⟩ (P0 (T + 1 + 1))).ownsRow W.heap.size 25 2 (.slice (some ⟨gb, 0, none⟩) (L.length + 7) cg) (L.length + 7) (DV (L ++ tailL 7))) := by
    have := HLT.out.2.2.2.2.2.1
    exact (own_keptN (m := 0) O7.out g8).kept g89 (.inr (by simp [Value.ownBlock]; omega))
  have Z9 : Hid ((w8.setCell ⟨T, 2, none⟩ (P0 (T + 1 + 1))).heap.size = T + 1 + 1 + 1) := by simp only [Hid, World.size_setCell]; exact z8
  generalize w8.setCell ⟨T, 2, none⟩ (P0 (T + 1 + 1)) = w9 at T9 P9 Q9 S9 O9 Z9 ⊢
  clear g89 g8 z8 o8 T7 S7 O7 P7 Z7 y0 y2 yf
  have y0 := T9.out.cell 0 rfl
  have y1 := T9.out.cell 1 rfl
  have y2 := T9.out.cell 2 rfl
  have y3 := T9.out.cell 3 rfl
  have y4 := T9.out.cell 4 rfl
  have F := Lib.hid (kept_any ⟨gb, 0, none⟩ A L.length c cg L w9 HGB.out.2.2 (rdc_own O9.out (by rw [List.length_append, tailL_len])) (HL.out.below S9.out.bel) HSM.out)
  go_wp2_with fail
  refine F.out.mono ?_
  clear F y0 y1 y2 y3 y4
  rintro e w' ⟨rfl, nq, rfl⟩
  have gq : w9.grownBy (w9.drewN nq) none := grown_drewN (World.grownBy.refl _ none) nq
  have T10 := Lib.hid (T9.out.kept gq (by simp))
  have P10 := Lib.hid (P9.out.kept gq (by simp))
  have Q10 := Lib.hid (Q9.out.kept gq (by simp))
  have S10 := Lib.hid (S9.out.keptN gq)
  have O10 := Lib.hid (own_keptN (m := 0) O9.out gq)
  have Z10 : Hid ((w9.drewN nq).heap.size = T + 1 + 1 + 1) := Z9.out
  generalize w9.drewN nq = w10 at T10 P10 Q10 S10 O10 Z10 ⊢
  clear T9 P9 Q9 S9 O9 Z9 gq
  have HN : Hid (L.length ≤ 140737488351232) := by have := HSM.out; simp only [Hid]; omega
  go_wp2_with fail
  go_loopw [13] (fun i wr => ∃ k, k ≤ L.length ∧ i = .int .i64 k ∧ Hid ((∃ xs, wr.ownsRow W.heap.size 25 2 (.slice (some ⟨gb, 0, none⟩) (L.length + 7) cg) (L.length + 7) xs) ∧ Ob wr T [P0 ci, P0 (T + 1), P0 (T + 1 + 1), P0 (ci + 1), P0 s, .pointer none, .pointer none, .pointer none, .pointer none, .slice A L.length c, .int .i64 0] ∧ Ob wr (T + 1) [P0 ci, .int .u64 0, .int .u64 0] ∧ Ob wr (T + 1 + 1) [P0 ci, .int .u64 0, .int .u64 0] ∧ Mid W at_ seed L ci s g As cs wr ∧ wr.heap.size = T + 1 + 1 + 1)) (fun i _ => L.length - (intOf i).toNat)
  case atStart => exact ⟨0, by omega, rfl, ⟨_, O10.out⟩, T10.out, P10.out, Q10.out, S10.out, Z10.out⟩
  case round =>
    obtain ⟨k, hk, rfl, HR⟩ := hrel
    by_cases hkn : k < L.length
    · obtain ⟨⟨xs, ho⟩, h1, h2, h3, h4, h5⟩ := HR.out
      have hxl : xs.length = (L.length + 7) * 2 := ho.1
      have y0 : wr.cell? ⟨gb, k * 2, none⟩ = some (xs[k * 2]'(by omega)) := by rw [ho.cellAt _ (by omega)]; exact List.getElem?_eq_getElem (by omega)
      have y1 : wr.cell? ⟨gb, k * 2 + 1, none⟩ = some (xs[k * 2 + 1]'(by omega)) := by rw [ho.cellAt _ (by omega)]; exact List.getElem?_eq_getElem (by omega)
      have f0 := ho.frozenAt (k * 2)
      have f1 := ho.frozenAt (k * 2 + 1)
      have o1 := (ho.stored (k * 2) (.int .u64 99)).1.stored (k * 2 + 1) (.int .u64 0)
      have gg : wr.grownBy ((wr.setCell ⟨gb, k * 2, none⟩ (.int .u64 99)).setCell ⟨gb, k * 2 + 1, none⟩ (.int .u64 0)) (some gb) := gb_set (gb_set (World.grownBy.refl _ _) _ _ (.inl rfl)) _ _ (.inl rfl)
      have HH : Hid ((∃ xs, ((wr.setCell ⟨gb, k * 2, none⟩ (.int .u64 99)).setCell ⟨gb, k * 2 + 1, none⟩ (.int .u64 0)).ownsRow W.heap.size 25 2 (.slice (some ⟨gb, 0, none⟩) (L.length + 7) cg) (L.length + 7) xs) ∧ Ob ((wr.setCell ⟨gb, k * 2, none⟩ (.int .u64 99)).setCell ⟨gb, k * 2 + 1, none⟩ (.int .u64 0)) T [P0 ci, P0 (T + 1), P0 (T + 1 + 1), P0 (ci + 1), P0 s, .pointer none, .pointer none, .pointer none, .pointer none, .slice A L.length c, .int .i64 0] ∧ Ob ((wr.setCell ⟨gb, k * 2, none⟩ (.int .u64 99)).setCell ⟨gb, k * 2 + 1, none⟩ (.int .u64 0)) (T + 1) [P0 ci, .int .u64 0, .int .u64 0] ∧ Ob ((wr.setCell ⟨gb, k * 2, none⟩ (.int .u64 99)).setCell ⟨gb, k * 2 + 1, none⟩ (.int .u64 0)) (T + 1 + 1) [P0 ci, .int .u64 0, .int .u64 0] ∧ Mid W at_ seed L ci s g As cs ((wr.setCell ⟨gb, k * 2, none⟩ (.int .u64 99)).setCell ⟨gb, k * 2 + 1, none⟩ (.int .u64 0)) ∧ ((wr.setCell ⟨gb, k * 2, none⟩ (.int .u64 99)).setCell ⟨gb, k * 2 + 1, none⟩ (.int .u64 0)).heap.size = T + 1 + 1 + 1) := by
        have a1 := HGB.out
        have a2 := HGT.out
        refine ⟨⟨_, o1.1⟩, h1.kept gg (by simp; omega), h2.kept gg (by simp; omega), h3.kept gg (by simp; omega), ⟨h4.c.kept gg (by simp; omega), h4.m.kept gg (by simp; omega), ?_, Below.trans h4.bel (Below.of_grown gg a1.1 h4.bel.size)⟩, by rw [World.size_setCell, World.size_setCell]; exact h5⟩
        cases As with
        | none => exact ⟨h4.ss.ob.kept gg (by simp; omega), ⟨h4.ss.rd.len, h4.ss.rd.le, fun j x hj => by obtain ⟨ad, e, _⟩ := h4.ss.rd.cell j x hj; cases e⟩, h4.ss.cap, (fun ad e => by cases e), (fun ad e => by cases e)⟩
        | some ad => exact h4.ss.kept gg (by simp; omega) (fun _ _ => by have := a2.2 rfl; simp; omega)
      have e1 : IntKind.i64.wrap ((k : Int) + 1) = (k : Int) + 1 := by have := HN.out; rw [IntKind.wrap_i64]; omega
      have hk0 : (0 : Int) ≤ (k : Int) := by omega
      have hki : (k : Int) < (L.length : Int) := by omega
      generalize xs[k * 2]'(by omega) = u0 at y0
      generalize xs[k * 2 + 1]'(by omega) = u1 at y1
      clear HR ho h1 h2 h3 h4 h5 hxl o1 gg hk
      go_wp2
      go_roundw
      case rel => exact ⟨k + 1, by omega, by go_num, HH⟩
      case measure => simp [intOf]; omega
    · have hki : ¬ (k : Int) < (L.length : Int) := by omega
      obtain ⟨_, h1, h2, h3, h4, h5⟩ := HR.out
      have Twr := Lib.hid h1
      have Pwr := Lib.hid h2
      have Qwr := Lib.hid h3
      have Swr := Lib.hid h4
      have Zwr := Lib.hid h5
      clear HR h1 h2 h3 h4 h5
      have y5 := Twr.out.cell 5 rfl
      have yf := Twr.out.fr 5 (by simp)
      have lT := Twr.out.lt (by simp)
      go_upto_region 13 with fail
      rw [Zwr.out]
      obtain ⟨n1, n2, n3, n4⟩ := box_set wr T (T + 1 + 1 + 1) 5 #[.int .u64 (at_ : Nat)] 73 Zwr.out Twr.out (by simp)
      obtain ⟨wd, hwd⟩ : ∃ x, (wr.setCell ⟨T, 5, none⟩ (P0 (T + 1 + 1 + 1))).alloc (.cells #[.int .u64 (at_ : Nat)] 73) = x := ⟨_, rfl⟩
      rw [hwd] at n1 n2 n3 n4 ⊢
      have Swd : Hid (Mid W at_ seed L ci s g As cs wd) := by
        obtain ⟨l0, l1, l2, l3, l4, l5, l6⟩ := HLT.out
        exact Swr.out.kept n3 l1 l2 l3 l4 l6
      have Pwd := Lib.hid (Pwr.out.kept n3 (by simp <;> omega))
      have Qwd := Lib.hid (Qwr.out.kept n3 (by simp <;> omega))
      have Dwd := Lib.hid n1
      have Twd := Lib.hid n2
      have Zwd := Lib.hid n4
      clear n1 n2 n3 n4 hwd y5 yf lT Pwr Qwr Twr Swr Zwr
      have y6 := Twd.out.cell 6 rfl
      have yf := Twd.out.fr 6 (by simp)
      have lT := Twd.out.lt (by simp)
      have y5 := Twd.out.cell 5 rfl
      go_upto_region 14 with fail
      rw [Zwd.out]
      obtain ⟨n1, n2, n3, n4⟩ := box_set wd T (T + 1 + 1 + 1 + 1) 6 #[P0 (T + 1 + 1 + 1), .slice none 0 0] 75 Zwd.out Twd.out (by simp)
      obtain ⟨wx, hwx⟩ : ∃ x, (wd.setCell ⟨T, 6, none⟩ (P0 (T + 1 + 1 + 1 + 1))).alloc (.cells #[P0 (T + 1 + 1 + 1), .slice none 0 0] 75) = x := ⟨_, rfl⟩
      rw [hwx] at n1 n2 n3 n4 ⊢
      have Swx : Hid (Mid W at_ seed L ci s g As cs wx) := by
        obtain ⟨l0, l1, l2, l3, l4, l5, l6⟩ := HLT.out
        exact Swd.out.kept n3 l1 l2 l3 l4 l6
      have Pwx := Lib.hid (Pwd.out.kept n3 (by simp <;> omega))
      have Qwx := Lib.hid (Qwd.out.kept n3 (by simp <;> omega))
      have Dwx := Lib.hid (Dwd.out.kept n3 (by simp <;> omega))
      have Xwx := Lib.hid n1
      have Twx := Lib.hid n2
      have Zwx := Lib.hid n4
      clear n1 n2 n3 n4 hwx y6 yf lT y5 Pwd Qwd Dwd Twd Swd Zwd
      have y7 := Twx.out.cell 7 rfl
      have yf := Twx.out.fr 7 (by simp)
      have lT := Twx.out.lt (by simp)
      have y5 := Twx.out.cell 5 rfl
      go_upto_region 15 with fail
      rw [Zwx.out]
      obtain ⟨n1, n2, n3, n4⟩ := box_set wx T (T + 1 + 1 + 1 + 1 + 1) 7 #[P0 (T + 1 + 1 + 1), .slice none 0 0] 75 Zwx.out Twx.out (by simp)
      obtain ⟨wy, hwy⟩ : ∃ x, (wx.setCell ⟨T, 7, none⟩ (P0 (T + 1 + 1 + 1 + 1 + 1))).alloc (.cells #[P0 (T + 1 + 1 + 1), .slice none 0 0] 75) = x := ⟨_, rfl⟩
      rw [hwy] at n1 n2 n3 n4 ⊢
      have Swy : Hid (Mid W at_ seed L ci s g As cs wy) := by
        obtain ⟨l0, l1, l2, l3, l4, l5, l6⟩ := HLT.out
        exact Swx.out.kept n3 l1 l2 l3 l4 l6
      have Pwy := Lib.hid (Pwx.out.kept n3 (by simp <;> omega))
      have Qwy := Lib.hid (Qwx.out.kept n3 (by simp <;> omega))
      have Dwy := Lib.hid (Dwx.out.kept n3 (by simp <;> omega))
      have Xwy := Lib.hid (Xwx.out.kept n3 (by simp <;> omega))
      have Ywy := Lib.hid n1
      have Twy := Lib.hid n2
      have Zwy := Lib.hid n4
      clear n1 n2 n3 n4 hwy y7 yf lT y5 Pwx Qwx Dwx Xwx Twx Swx Zwx
      have y8 := Twy.out.cell 8 rfl
      have yf := Twy.out.fr 8 (by simp)
      have lT := Twy.out.lt (by simp)
      go_upto_region 16 with fail
      rw [Zwy.out]
      obtain ⟨n1, n2, n3, n4⟩ := box_set wy T (T + 1 + 1 + 1 + 1 + 1 + 1) 8 #[.int .u64 seed] 77 Zwy.out Twy.out (by simp)
      obtain ⟨wz, hwz⟩ : ∃ x, (wy.setCell ⟨T, 8, none⟩ (P0 (T + 1 + 1 + 1 + 1 + 1 + 1))).alloc (.cells #[.int .u64 seed] 77) = x := ⟨_, rfl⟩
      rw [hwz] at n1 n2 n3 n4 ⊢
      have Swz : Hid (Mid W at_ seed L ci s g As cs wz) := by
        obtain ⟨l0, l1, l2, l3, l4, l5, l6⟩ := HLT.out
        exact Swy.out.kept n3 l1 l2 l3 l4 l6
      have Pwz := Lib.hid (Pwy.out.kept n3 (by simp <;> omega))
      have Qwz := Lib.hid (Qwy.out.kept n3 (by simp <;> omega))
      have Dwz := Lib.hid (Dwy.out.kept n3 (by simp <;> omega))
      have Xwz := Lib.hid (Xwy.out.kept n3 (by simp <;> omega))
      have Ywz := Lib.hid (Ywy.out.kept n3 (by simp <;> omega))
      have Z0wz := Lib.hid n1
      have Twz := Lib.hid n2
      have Zwz := Lib.hid n4
      clear n1 n2 n3 n4 hwz y8 yf lT Pwy Qwy Dwy Xwy Ywy Twy Swy Zwy
      have HBK : Hid (Bk.Ok ⟨ci, ci + 1, s, g, T, T + 1, T + 1 + 1, T + 1 + 1 + 1, T + 1 + 1 + 1 + 1, T + 1 + 1 + 1 + 1 + 1, T + 1 + 1 + 1 + 1 + 1 + 1, T + 1 + 1 + 1 + 1 + 1 + 1 + 1⟩ W) := by
        have h1 := HG.out
        have h2 := HGB.out
        have h3 := HGT.out.1
        constructor <;> simp only <;> omega
      have HSR : Hid (Sr W ⟨ci, ci + 1, s, g, T, T + 1, T + 1 + 1, T + 1 + 1 + 1, T + 1 + 1 + 1 + 1, T + 1 + 1 + 1 + 1 + 1, T + 1 + 1 + 1 + 1 + 1 + 1, T + 1 + 1 + 1 + 1 + 1 + 1 + 1⟩ L A c wz ⟨at_, 0, 0, 0, 0, seed, 0⟩) := by
        refine ⟨Twz.out, Swz.out.c, Dwz.out, Pwz.out, Qwz.out, Swz.out.m, Z0wz.out, ⟨As, cs, Swz.out.ss⟩, ⟨none, 0, none, 0, ⟨Xwz.out, World.ownsRow_nil _ _ _ _, by simp only; omega⟩, ⟨Ywz.out, World.ownsRow_nil _ _ _ _, by simp only; omega⟩, fun j e => by cases e⟩, Swz.out.bel, Nat.le_of_eq Zwz.out.symm, Nat.zero_le _, HAT.out, by simp only; omega, by simp only; omega⟩
      obtain ⟨b, hb⟩ : ∃ b : Bk, b = ⟨ci, ci + 1, s, g, T, T + 1, T + 1 + 1, T + 1 + 1 + 1, T + 1 + 1 + 1 + 1, T + 1 + 1 + 1 + 1 + 1, T + 1 + 1 + 1 + 1 + 1 + 1, T + 1 + 1 + 1 + 1 + 1 + 1 + 1⟩ := ⟨_, rfl⟩
      have hbT : T = b.T := by rw [hb]
      rw [← hb] at HBK HSR
      clear hb Twz Swz Dwz Pwz Qwz Z0wz Xwz Ywz Zwz HG HGB HGT HLT HAT HGS Z2 Z3 Z4 hki
      have HLL : Hid ((L.length : Int) ≤ 9223372036854775807) := by have := HN.out; simp only [Hid]; omega
      have hsn : (sn : Int) ≤ 9223372036854775807 := by have := HS.out.le; omega
      have FD : Hid (∀ (w : World) (v : Vs) (k : Int) (who : Bool) (N : Nat), N < 18446744073709551616 → Hid (Sr W b L A c w v) → Calls Try.prog 32 #[P0 b.T, .agg #[.int .i64 k, .bool who, .int .u64 (N : Nat)]] w (DoesOut W b L A c)) :=
        fun w v k who N hN h => does_any W b L A c w v k who N hN HL.out HLL.out h.out HBK.out
      subst hbT
      clear HL HLL HBK HN HSM
      go_wp2_with fail
      go_loopw [14] (fun i wr => ∃ (j : Nat) (v : Vs), j ≤ sn ∧ i = .int .i64 j ∧ Hid (Sr W b L A c wr v)) (fun i _ => sn - (intOf i).toNat)
      case atStart => exact ⟨0, _, by omega, rfl, HSR⟩
      case round =>
        obtain ⟨j, v, hj, rfl, HV⟩ := hrel
        clear HSR
        by_cases hjn : j < sn
        · obtain ⟨x, hx⟩ : ∃ x, SL[j]? = some x := ⟨_, List.getElem?_eq_getElem (by have := HS.out.len; omega)⟩
          obtain ⟨sd, rfl, q0, q1, q2⟩ := (HS.out.below HV.out.bel).three hx
          have hxo : OpOk x := HOK.out x (List.mem_of_getElem? hx)
          obtain ⟨xk, xw, xn⟩ := x
          have HXO : Hid (xn < 18446744073709551616) := hxo
          have e1 : IntKind.i64.wrap ((j : Int) + 1) = (j : Int) + 1 := by rw [IntKind.wrap_i64]; omega
          have E1 := Lib.hid e1
          have hj0 : (0 : Int) ≤ (j : Int) := by omega
          have hji : (j : Int) < (sn : Int) := by omega
          clear hx hxo e1 hj
          go_wp2_with fail
          refine (FD.out wr v xk xw xn HXO.out HV).mono ?_
          rintro e w' ⟨v', rfl, hv'⟩
          have HV' := Lib.hid hv'
          have e1 := E1.out
          clear hv' q0 q1 q2 HV
          go_wp2
          go_roundw
          case rel => exact ⟨j + 1, v', by omega, by go_num, HV'⟩
          case measure => simp [intOf]; omega
        · have hji : ¬ (j : Int) < (sn : Int) := by omega
          clear hj hjn
          go_wp2_with fail
          refine (FD.out wr v 2 false 0 (by omega) HV).mono ?_
          rintro e wa ⟨va, rfl, ha⟩
          have HA := Lib.hid ha
          clear ha HV
          go_wp2_with fail
          refine (FD.out wa va 3 false 0 (by omega) HA).mono ?_
          rintro e wb ⟨vb, rfl, hb⟩
          have HB := Lib.hid hb
          clear hb HA
          go_wp2_with fail
          refine (FD.out wb vb 3 true 0 (by omega) HB).mono ?_
          rintro e wc ⟨vc, rfl, hc⟩
          have HC := Lib.hid hc
          clear hc HB
          go_wp2_with fail
          refine (FD.out wc vc 5 false 0 (by omega) HC).mono ?_
          rintro e wd ⟨vd, rfl, hd⟩
          have HD := Lib.hid hd
          clear hd HC
          go_wp2_with fail
          refine (FD.out wd vd 7 false 0 (by omega) HD).mono ?_
          rintro e we ⟨ve, rfl, he⟩
          have HE := Lib.hid he
          clear he HD
          go_wp2
          go_ret
          exact ⟨rfl, HE.out.bel⟩
end Go.Proofs.Ytgbjfmokfkdglaa
