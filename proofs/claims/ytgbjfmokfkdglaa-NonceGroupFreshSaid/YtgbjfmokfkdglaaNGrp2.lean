/-
  nonce's Group of several replicas over a clock: Drawn, NewGroup.
-/
import Derived.Test.YtgbjfmokfkdglaaNGrp
set_option linter.unusedVariables false
set_option linter.unusedSimpArgs false
namespace Go.Proofs.Ytgbjfmokfkdglaa
open Go.RowKit

theorem SVL_SVx (l : List St) : SVL l = SVx l := rfl
set_option maxHeartbeats 400000 in
theorem grpDrawn_any (W : World) (B b sb pb c n : Nat) (pp : Nat → Nat) (cp cs : Nat) (w : World) (D : Option Addr) (cd : Nat) (l : List St) (a : Nat) (mq : Nat → Nat × Nat) (h : Gr W B b sb pb c n pp cp cs w D cd l a mq) (hl : l.length * 24 ≤ 140737488355328) :
    Calls Try.prog 42 #[Pb b] w fun e w' => ∃ A c, e = .returned (.slice A l.length c) ∧ w.grownBy w' none ∧ w'.ownsRow w.heap.size 27 3 (.slice A l.length c) l.length (SVL l) := by
  have HK := Lib.hid hl
  have c3 := h.og.cell 3 rfl
  have lb := h.og.lt (by simp)
  obtain ⟨D', cd', hv, _, hnone, _⟩ := own_shape h.od
  cases hv
  have HN := Lib.hid hnone
  have hnews := Lib.hid (rds_news (rds_own h.od rfl))
  clear h hl hnone
  go_enter Try.func42, Try.ntmps42
  go_wp2_with (at_builtin; refine wpList_app rfl (.const (.slice none 0 0)) (.tmp 8) rfl eltStamp w.heap.size (.slice none 0 0) 0 [] rfl (World.ownsRow_nil _ _ _ _) D l.length cd (SVL l) rfl (SVL_len l) HN.out hnews.out (SVL_one l) ?d3 ?d4 ?d5 ?_)
  case d3 => have := HK.out; simp only [maxLen]; omega
  case d4 => have := HK.out; omega
  case d5 => omega
  intro A' c' w1 ho hg _
  have HO := Lib.hid ho
  have HG := Lib.hid hg
  clear ho hg
  go_wp2
  go_ret
  exact ⟨A', c', rfl, HG.out, by simpa using HO.out⟩
/-! ### NewGroup -/
def rowP (pp : Nat → Nat) (k : Nat) : List Value := (List.range k).map fun i => Pb (pp i)
def rowS (pp : Nat → Nat) (k : Nat) : List Value := (List.range k).map fun i => .iface 34 (Pb (pp i))
theorem rowP_succ (pp : Nat → Nat) (k : Nat) : rowP pp (k + 1) = rowP pp k ++ [Pb (pp k)] := by simp [rowP, List.range_succ]
theorem rowS_succ (pp : Nat → Nat) (k : Nat) : rowS pp (k + 1) = rowS pp k ++ [.iface 34 (Pb (pp k))] := by simp [rowS, List.range_succ]
theorem row_congr {pp pp' : Nat → Nat} {k : Nat} (h : ∀ i, i < k → pp' i = pp i) : rowP pp' k = rowP pp k ∧ rowS pp' k = rowS pp k := by
  constructor <;> (refine List.map_congr_left fun i hi => ?_; rw [h i (List.mem_range.1 hi)])
theorem rowP_get (pp : Nat → Nat) {k i : Nat} (h : i < k) : (rowP pp k)[i]? = some (Pb (pp i)) := by simp [rowP, h]
theorem rowS_get (pp : Nat → Nat) {k i : Nat} (h : i < k) : (rowS pp k)[i]? = some (.iface 34 (Pb (pp i))) := by simp [rowS, h]
/-- a group under way: km Pairs made, kp of them in the list of Pairs, ks in that of sources -/
structure Ng (W w : World) (b a km kp ks : Nat) (pp : Nat → Nat) (P : Option Addr) (cp : Nat) (S : Option Addr) (cs : Nat) : Prop where
  og : Ob w b [Pb (b + 1), .slice P kp cp, .slice S ks cs, .slice none 0 0]
  oc : Ob w (b + 1) [.int .u64 (a : Nat)]
  op : ∀ i, i < km → Ob w (pp i) [Pb (b + 1), .int .u64 (0 : Nat), .int .u64 (0 : Nat)]
  rp : w.ownsRow (b + 2) 34 1 (.slice P kp cp) kp (rowP pp kp)
  rs : w.ownsRow (b + 2) 115 1 (.slice S ks cs) ks (rowS pp ks)
  dis : ∀ j, (Value.slice P kp cp).ownBlock = some j → (Value.slice S ks cs).ownBlock ≠ some j
  dp : ∀ i, i < km → b + 2 ≤ pp i ∧ (Value.slice P kp cp).ownBlock ≠ some (pp i) ∧ (Value.slice S ks cs).ownBlock ≠ some (pp i)
  inj : ∀ i j, i < km → j < km → pp i = pp j → i = j
  kp : kp ≤ km
  ks : ks ≤ km
  bel : Below b W w
  sz : b + 2 ≤ w.heap.size
theorem Ng.box {W w : World} {b a km kp ks : Nat} {pp : Nat → Nat} {P : Option Addr} {cp : Nat} {S : Option Addr} {cs : Nat} (h : Ng W w b a km kp ks pp P cp S cs) :
    Ng W (w.alloc (.cells #[Pb (b + 1), .int .u64 0, .int .u64 0] 55)) b a (km + 1) kp ks (fun i => if i = km then w.heap.size else pp i) P cp S cs := by
  have g := World.grownBy_alloc w (.cells #[Pb (b + 1), .int .u64 0, .int .u64 0] 55) none
  have hlt : ∀ i, i < km → pp i < w.heap.size := fun i hi => (h.op i hi).lt (by simp)
  have e1 : ∀ i, i < kp → (fun i => if i = km then w.heap.size else pp i) i = pp i := fun i hi => by have := h.kp; simp only; rw [if_neg (by omega)]
  have e2 : ∀ i, i < ks → (fun i => if i = km then w.heap.size else pp i) i = pp i := fun i hi => by have := h.ks; simp only; rw [if_neg (by omega)]
  refine ⟨h.og.alloc _, h.oc.alloc _, fun i hi => ?_, ?_, ?_, h.dis, fun i hi => ?_, fun i j hi hj e => ?_, by have := h.kp; omega, by have := h.ks; omega, h.bel.alloc (by have := h.sz; omega) _, by rw [World.size_alloc]; have := h.sz; omega⟩
  · by_cases hk : i = km
    · subst hk; simp only [if_true]; exact Ob.fresh w #[Pb (b + 1), .int .u64 0, .int .u64 0] _
    · simp only [hk, if_false]; exact (h.op i (by omega)).alloc _
  · rw [(row_congr e1).1]; exact h.rp.kept g (by cases (Value.slice P kp cp).ownBlock <;> simp)
  · rw [(row_congr e2).2]; exact h.rs.kept g (by cases (Value.slice S ks cs).ownBlock <;> simp)
  · by_cases hk : i = km
    · subst hk; simp only [if_true]
      exact ⟨h.sz, fun e => by have := (h.rp.lt _ e).2; omega, fun e => by have := (h.rs.lt _ e).2; omega⟩
    · simp only [hk, if_false]; exact h.dp i (by omega)
  · by_cases hik : i = km
    · by_cases hjk : j = km
      · rw [hik, hjk]
      · simp only [hik, hjk, if_true, if_false] at e
        have := hlt j (by omega); omega
    · by_cases hjk : j = km
      · simp only [hik, hjk, if_true, if_false] at e
        have := hlt i (by omega); omega
      · simp only [hik, hjk, if_false] at e
        exact h.inj i j (by omega) (by omega) e
theorem Ng.pushP {W w v9 V : World} {b a km kp ks : Nat} {pp : Nat → Nat} {P : Option Addr} {cp : Nat} {S : Option Addr} {cs : Nat} (h : Ng W w b a km kp ks pp P cp S cs) (hk : kp < km) (hV : w.grownBy V none) (hVs : w.heap.size ≤ V.heap.size) {P' : Option Addr} {cp' : Nat}
    (ho : v9.ownsRow (b + 2) 34 1 (.slice P' (kp + 1) cp') (kp + 1) (rowP pp kp ++ [Pb (pp kp)])) (hg : V.grownBy v9 (Value.slice P kp cp).ownBlock)
    (hb : (Value.slice P' (kp + 1) cp').ownBlock = (Value.slice P kp cp).ownBlock ∨ (Value.slice P' (kp + 1) cp').ownBlock = some V.heap.size) :
    v9.cell? ⟨b, 1, none⟩ = some (.slice P kp cp) ∧ v9.frozen? ⟨b, 1, none⟩ = false ∧ Ng W (v9.setCell ⟨b, 1, none⟩ (.slice P' (kp + 1) cp')) b a km (kp + 1) ks pp P' cp' S cs := by
  have g9 : w.grownBy v9 (Value.slice P kp cp).ownBlock := (hV.but _).trans hg
  have hlo : ∀ j, j < b + 2 → some j ≠ (Value.slice P kp cp).ownBlock := fun j hj e => by have := (h.rp.lt j e.symm).1; omega
  have og := h.og.kept g9 (hlo _ (by omega))
  have hg2 := grown_setCell v9 ⟨b, 1, none⟩ (.slice P' (kp + 1) cp')
  have hnew : ∀ j, (Value.slice P' (kp + 1) cp').ownBlock = some j → (Value.slice P kp cp).ownBlock = some j ∨ w.heap.size ≤ j := fun j e => by
    rcases hb with hb | hb
    · left; rw [← hb]; exact e
    · right; rw [hb] at e; cases e; exact hVs
  refine ⟨og.cell 1 rfl, og.fr 1 (by simp), og.set 1 (by simp) _, (h.oc.kept g9 (hlo _ (by omega))).kept hg2 (by simp), fun i hi => ((h.op i hi).kept g9 (Ne.symm (h.dp i hi).2.1)).kept hg2 (by have := (h.dp i hi).1; simp; omega), ?_, ?_, fun j e => ?_, fun i hi => ⟨(h.dp i hi).1, fun e => ?_, (h.dp i hi).2.2⟩, h.inj, hk, h.ks, ?_, ?_⟩
  · rw [rowP_succ]; exact ho.kept hg2 (.inr (fun e => by have h1 : b + 2 ≤ b := (ho.lt _ e).1; omega))
  · refine (h.rs.kept g9 ?_).kept hg2 (.inr (fun e => by have h1 : b + 2 ≤ b := (h.rs.lt _ e).1; omega))
    cases hs : (Value.slice S ks cs).ownBlock with
    | none => exact .inl rfl
    | some j => exact .inr (fun e => h.dis j e.symm hs)
  · rcases hnew j e with h1 | h1
    · exact h.dis j h1
    · intro e2; have := (h.rs.lt j e2).2; omega
  · rcases hnew _ e with h1 | h1
    · exact (h.dp i hi).2.1 h1
    · have := (h.op i hi).lt (by simp); omega
  · refine (h.bel.trans ⟨g9.os, g9.tape, g9.output, g9.size, fun j hj => g9.block j (by have := h.sz; omega) (hlo j (by omega))⟩).setCell (Nat.le_refl _) _
  · rw [World.size_setCell]; exact Nat.le_trans h.sz g9.size
theorem Ng.pushS {W w v9 V : World} {b a km kp ks : Nat} {pp : Nat → Nat} {P : Option Addr} {cp : Nat} {S : Option Addr} {cs : Nat} (h : Ng W w b a km kp ks pp P cp S cs) (hk : ks < km) (hV : w.grownBy V none) (hVs : w.heap.size ≤ V.heap.size) {S' : Option Addr} {cs' : Nat}
    (ho : v9.ownsRow (b + 2) 115 1 (.slice S' (ks + 1) cs') (ks + 1) (rowS pp ks ++ [.iface 34 (Pb (pp ks))])) (hg : V.grownBy v9 (Value.slice S ks cs).ownBlock)
    (hb : (Value.slice S' (ks + 1) cs').ownBlock = (Value.slice S ks cs).ownBlock ∨ (Value.slice S' (ks + 1) cs').ownBlock = some V.heap.size) :
    v9.cell? ⟨b, 2, none⟩ = some (.slice S ks cs) ∧ v9.frozen? ⟨b, 2, none⟩ = false ∧ Ng W (v9.setCell ⟨b, 2, none⟩ (.slice S' (ks + 1) cs')) b a km kp (ks + 1) pp P cp S' cs' := by
  have g9 : w.grownBy v9 (Value.slice S ks cs).ownBlock := (hV.but _).trans hg
  have hlo : ∀ j, j < b + 2 → some j ≠ (Value.slice S ks cs).ownBlock := fun j hj e => by have := (h.rs.lt j e.symm).1; omega
  have og := h.og.kept g9 (hlo _ (by omega))
  have hg2 := grown_setCell v9 ⟨b, 2, none⟩ (.slice S' (ks + 1) cs')
  have hnew : ∀ j, (Value.slice S' (ks + 1) cs').ownBlock = some j → (Value.slice S ks cs).ownBlock = some j ∨ w.heap.size ≤ j := fun j e => by
    rcases hb with hb | hb
    · left; rw [← hb]; exact e
    · right; rw [hb] at e; cases e; exact hVs
  refine ⟨og.cell 2 rfl, og.fr 2 (by simp), og.set 2 (by simp) _, (h.oc.kept g9 (hlo _ (by omega))).kept hg2 (by simp), fun i hi => ((h.op i hi).kept g9 (Ne.symm (h.dp i hi).2.2)).kept hg2 (by have := (h.dp i hi).1; simp; omega), ?_, ?_, fun j e => ?_, fun i hi => ⟨(h.dp i hi).1, (h.dp i hi).2.1, fun e => ?_⟩, h.inj, h.kp, hk, ?_, ?_⟩
  · refine (h.rp.kept g9 ?_).kept hg2 (.inr (fun e => by have h1 : b + 2 ≤ b := (h.rp.lt _ e).1; omega))
    cases hs : (Value.slice P kp cp).ownBlock with
    | none => exact .inl rfl
    | some j => exact .inr (fun e => h.dis j hs e.symm)
  · rw [rowS_succ]; exact ho.kept hg2 (.inr (fun e => by have h1 : b + 2 ≤ b := (ho.lt _ e).1; omega))
  · intro e2
    rcases hnew j e2 with h1 | h1
    · exact h.dis j e h1
    · have := (h.rp.lt j e).2; omega
  · rcases hnew _ e with h1 | h1
    · exact (h.dp i hi).2.2 h1
    · have := (h.op i hi).lt (by simp); omega
  · refine (h.bel.trans ⟨g9.os, g9.tape, g9.output, g9.size, fun j hj => g9.block j (by have := h.sz; omega) (hlo j (by omega))⟩).setCell (Nat.le_refl _) _
  · rw [World.size_setCell]; exact Nat.le_trans h.sz g9.size
/-- what NewGroup hands back -/
theorem Ng.done {W w : World} {b a n : Nat} {pp : Nat → Nat} {P : Option Addr} {cp : Nat} {S : Option Addr} {cs : Nat} (h : Ng W w b a n n n pp P cp S cs) (hn : 0 < n) (hb : W.heap.size = b) : ∃ B sb pb, GrB W B b sb pb (b + 1) n pp ∧ Gr W B b sb pb (b + 1) n pp cp cs w none 0 [] a (fun _ => (0, 0)) := by
  obtain ⟨pb, cp', hv, hp1, hp2⟩ := h.rp.form hn
  cases hv
  obtain ⟨sb, cs', hv, hs1, hs2⟩ := h.rs.form hn
  cases hv
  have hd := h.dis pb rfl
  have hd' : sb ≠ pb := fun e => hd (by rw [e]; rfl)
  have hq : ∀ i, i < n → b + 2 ≤ pp i ∧ pp i < w.heap.size ∧ pp i ≠ pb ∧ pp i ≠ sb := fun i hi => ⟨(h.dp i hi).1, (h.op i hi).lt (by simp), fun e => (h.dp i hi).2.1 (by rw [e]; rfl), fun e => (h.dp i hi).2.2 (by rw [e]; rfl)⟩
  have hsz := h.sz
  refine ⟨w.heap.size, sb, pb, ⟨by omega, by omega, by omega, hs2, by omega, hp2, by omega, by omega, by refine ⟨?_, ?_, ?_, ?_, ?_, ?_⟩ <;> omega, fun i hi => by obtain ⟨q1, q2, q3, q4⟩ := hq i hi; refine ⟨by omega, q2, by omega, q4, q3, by omega⟩, h.inj⟩,
    ⟨h.og, h.oc, h.op, fun i hi => ?_, fun i hi => ?_, World.ownsRow_nil _ _ _ _, by rw [hb]; exact h.bel, Nat.le_refl _⟩⟩
  · have := h.rp.cells (g := pb) rfl i _ (rowP_get pp hi)
    rwa [add_at] at this
  · have := h.rs.cells (g := sb) rfl i _ (rowS_get pp hi)
    rwa [add_at] at this
set_option maxRecDepth 100000 in
set_option maxHeartbeats 1600000 in
theorem newGroup_any (a b n : Nat) (w : World) (hb : w.heap.size = b) (h1 : 1 ≤ n) (h7 : n ≤ 7) :
    Calls Try.prog 38 #[.int .i64 1, .int .i64 (n : Nat), .int .u64 (a : Nat)] w fun e w' => e = .returned (.tuple #[Pb b, .int .i64 0]) ∧ ∃ B sb pb pp cp cs, GrB w B b sb pb (b + 1) n pp ∧ Gr w B b sb pb (b + 1) n pp cp cs w' none 0 [] a (fun _ => (0, 0)) := by
  have HB := Lib.hid hb
  have n1 : ¬ (n : Int) < 1 := by omega
  have n7 : ¬ (7 : Int) < (n : Int) := by omega
  go_enter Try.func38, Try.ntmps38
  go_wp2_with fail
  have O0 := Lib.hid (Ob.fresh w #[.pointer none, .slice none 0 0, .slice none 0 0, .slice none 0 0] 119)
  refine (newClock_at (a : Nat) _ (b + 1) (by rw [World.size_alloc, hb])).mono ?_
  rintro e w1 ⟨rfl, g, z, o⟩
  have O1 : Hid (Ob w1 b [.pointer none, .slice none 0 0, .slice none 0 0, .slice none 0 0]) := by have := O0.out.kept g (by simp); rwa [hb] at this
  have C1 := Lib.hid o
  have Z1 := Lib.hid z
  have B1 : Hid (Below b w w1) := by rw [← hb]; exact ((Below.refl _ _).alloc (Nat.le_refl _) _).trans (grown_below_drop g (by simp))
  clear g z o O0
  have y0 := O1.out.cell 0 rfl
  have f0 := O1.out.fr 0 (by simp)
  clear hb
  go_upto_region 6 with fail
  have N2 : Hid (Ng w (w1.setCell ⟨b, 0, none⟩ (.pointer (some ⟨b + 1, 0, none⟩))) b a 0 0 0 (fun _ => 0) none 0 none 0) := by
    refine ⟨O1.out.set 0 (by simp) (.pointer (some ⟨b + 1, 0, none⟩)), C1.out.setOther _ (by simp), fun i hi => by omega, World.ownsRow_nil _ _ _ _, World.ownsRow_nil _ _ _ _, (fun j e => nomatch e), fun i hi => by omega, fun i j hi => by omega, Nat.le_refl _, Nat.le_refl _, B1.out.setCell (Nat.le_refl _) _, ?_⟩
    rw [World.size_setCell]; have := Z1.out; omega
  generalize w1.setCell ⟨b, 0, none⟩ (.pointer (some ⟨b + 1, 0, none⟩)) = w2 at N2 ⊢
  clear O1 C1 Z1 B1 y0 f0
  go_wp2_with fail
  go_loopw [35] (fun i wr => ∃ (k : Nat) (pp : Nat → Nat) (P : Option Addr) (cp : Nat) (S : Option Addr) (cs : Nat), k ≤ n ∧ i = .int .i64 k ∧ Hid (Ng w wr b a k k k pp P cp S cs)) (fun i _ => n - (intOf i).toNat)
  case atStart => exact ⟨0, _, _, _, _, _, by omega, rfl, N2⟩
  case round =>
    obtain ⟨k, pp, P, cp, S, cs, hk, rfl, HN⟩ := hrel
    clear N2
    by_cases hkn : k < n
    · have hki : (k : Int) < (n : Int) := by omega
      have e1 : IntKind.i64.wrap ((k : Int) + 1) = (k : Int) + 1 := by rw [IntKind.wrap_i64]; omega
      have E1 := Lib.hid e1
      have HK7 : Hid (k < 7) := by simp only [Hid]; omega
      have y0 := HN.out.og.cell 0 rfl
      have lb := HN.out.og.lt (by simp)
      clear e1
      go_upto_region 12 with fail
      have N3 := Lib.hid HN.out.box
      have hpk : Hid ((fun i => if i = k then wr.heap.size else pp i) k = wr.heap.size) := by simp only [Hid, if_true]
      generalize (fun i => if i = k then wr.heap.size else pp i) = pp3 at N3 hpk ⊢
      obtain ⟨r, hr⟩ : ∃ r, wr.heap.size = r := ⟨_, rfl⟩
      rw [hr] at hpk ⊢
      generalize wr.alloc (.cells #[Pb (b + 1), .int .u64 0, .int .u64 0] 55) = w3 at N3 ⊢
      clear y0 lb HN hr
      have y1 := N3.out.og.cell 1 rfl
      have lb := N3.out.og.lt (by simp)
      have HP : Hid ([Value.pointer (some ⟨r, 0, none⟩)] = [Pb (pp3 k)]) := by rw [hpk.out]; exact rfl
      go_wp2_with (at_builtin; refine wpList_app rfl (.tmp 65) (.tmp 67) rfl eltPairs (b + 2) (.slice P k cp) k (rowP pp3 k) rfl (N3.out.rp.kept (World.grownBy_alloc _ _ none) (by cases (Value.slice P k cp).ownBlock <;> simp)) (some ⟨w3.heap.size, 0, none⟩) 1 1 [.pointer (some ⟨r, 0, none⟩)] rfl rfl (fun h => by cases h) ?d2 (by intro u hu; simp at hu; subst hu; rfl) ?d3 ?d4 ?d5 ?_)
      case d2 => exact one_new w3 (.pointer (some ⟨r, 0, none⟩)) 34
      case d3 => have := HK7.out; simp only [maxLen]; omega
      case d4 => have := HK7.out; omega
      case d5 => have := N3.out.sz; rw [World.size_alloc]; omega
      intro P4 cp4 w4 ho4 hg4 hb4
      obtain ⟨q1, q2, q3⟩ := N3.out.pushP (by omega) (World.grownBy_alloc _ _ none) (by rw [World.size_alloc]; omega) (HP.out ▸ ho4) hg4 (by rw [World.size_alloc]; exact hb4)
      have N4 := Lib.hid q3
      have lb4 : b < w4.heap.size := World.block_lt_of_cell? _ _ q1
      clear ho4 hg4 hb4 q3 N3 y1 lb
      go_upto_region 13 with fail
      generalize w4.setCell ⟨b, 1, none⟩ (.slice P4 (k + 1) cp4) = w5 at N4 ⊢
      clear q1 q2 lb4
      have y2 := N4.out.og.cell 2 rfl
      have lb := N4.out.og.lt (by simp)
      have HS : Hid ([Value.iface 34 (.pointer (some ⟨r, 0, none⟩))] = [.iface 34 (Pb (pp3 k))]) := by rw [hpk.out]; exact rfl
      go_wp2_with (at_builtin; refine wpList_app rfl (.tmp 75) (.tmp 78) rfl eltSource (b + 2) (.slice S k cs) k (rowS pp3 k) rfl (N4.out.rs.kept (World.grownBy_alloc _ _ none) (by cases (Value.slice S k cs).ownBlock <;> simp)) (some ⟨w5.heap.size, 0, none⟩) 1 1 [.iface 34 (.pointer (some ⟨r, 0, none⟩))] rfl rfl (fun h => by cases h) ?d2 (by intro u hu; simp at hu; subst hu; rfl) ?d3 ?d4 ?d5 ?_)
      case d2 => exact one_new w5 (.iface 34 (.pointer (some ⟨r, 0, none⟩))) 115
      case d3 => have := HK7.out; simp only [maxLen]; omega
      case d4 => have := HK7.out; omega
      case d5 => have := N4.out.sz; rw [World.size_alloc]; omega
      intro S6 cs6 w6 ho6 hg6 hb6
      obtain ⟨q1, q2, q3⟩ := N4.out.pushS (by omega) (World.grownBy_alloc _ _ none) (by rw [World.size_alloc]; omega) (HS.out ▸ ho6) hg6 (by rw [World.size_alloc]; exact hb6)
      have N6 := Lib.hid q3
      have lb6 : b < w6.heap.size := World.block_lt_of_cell? _ _ q1
      clear ho6 hg6 hb6 q3 N4 y2 lb
      have e1 := E1.out
      go_wp2_with fail
      go_roundw
      case rel => exact ⟨k + 1, _, _, _, _, _, by omega, by go_num, N6⟩
      case measure => simp [intOf]; omega
    · obtain rfl : k = n := by omega
      have hki : ¬ (k : Int) < (k : Int) := by omega
      have HF := Lib.hid (HN.out.done (by omega) HB.out)
      clear HN
      go_wp2
      go_ret2
      obtain ⟨B, sb, pb, h2, h3⟩ := HF.out
      exact ⟨rfl, B, sb, pb, _, h2, _, _, h3⟩
end Go.Proofs.Ytgbjfmokfkdglaa
