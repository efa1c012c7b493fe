/-
  copy of elements of any size over a row of the call's own; the walk of oplog.joined (a list and nothing).
-/
import Derived.Test.YtjjobgolpedgeaaTLog
import Derived.Laws.CopyRow
import Derived.Laws.IdiomCopy
import Derived.OwnWalk
set_option linter.unusedVariables false
set_option linter.unusedSimpArgs false
namespace Go.Proofs.Ytjjobgolpedgeaa
open Go.RowKit

theorem run_copy_sz {P : Program} (w : World) (dT sT ty elem : TypeId) (g dLen dCap : Nat) (sp : Option Addr) (sLen sCap : Nat) (cur : Array Value) (t : TypeId) (cs : List Value) (size n : Nat)
    (hu : P.underlying dT = some (.slice elem)) (hs : (P.info? elem).map (·.size) = some size) (hg : w.heap[g]? = some (.cells cur t (0, 0))) (hn : n = Nat.min sLen dLen) (hcs : cs.length = n * size) (hnil : sp = none → n = 0)
    (hsrc : ∀ a, sp = some a → ∀ j v, cs[j]? = some v → w.cell? (a.add j) = some v) (hfit : cs.length ≤ cur.size) (h1 : ∀ v ∈ cs, v.oneCell' = true) :
    (Builtin.copy_ #[dT, sT] ty #[.slice (some ⟨g, 0, none⟩) dLen dCap, .slice sp sLen sCap]).run P w = .ok (goInt n) (w.setRow g (cs ++ cur.toList.drop cs.length).toArray) := by
  have hst := run_storeCells_at P g 0 t cs 0 cur w hg (by simpa using hfit) h1
  simp only [Nat.add_zero, List.take_zero, List.nil_append, Nat.zero_add] at hst
  cases hq : P.info? elem with
  | none => simp [hq] at hs
  | some i =>
    have hi : i.size = size := by simpa [hq] using hs
    cases sp with
    | none =>
      have h0 := hnil rfl
      subst h0
      have : cs = [] := List.eq_nil_of_length_eq_zero (by simpa using hcs)
      subst this
      simp only [List.length_nil, List.nil_append, List.drop_zero] at hst ⊢
      simp [Builtin.copy_, run_underlying hu, Builtin.lenOf, Builtin.firstCells, sizeOf, typeInfo, hq, hi, ← hn, storeCells]
      rw [setRow_self w g cur t (0, 0) hg]
    | some a =>
      have hl := run_loadCells_list (P := P) w a cs (hsrc a rfl)
      simp [Builtin.copy_, run_underlying hu, Builtin.lenOf, Builtin.firstCells, sizeOf, typeInfo, hq, hi, ← hn, ← hcs, hl, hst]
theorem run_copy_none' {P : Program} (w : World) (dT sT ty elem : TypeId) (dp : Option Addr) (dLen dCap : Nat) (hu : P.underlying dT = some (.slice elem)) (hs : (P.info? elem).isSome = true) :
    (Builtin.copy_ #[dT, sT] ty #[.slice dp dLen dCap, .slice none 0 0]).run P w = .ok (goInt 0) w := by
  cases hq : P.info? elem with
  | none => simp [hq] at hs
  | some i => cases dp <;> simp [Builtin.copy_, run_underlying hu, Builtin.lenOf, Builtin.firstCells, sizeOf, typeInfo, hq, storeCells]
theorem wpList_copy_sz {P : Program} {w : World} {ops : Array Oper} {rest : List Oper} {o : Oper} {a : Act} {Q : Exit → Act → World → Prop} (hgd : o.guard = none) (d s : Operand) (dT sT : TypeId)
    (ho : o.op = .call { callee := .builtin .copy, args := #[d, s], argTypes := #[dT, sT] }) (elem : TypeId) (size : Nat) (hu : P.underlying dT = some (.slice elem)) (hs : (P.info? elem).map (·.size) = some size)
    (g dLen dCap : Nat) (sp : Option Addr) (sLen sCap : Nat) (hd : a.eval d = .slice (some ⟨g, 0, none⟩) dLen dCap) (hsv : a.eval s = .slice sp sLen sCap)
    (cur : Array Value) (t : TypeId) (hg : w.heap[g]? = some (.cells cur t (0, 0))) (cs : List Value) (n : Nat) (hn : n = Nat.min sLen dLen) (hcs : cs.length = n * size) (hnil : sp = none → n = 0)
    (hsrc : ∀ ad, sp = some ad → ∀ j v, cs[j]? = some v → w.cell? (ad.add j) = some v) (hfit : cs.length ≤ cur.size) (h1 : ∀ v ∈ cs, v.oneCell' = true)
    (h : ∀ w', Hid (w'.heap[g]? = some (.cells (cs ++ cur.toList.drop cs.length).toArray t (0, 0))) → Hid (w.grownBy w' (some g)) → wpList P ops Q rest (a.put o.dst (goInt n)) w') : wpList P ops Q (o :: rest) a w := by
  refine wpList_plain hgd fun K hK => ?_
  have hrun := run_copy_sz (P := P) w dT sT o.type elem g dLen dCap sp sLen sCap cur t cs size n hu hs hg hn hcs hnil hsrc hfit h1
  unfold Oper.wp
  simp [execOp, ho, resolve, invoke, builtin, hd, hsv, hrun, Result.andThen]
  refine hK _ _ (h _ ?_ ?_)
  · exact setRow_heap w g _ _ t _ hg
  · exact ⟨rfl, rfl, rfl, by simp [World.setRow], fun k hk hne => setRow_other w g k _ (fun e => hne (by rw [e]))⟩
theorem rdc_row {α : Type} {size : Nat} {cells : α → List Value} (hcl : ∀ x, (cells x).length = size) {w : World} {g n : Nat} {t : TypeId} {L : List α} {Y : List Value} (hg : w.heap[g]? = some (.cells (CL cells L ++ Y).toArray t (0, 0))) (hl : L.length = n) (hle : n ≤ 9223372036854775807) : RdC size cells w (some ⟨g, 0, none⟩) n L :=
  ⟨hl, hle, fun j x hj => ⟨_, rfl, fun i u hu => by
    have h := CL_get hcl L j x hj i u hu
    have h2 : (CL cells L ++ Y)[j * size + i]? = some u := by rw [List.getElem?_append_left (List.getElem?_eq_some_iff.1 h).1]; exact h
    rw [show (⟨g, 0, none⟩ : Addr).add (j * size + i) = ⟨g, j * size + i, none⟩ by unfold Addr.add; split <;> simp_all]
    simp [World.cell?, hg, h2]⟩⟩
set_option maxHeartbeats 8000000 in
set_option maxRecDepth 100000 in
theorem joined_nil (A : Option Addr) (n c : Nat) (L : List Et) (w : World) (h : RdC 5 Et.cells w A n L) (hA : A = none → n = 0 ∧ c = 0) (hsm : n * 48 ≤ 140737488355328) :
    Calls Try.prog 152 #[.slice A n c, .slice none 0 0] w fun e w' => e = .returned (.slice (some ⟨w.heap.size, 0, none⟩) n n) ∧ w.heap.size < w'.heap.size ∧ Below w.heap.size w w' ∧ RdC 5 Et.cells w' (some ⟨w.heap.size, 0, none⟩) n L := by
  have H := Lib.hid h
  have HL := Lib.hid h.len
  have HA := Lib.hid hA
  have HSM := Lib.hid hsm
  have hn : (n : Int) ≤ 6000000000000 := by omega
  have hcn : ∀ (dp : Option Addr) (a b : Nat) (ty : TypeId) (w : World), (Builtin.copy_ #[36, 36] ty #[.slice dp a b, .slice none 0 0]).run Try.prog w = .ok (goInt 0) w := fun dp a b ty w => run_copy_none' w _ _ _ 156 dp a b Try.underlying36 (by kernel_rfl)
  obtain ⟨i0, hi, hz0, hz1, hz2⟩ := info_parts (P := Try.prog) (e := 156) (z := .agg #[.int .i64 0, .int .i64 0, .int .i64 0, .int .i64 0, .string ByteArray.empty]) (size := 5) (bytes := 48) (by kernel_rfl)
  have HI := Lib.hid hi
  have HZ0 := Lib.hid hz0
  have HZ1 := Lib.hid hz1
  have HZ2 := Lib.hid hz2
  clear h hA hsm hi hz0 hz1 hz2
  go_enter Try.func152, Try.ntmps152
  have e0 : (n : Int) + 0 = (n : Int) := by omega
  go_wp2_with (at_make; refine wpList_make_full _ rfl _ _ 36 rfl w.heap.size 156 i0 _ 5 Try.underlying36 HI.out HZ0.out HZ1.out _ _ _ _ n rfl rfl (by simp) (by simp) ?m1 ?m2 (Nat.le_refl _) ?_)
  case m1 => rw [HZ2.out]; have := HSM.out; omega
  case m2 => simp only [maxLen]; omega
  intro w1 hown1 hgrow1
  have B1 : Hid (Below w.heap.size w w1) := (Below.refl _ _).grown hgrow1 (Nat.le_refl _) (fun _ e => by cases e)
  obtain ⟨cur, hcur, hcs⟩ : ∃ cur, w1.heap[w.heap.size]? = some (.cells cur 156 (0, 0)) ∧ cur.size = n * 5 := by
    rcases hown1.2 with ⟨hv, _⟩ | ⟨g, cap, cur, hv, _, hh, _, _, h4, _⟩
    · cases hv
    · cases hv; exact ⟨cur, hh, h4⟩
  have HC := Lib.hid hcur
  have HCS := Lib.hid hcs
  have R1 := Lib.hid (H.out.below B1.out)
  clear hown1 hgrow1 hcur hcs
  generalize hg : w.heap.size = g at *
  have hcp : ∀ ty, (Builtin.copy_ #[36, 36] ty #[.slice (some ⟨g, 0, none⟩) n n, .slice A n c]).run Try.prog w1 = .ok (goInt n) (w1.setRow g (CL Et.cells L ++ cur.toList.drop (CL Et.cells L).length).toArray) := fun ty =>
    run_copy_sz w1 _ _ ty 156 g n n A n c cur 156 (CL Et.cells L) 5 n Try.underlying36 (by kernel_rfl) HC.out (Nat.min_self n).symm (by rw [CL_len (size := 5) (fun _ => rfl), HL.out]) (fun e => (HA.out e).1) (rdc_news (size := 5) (cells := Et.cells) (by decide) (fun _ => rfl) R1.out) (by rw [CL_len (size := 5) (fun _ => rfl), HL.out, HCS.out]; exact Nat.le_refl _) (CL_one (cells := Et.cells) Et.one L)
  have G2 : Hid (g < (w1.setRow g (CL Et.cells L ++ cur.toList.drop (CL Et.cells L).length).toArray).heap.size ∧ Below g w (w1.setRow g (CL Et.cells L ++ cur.toList.drop (CL Et.cells L).length).toArray) ∧ RdC 5 Et.cells (w1.setRow g (CL Et.cells L ++ cur.toList.drop (CL Et.cells L).length).toArray) (some ⟨g, 0, none⟩) n L) := by
    refine ⟨?_, ?_, ?_⟩
    · have := (Array.getElem?_eq_some_iff.1 HC.out).1
      simp [World.setRow]
      exact this
    · exact B1.out.trans ⟨rfl, rfl, rfl, by simp [World.setRow], fun k hk => setRow_other w1 g k _ (by omega)⟩
    · exact rdc_row (cells := Et.cells) (Y := cur.toList.drop (CL Et.cells L).length) (fun _ => rfl) (setRow_heap w1 g _ _ _ _ HC.out) HL.out (by omega)
  generalize w1.setRow g (CL Et.cells L ++ cur.toList.drop (CL Et.cells L).length).toArray = w2 at hcp G2
  go_wp2_with fail
  go_ret
  subst hg
  exact ⟨rfl, G2.out⟩
end Go.Proofs.Ytjjobgolpedgeaa
