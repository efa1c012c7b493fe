/-
  Where a vote goes, as a function; what Put answers, as a function; lists that rise.
-/
import Derived.Test.YtjjobgolpedgeaaTPutX
set_option linter.unusedVariables false
set_option linter.unusedSimpArgs false
namespace Go.Proofs.Ytjjobgolpedgeaa
open Go.RowKit

section
variable {α : Type}
def plcOf (node : α → Int) (L : List α) (v : α) : Nat × Bool :=
  match L.findIdx? (fun x => node x == node v) with
  | some i => (i, true)
  | none => (match L.findIdx? (fun x => decide (node v < node x)) with | some j => j | none => L.length, false)
theorem Plc.eq {node : α → Int} {L : List α} {v : α} {k : Nat} {s : Bool} (h : Plc node L v k s) : plcOf node L v = (k, s) := by
  unfold plcOf
  rcases h with ⟨rfl, ⟨x, hx, he⟩, hn⟩ | ⟨rfl, hn, hk, hg, hl⟩
  · have h1 : L.findIdx? (fun x => node x == node v) = some k := by
      obtain ⟨hk, e⟩ := List.getElem?_eq_some_iff.1 hx
      rw [List.findIdx?_eq_some_iff_getElem]
      refine ⟨hk, by rw [e]; simpa using he, fun j hj => ?_⟩
      have := hn j _ hj (List.getElem?_eq_getElem (by omega))
      simpa using this
    rw [h1]
  · have h1 : L.findIdx? (fun x => node x == node v) = none := by
      rw [List.findIdx?_eq_none_iff]
      intro x hx
      obtain ⟨j, hj⟩ := List.getElem?_of_mem hx
      have := hn j x (List.getElem?_eq_some_iff.1 hj).1 hj
      simpa using this
    rw [h1]
    by_cases hkl : k < L.length
    · have h2 : L.findIdx? (fun x => decide (node v < node x)) = some k := by
        rw [List.findIdx?_eq_some_iff_getElem]
        refine ⟨hkl, by simpa using hg _ (List.getElem?_eq_getElem hkl), fun j hj => ?_⟩
        have := hl j _ hj (List.getElem?_eq_getElem (by omega))
        simpa using this
      rw [h2]
    · have hkl : k = L.length := by omega
      have h2 : L.findIdx? (fun x => decide (node v < node x)) = none := by
        rw [List.findIdx?_eq_none_iff]
        intro x hx
        obtain ⟨j, hj⟩ := List.getElem?_of_mem hx
        have := hl j x (by rw [hkl]; exact (List.getElem?_eq_some_iff.1 hj).1) hj
        simpa using this
      rw [h2, hkl]
def putF (node : α → Int) (wins : α → α → Bool) (L : List α) (v : α) : List α := putL wins L v (plcOf node L v).1 (plcOf node L v).2
theorem Plc.put {node : α → Int} {L : List α} {v : α} {k : Nat} {s : Bool} (h : Plc node L v k s) (wins : α → α → Bool) : putL wins L v k s = putF node wins L v := by
  unfold putF; rw [h.eq]
theorem putF_len (node : α → Int) (wins : α → α → Bool) (L : List α) (v : α) : (putF node wins L v).length ≤ L.length + 1 := putL_len _ _ _ _ _
end
theorem putMark_fn (A : Option Addr) (n c : Nat) (L : List Mk) (v : Mk) (w : World) (h : RdC 3 Mk.cells w A n L) (hsm : (n + 2) * 24 ≤ 140737488355328) :
    Calls Try.prog 26 #[.slice A n c, v.agg] w (RetL 49 3 Mk.cells w (putF Mk.n Mk.wins L v)) :=
  (putMark_any A n c L v w h hsm).mono fun e w' ⟨at_, same, hp, hr⟩ => by rw [hp.put] at hr; exact hr
theorem putAck_fn (A : Option Addr) (n c : Nat) (L : List Ak) (v : Ak) (w : World) (h : RdC 4 Ak.cells w A n L) (hsm : (n + 2) * 32 ≤ 140737488355328) :
    Calls Try.prog 21 #[.slice A n c, v.agg] w (RetL 29 4 Ak.cells w (putF Ak.n Ak.wins L v)) :=
  (putAck_any A n c L v w h hsm).mono fun e w' ⟨at_, same, hp, hr⟩ => by rw [hp.put] at hr; exact hr
theorem putBallot_fn (A : Option Addr) (n c : Nat) (L : List Bt) (v : Bt) (lg : Bt → List Et) (w : World) (h : RdC 6 Bt.cells w A n L) (hlg : ∀ r, r = v ∨ r ∈ L → LgOk lg w r) (hsm : (n + 2) * 64 ≤ 140737488355328) :
    Calls Try.prog 28 #[.slice A n c, v.agg] w (RetB 53 lg w (putF Bt.n Bt.wins L v)) :=
  (putBallot_any A n c L v lg w h hlg hsm).mono fun e w' ⟨at_, same, hp, hr⟩ => by rw [hp.put] at hr; exact hr
theorem putAnswer_fn (A : Option Addr) (n c : Nat) (L : List Bt) (v : Bt) (lg : Bt → List Et) (w : World) (h : RdC 6 Bt.cells w A n L) (hlg : ∀ r, r = v ∨ r ∈ L → LgOk lg w r) (hsm : (n + 2) * 64 ≤ 140737488355328) :
    Calls Try.prog 23 #[.slice A n c, v.agg] w (RetB 38 lg w (putF Bt.n Bt.wins L v)) :=
  (putAnswer_any A n c L v lg w h hlg hsm).mono fun e w' ⟨at_, same, hp, hr⟩ => by rw [hp.put] at hr; exact hr
theorem marked_any (f : Int) (A : Option Addr) (n c : Nat) (w : World) : Calls Try.prog 27 #[.int .i64 f, .slice A n c] w fun e w' => e = .returned (.bool (decide (f ≤ (n : Int)))) ∧ w = w' := by
  go_enter Try.func27, Try.ntmps27
  go_wp2
  go_ret
  exact ⟨rfl, rfl⟩
end Go.Proofs.Ytjjobgolpedgeaa
