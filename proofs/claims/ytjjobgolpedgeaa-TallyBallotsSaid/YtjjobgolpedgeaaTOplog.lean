/-
  The walk of oplog.Check.
-/
import Derived.Test.YtjjobgolpedgeaaTEach
import Derived.Maps.OwnIn
set_option linter.unusedVariables false
set_option linter.unusedSimpArgs false
namespace Go.Proofs.Ytjjobgolpedgeaa
open Go.RowKit Go.Shelf Go.Maps

attribute [local go_sem] Oper.semAt_some

/-- the clients' last numbers -/
def lastE (L : List Et) : Int → Option Int := L.foldl (fun f x i => if i = x.c then some x.n else f i) (fun _ => none)
theorem lastE_nil : lastE [] = fun _ => none := rfl
theorem lastE_snoc (L : List Et) (x : Et) : lastE (L ++ [x]) = fun i => if i = x.c then some x.n else lastE L i := by simp [lastE, List.foldl_append]
/-- why the j-th entry may not stand where it stands -/
def fitAt (L : List Et) (j : Nat) : Int := match L[j]? with | some x => fitF (lastE (L.take j)) x | none => 0
def scanL (L : List Et) : Int := match (List.range L.length).find? (fun j => fitAt L j != 0) with | some j => fitAt L j | none => 0
/-- what a check of a log answers -/
def chkL (L : List Et) (room : Int) : Int := if room < 1 ∨ 256 < room then 3 else if room < (L.length : Int) then 60 else scanL L
theorem scanL_good {L : List Et} (h : ∀ j, j < L.length → fitAt L j = 0) : scanL L = 0 := by
  unfold scanL
  rw [List.find?_eq_none.2 (fun j hj => by rw [h j (List.mem_range.1 hj)]; simp)]
theorem scanL_bad {L : List Et} {k : Nat} (hk : k < L.length) (hb : fitAt L k ≠ 0) (h : ∀ j, j < k → fitAt L j = 0) : scanL L = fitAt L k := by
  unfold scanL
  rw [List.find?_range_eq_some.2 ⟨by simpa using hb, List.mem_range.2 hk, fun j hj => by rw [h j hj]; rfl⟩]
theorem upE_map (L : List EtW) {k : Nat} (h : k ≤ L.length) : (upE L k).map (·.2.1) = (L.map (·.1)).take k := by
  apply List.ext_getElem
  · simp [upE, h]
  · intro i h1 h2
    have : i < L.length := by simp [upE] at h1; omega
    simp [upE, this]
theorem upE_get (L : List EtW) {k j : Nat} (h : j < k) : (upE L k)[j]? = some (j, L[j]?.getD default) := by simp [upE, h]
theorem upE_take (L : List EtW) {k j : Nat} (h : j ≤ k) : (upE L k).take j = upE L j := by
  simp only [upE, ← List.map_take, List.take_range, Nat.min_eq_left h]
/-- what has come fits -/
def goodE (pre : List (Nat × EtW)) : Prop := ∀ j y, pre[j]? = some y → fitF (lastE ((pre.take j).map (·.2.1))) y.2.1 = 0
theorem goodE_nil : goodE [] := fun j y h => by simp at h
theorem goodE_push {pre : List (Nat × EtW)} {x : Nat × EtW} (h : goodE pre) (hx : fitF (lastE (pre.map (·.2.1))) x.2.1 = 0) : goodE (pre ++ [x]) := by
  intro j y hj
  rcases Nat.lt_or_ge j pre.length with hlt | hge
  · rw [List.getElem?_append_left hlt] at hj
    rw [List.take_append_of_le_length (Nat.le_of_lt hlt)]
    exact h j y hj
  · rw [List.getElem?_append_right hge] at hj
    have hj0 : j - pre.length = 0 := by
      have := (List.getElem?_eq_some_iff.1 hj).1
      simp at this
      omega
    rw [hj0] at hj
    cases hj
    have e : j = pre.length := by omega
    rw [e, List.take_left' rfl]
    exact hx
theorem goodE_up {L : List EtW} {k : Nat} (hk : k ≤ L.length) (h : goodE (upE L k)) : ∀ j, j < k → fitAt (L.map (·.1)) j = 0 := by
  intro j hj
  have h1 := h j _ (upE_get L hj)
  rw [upE_take L (Nat.le_of_lt hj), upE_map L (by omega)] at h1
  have hx : L[j]? = some L[j] := List.getElem?_eq_getElem (by omega)
  unfold fitAt
  rw [List.getElem?_map, hx]
  rw [hx] at h1
  exact h1
theorem bad_up {L : List EtW} {k : Nat} (hk : k < L.length) {ini : List (Nat × EtW)} {last : Nat × EtW} (h : upE L (k + 1) = ini ++ [last]) : ini = upE L k ∧ last.1 = k ∧ fitAt (L.map (·.1)) k = fitF (lastE (ini.map (·.2.1))) last.2.1 := by
  rw [upE_succ] at h
  obtain ⟨rfl, e5⟩ := List.append_inj' h rfl
  obtain rfl : (k, L[k]?.getD default) = last := by simpa using e5
  refine ⟨rfl, rfl, ?_⟩
  have hx : L[k]? = some L[k] := List.getElem?_eq_getElem hk
  rw [upE_map L (by omega)]
  unfold fitAt
  rw [List.getElem?_map, hx]
  rfl
theorem Mi.put {w w' : World} {b n : Nat} {f : Int → Option Int} {D : DataW Unit} {i v : Int} (hD : w.ownsMap Try.prog 3 RI b n D) (hf : ∀ i : Int, (f i = none → Maps.has D (.int .i64 i) = false) ∧ (∀ c, f i = some c → Maps.has D (.int .i64 i) = true ∧ D.atKey (.int .i64 i) (.lit (.int .i64 0)) = .lit (.int .i64 c))) (hw : (Lit.int .i64 i).wf = true)
    (h : w'.ownsMap Try.prog 3 RI b (n + 1) (D.put (.int .i64 i) (.lit (.int .i64 v)))) : Mi w' b (n + 1) (fun j => if j = i then some v else f j) := by
  have hk := intKey.key (keyOf_int_mk Try.underlying3 hw)
  refine ⟨_, h, fun j => ?_⟩
  by_cases hj : j = i
  · subst hj
    refine ⟨fun e => ?_, fun c e => ?_⟩
    · simp only [if_true] at e; cases e
    · simp only [if_true] at e
      cases e
      exact ⟨has_put_same hD.isMap hk _, atKey_put_same hD.isMap hk _ _⟩
  · have hne : (Lit.int .i64 j) ≠ (.int .i64 i) := by intro e; cases e; exact hj rfl
    refine ⟨fun e => ?_, fun c e => ?_⟩
    · simp only at e; rw [if_neg hj] at e
      rw [has_put_other hne]
      exact (hf j).1 e
    · simp only at e; rw [if_neg hj] at e
      rw [has_put_other hne, atKey_put_other hne]
      exact (hf j).2 c e
set_option maxRecDepth 100000 in
theorem results_oplog (tmps : Array Value) (w : World) {b1 b2 : Nat} {x y : Int} (ha : tmps[4]?.getD undef = .pointer (some ⟨b1, 0, none⟩)) (hb : tmps[5]?.getD undef = .pointer (some ⟨b2, 0, none⟩)) (h1 : w.cell? ⟨b1, 0, none⟩ = some (.int .i64 x)) (h2 : w.cell? ⟨b2, 0, none⟩ = some (.int .i64 y)) :
    (results Try.f147 tmps).run Try.prog w = .ok (.tuple #[.int .i64 x, .int .i64 y]) w := by
  simp [results, Try.results147, go_sem, ha, hb, h1, h2]
/-- the world behind the two stores -/
theorem two_cells (w : World) (x y : Int) (t1 t2 : TypeId) : Boxed ((w.alloc (.cells #[.int .i64 x] t1)).alloc (.cells #[.int .i64 y] t2)) w.heap.size t1 (.int .i64 x) ∧ Boxed ((w.alloc (.cells #[.int .i64 x] t1)).alloc (.cells #[.int .i64 y] t2)) (w.heap.size + 1) t2 (.int .i64 y) := by
  have b := Boxed.new (w.alloc (.cells #[.int .i64 x] t1)) t2 (.int .i64 y)
  rw [World.size_alloc] at b
  exact ⟨(Boxed.new w t1 (.int .i64 x)).alloc _, b⟩
set_option maxHeartbeats 4000000 in
set_option maxRecDepth 100000 in
theorem oplogCheck_any (A : Option Addr) (n c : Nat) (L : List EtW) (room : Int) (w : World) (h : RdC 5 Et.cells w A n (L.map (·.1))) (hA : A = none → n = 0 ∧ c = 0) (hsm : n * 48 ≤ 140737488355328) :
    Calls Try.prog 147 #[.slice A n c, .int .i64 room] w fun e w' => (∃ p, e = .returned (.tuple #[.int .i64 (chkL (L.map (·.1)) room), .int .i64 p])) ∧ Below w.heap.size w w' := by
  have HL : Hid (L.length = n) := by have := h.len; rwa [List.length_map] at this
  by_cases h1 : room < 1
  · rw [show chkL (L.map (·.1)) room = 3 by unfold chkL; rw [if_pos (.inl h1)]]
    clear h
    obtain ⟨b1, b2⟩ := two_cells w 3 0 40 3
    go_enter Try.func147, Try.ntmps147
    go_wp2
    exact bodyPost_ret (results_oplog _ _ (by rfl) (by rfl) b1.cell b2.cell) rfl ⟨⟨_, rfl⟩, by go_grown⟩
  by_cases h2 : 256 < room
  · rw [show chkL (L.map (·.1)) room = 3 by unfold chkL; rw [if_pos (.inr h2)]]
    clear h
    obtain ⟨b1, b2⟩ := two_cells w 3 0 40 3
    go_enter Try.func147, Try.ntmps147
    go_wp2
    exact bodyPost_ret (results_oplog _ _ (by rfl) (by rfl) b1.cell b2.cell) rfl ⟨⟨_, rfl⟩, by go_grown⟩
  by_cases h3 : room < (n : Int)
  · rw [show chkL (L.map (·.1)) room = 60 by unfold chkL; rw [if_neg (by omega), List.length_map, HL.out, if_pos h3]]
    clear h
    obtain ⟨b1, b2⟩ := two_cells w 60 room 40 3
    go_enter Try.func147, Try.ntmps147
    go_wp2
    exact bodyPost_ret (results_oplog _ _ (by rfl) (by rfl) b1.cell b2.cell) rfl ⟨⟨_, rfl⟩, by go_grown⟩
  rw [show chkL (L.map (·.1)) room = scanL (L.map (·.1)) by unfold chkL; rw [if_neg (by omega), List.length_map, HL.out, if_neg h3]]
  have H := Lib.hid h
  have HA := Lib.hid hA
  have HSM := Lib.hid hsm
  have HN : Hid (n ≤ 256) := (by omega : n ≤ 256)
  clear h hA hsm
  have hmm := @run_makeMap Try.prog
  refine callsIn_wide (n := 6) |>.1 ?_
  refine callsIn_of_wp_marks Try.func147 rfl trivial ?_ rfl
  simp only [Try.ntmps147, List.size_toArray, List.length_cons, List.length_nil, Nat.reduceAdd, Nat.reduceSub, Array.replicate_succ, Array.replicate_zero, List.push_toArray, List.append_toArray, List.nil_append, List.cons_append]
  have B0 : Hid (Below w.heap.size w ((((w.alloc (.cells #[.int .i64 0] 40)).alloc (.cells #[.int .i64 0] 3)).alloc (.map #[] 0)).alloc (.cells #[.map (some (w.heap.size + 1 + 1))] 217))) := ((((Below.refl _ w).alloc (Nat.le_refl _) _).alloc (by simp) _).alloc (by simp; omega) _).alloc (by simp; omega) _
  have Z4 := Lib.hid ((((Boxed.new w 40 (.int .i64 0)).alloc (.cells #[.int .i64 0] 3)).alloc (.map #[] 0)).alloc (.cells #[.map (some (w.heap.size + 1 + 1))] 217))
  have Z5 := (((Boxed.new (w.alloc (.cells #[.int .i64 0] 40)) 3 (.int .i64 0)).alloc (.map #[] 0)).alloc (.cells #[.map (some (w.heap.size + 1 + 1))] 217))
  have ZM := (Mi.made ((w.alloc (.cells #[.int .i64 0] 40)).alloc (.cells #[.int .i64 0] 3))).kept (World.grownBy_alloc _ (.cells #[.map (some (w.heap.size + 1 + 1))] 217) none) (by simp)
  have Z3 := Boxed.new (((w.alloc (.cells #[.int .i64 0] 40)).alloc (.cells #[.int .i64 0] 3)).alloc (.map #[] 0)) 217 (.map (some (w.heap.size + 1 + 1)))
  have S0 : Hid (((((w.alloc (.cells #[.int .i64 0] 40)).alloc (.cells #[.int .i64 0] 3)).alloc (.map #[] 0)).alloc (.cells #[.map (some (w.heap.size + 1 + 1))] 217)).heap.size = w.heap.size + 1 + 1 + 1 + 1) := by simp [Hid]
  simp only [World.size_alloc] at Z5 ZM Z3
  replace Z5 := Lib.hid Z5
  replace ZM := Lib.hid ZM
  replace Z3 := Lib.hid Z3
  gi_wp2_with fail
  refine ⟨trivial, (callsIn_wide.2 (each_any A n c L _ (H.out.below B0.out) HA.out HSM.out)).mono ?_⟩
  rintro e w2 ⟨b, m, g, rfl, hb2, hm2⟩
  gi_wp2_with fail
  replace Z4 := Z4.out.kept (grown_of_below hb2 none) (by simp)
  replace Z5 := Z5.out.kept (grown_of_below hb2 none) (by simp)
  replace ZM := ZM.out.below hb2
  replace Z3 := Z3.out.kept (grown_of_below hb2 none) (by simp)
  have S2 := hb2.size
  rw [S0.out] at S2 hm2
  have B2 : Below w.heap.size w w2 := B0.out.trans (hb2.mono B0.out.size)
  clear S0 hb2 B0 H
  obtain ⟨r, hr⟩ : ∃ r, w.heap.size = r := ⟨_, rfl⟩
  rw [hr] at Z4 Z5 ZM Z3 S2 B2 hm2 ⊢
  have HLL : Hid (L.length = n) := HL.out
  refine wpIn_rangeFunc_ownH rfl (by decide) (gf := 153) (lb := #[.pointer (some ⟨b, 0, none⟩), .pointer (some ⟨m, 0, none⟩)]) rfl trivial (enters_of Try.func153 (by kernel_rfl) rfl)
    (each_stops Fence.wide 5 trivial rfl (by decide) (r + 1 + 1 + 1 + 1) w2.heap.size b m g n L HSM.out w2 (Nat.le_refl _) hm2)
    (fun h k => h.trans k) (fun W l o o' hl h1 h2 h3 k k1 k2 => World.putObj_heap_other (by omega)) (Below.refl _ _) (fun _ => rfl)
    (fun pre W => ((Boxed W r 40 (.int .i64 0) ∧ Boxed W (r + 1) 3 (.int .i64 0)) ∧ (Boxed W (r + 1 + 1 + 1) 217 (.map (some (r + 1 + 1))) ∧ Mi W (r + 1 + 1) pre.length (lastE (pre.map (·.2.1))))) ∧ (goodE pre ∧ (Below r w W ∧ w2.heap.size ≤ W.heap.size)))
    (fun c pre W => (c = .ret ∧ ∃ ini last, pre = ini ++ [last] ∧ goodE ini ∧ fitF (lastE (ini.map (·.2.1))) last.2.1 ≠ 0 ∧ Boxed W r 40 (.int .i64 (fitF (lastE (ini.map (·.2.1))) last.2.1)) ∧ Boxed W (r + 1) 3 (.int .i64 ((last.1 : Int) + 1))) ∧ Below r w W)
    (OwnFrom.and (OwnFrom.and (OwnFrom.and (Own.from (boxed_own _ _ _) _) (Own.from (boxed_own _ _ _) _)) (OwnFrom.and (Own.from (boxed_own _ _ _) _) (fun s X Y row hs hg hr => hs.kept hg (fun e => by have := (hr _ e.symm).1; omega)))) (OwnFrom.and (fun _ _ _ _ hs _ _ => hs) (OwnFrom.and (ownFrom_below (Nat.le_of_eq hr.symm) (by omega)) (fun _ _ _ _ hs hg _ => Nat.le_trans hs hg.size))))
    (fun c => OwnFrom.and (fun s X Y row hs hg hr => by obtain ⟨hc, ini, last, e1, e2, e3, e4, e5⟩ := hs; exact ⟨hc, ini, last, e1, e2, e3, boxed_own _ _ (fun (_ : Unit) => _) () X Y row e4 hg (fun r e => (hr r e).2), boxed_own _ _ (fun (_ : Unit) => _) () X Y row e5 hg (fun r e => (hr r e).2)⟩) (ownFrom_below (Nat.le_of_eq hr.symm) (by omega)))
    ⟨⟨⟨Z4, Z5⟩, Z3, ZM⟩, goodE_nil, B2, Nat.le_refl _⟩
    (fun x a' W => ∃ Bx, (W.cell? ⟨Bx, 0, none⟩ = some (.int .i64 x.2.1.c) ∧ W.cell? ⟨Bx, 1, none⟩ = some (.int .i64 x.2.1.n) ∧ W.cell? ⟨Bx, 2, none⟩ = some (.int .i64 x.2.1.kd) ∧ W.cell? ⟨Bx, 3, none⟩ = some (.int .i64 x.2.1.sl) ∧ W.cell? ⟨Bx, 4, none⟩ = some (.string x.2.1.v)) ∧ a' = { tmps := #[.slice A n c, .int .i64 room, undef, undef, .pointer (some ⟨r, 0, none⟩), .pointer (some ⟨r + 1, 0, none⟩), .pointer (some ⟨r + 1 + 1 + 1, 0, none⟩), .int .i64 ((x.1 : Int) + 1), .pointer (some ⟨Bx, 0, none⟩), undef, .int .i64 room, .bool false, .bool false, .int .i64 room, .bool false, .bool false, .slice A n c, .int .i64 n, .int .i64 room, .bool false, undef, .map (some (r + 1 + 1)), .slice A n c, .func (.func 153) #[] #[.pointer (some ⟨b, 0, none⟩), .pointer (some ⟨m, 0, none⟩)], .int .i64 ((x.1 : Int) + 1), .agg #[.int .i64 x.2.1.c, .int .i64 x.2.1.n, .int .i64 x.2.1.kd, .int .i64 x.2.1.sl, .string x.2.1.v], undef, undef, undef, undef, undef, undef, undef, undef, undef, undef, undef, undef], defers := [] })
    (fun x a' _ X Y row hs hg hr => by obtain ⟨Bx, ⟨h0, h1, h2, h3, h4⟩, h5⟩ := hs; exact ⟨Bx, ⟨cell_kept h0 hg (fun r e => (hr r e).2), cell_kept h1 hg (fun r e => (hr r e).2), cell_kept h2 hg (fun r e => (hr r e).2), cell_kept h3 hg (fun r e => (hr r e).2), cell_kept h4 hg (fun r e => (hr r e).2)⟩, h5⟩)
    ?assign ?body ?done ?stop
  case assign =>
    rintro l pre x W K ⟨⟨⟨z4, z5⟩, z3, zm⟩, hG, hB, hS⟩ hK
    dsimp only [EtW.enc]
    gi_wp2
    have e0 := Ob.fresh W #[.int .i64 x.2.1.c, .int .i64 x.2.1.n, .int .i64 x.2.1.kd, .int .i64 x.2.1.sl, .string x.2.1.v] 156
    exact hK _ _ ((KeepsOthers.alloc _ _).from _) (fun k _ h2 => (below_al W _).block k (by omega)) ⟨⟨⟨z4.alloc _, z5.alloc _⟩, z3.alloc _, zm.below (below_al _ _)⟩, hG, hB.alloc (by have := hB.size; omega) _, by simp; omega⟩ ⟨W.heap.size, ⟨e0.cell 0 rfl, e0.cell 1 rfl, e0.cell 2 rfl, e0.cell 3 rfl, e0.cell 4 rfl⟩, rfl⟩
  case body =>
    rintro l pre x a' W hl ⟨rr, hrr⟩ ⟨⟨⟨z4, z5⟩, z3, zm⟩, hG, hB, hS⟩ ⟨Bx, ⟨x0, x1, x2, x3, x4⟩, rfl⟩ hlt
    obtain ⟨z, hz⟩ : ∃ z, fitF (lastE (pre.map (·.2.1))) x.2.1 = z := ⟨_, rfl⟩
    have FF : Hid (CallsIn Fence.wide (5 - 1 - 1) Try.prog 150 #[.map (some (r + 1 + 1)), x.2.1.agg] W fun e w' => e = .returned (.int .i64 z) ∧ Below W.heap.size W w') := callsIn_wide.2 (hz ▸ fits_any (r + 1 + 1) pre.length _ x.2.1 W zm)
    have c3 := z3.cell
    have ZZ4 := Lib.hid z4
    have ZZ5 := Lib.hid z5
    have ZZ3 := Lib.hid z3
    have HZ := Lib.hid hz
    have HG := Lib.hid hG
    have HM := Lib.hid zm
    have HB := Lib.hid hB
    have hltN : Hid (pre.length < n) := hlt
    clear z4 z5 z3 zm hz hG hB hlt
    have hsl : l < W.heap.size := (Array.getElem?_eq_some_iff.1 hrr).1
    clear hrr
    by_cases h0 : z = 0
    case neg =>
      have b0 : (z == 0) = false := beq_eq_false_iff_ne.2 h0
      gi_wp2_with fail
      refine ⟨trivial, (CallsIn.inRound l FF.out).mono ?_⟩
      rintro e w3 ⟨rfl, hb3⟩
      have g3 := grown_of_below hb3 none
      have y4 := Lib.hid (ZZ4.out.kept g3 (by simp))
      have y5 := Lib.hid (ZZ5.out.kept g3 (by simp))
      have B3 : Hid (Below r w w3) := HB.out.trans (hb3.mono (by have := HB.out.size; omega))
      have cy4 := y4.out.cell
      have fy4 := y4.out.frozen
      have cy5 := y5.out.cell
      have fy5 := y5.out.frozen
      clear x0 x1 x2 x3 x4 c3
      gi_wp2
      exact ⟨(KeepsFrom.of_grownBy g3 (fun j e => by cases e)).trans (((KeepsOthers.setCell _ _ _).from _).trans ((KeepsOthers.setCell _ _ _).from _)), ⟨rfl, pre, x, rfl, HG.out, by rw [HZ.out]; exact h0, by rw [HZ.out]; exact (y4.out.set _).other (by omega) _, (y5.out.other (by omega) _).set _⟩, (B3.out.setCell (p := ⟨r, 0, none⟩) (Nat.le_refl _) _).setCell (p := ⟨r + 1, 0, none⟩) (Nat.le_succ _) _⟩
    subst h0
    gi_wp2_with fail
    refine ⟨trivial, (CallsIn.inRound l FF.out).mono ?_⟩
    rintro e w3 ⟨rfl, hb3⟩
    have g3 := grown_of_below hb3 none
    have y4 := Lib.hid (ZZ4.out.kept g3 (by simp))
    have y5 := Lib.hid (ZZ5.out.kept g3 (by simp))
    have y3 := Lib.hid (ZZ3.out.kept g3 (by simp))
    have B3 : Hid (Below r w w3) := HB.out.trans (hb3.mono (by have := HB.out.size; omega))
    obtain ⟨D, hown, hfD⟩ := HM.out.below hb3
    have HF := Lib.hid hfD
    have HOWN := Lib.hid hown
    have kx : ∀ {p : Addr} {v : Value}, W.cell? p = some v → w3.cell? p = some v := fun h => (hb3.cell (World.block_lt_of_cell? W _ h)).trans h
    replace x0 := kx x0
    replace x1 := kx x1
    have c3' := y3.out.cell
    have S3 := hb3.size
    clear x2 x3 x4 c3 kx hfD hown
    have hkw : (Lit.int .i64 x.2.1.c).wf = true := (by
      have h9 := HZ.out
      unfold fitF at h9
      have h8 : ¬ (x.2.1.c < 0 ∨ 16 ≤ x.2.1.c) := fun e => by rw [if_pos e] at h9; cases h9
      have h7 := wrap64_wf x.2.1.c
      rwa [show wrap64 x.2.1.c = x.2.1.c by unfold wrap64; omega] at h7)
    have hkey := Maps.keyOf_int_mk Try.underlying3 hkw
    gi_wp2_with (first
      | (gi_at_mapUpdate; refine wpListIn_mapUpdate_own _ rfl _ _ _ 217 rfl 3 3 intKey Try.underlying217 _ (r + 1 + 1) pre.length D rfl HOWN.out (by have := HN.out; have := hltN.out; simp only [maxLen]; omega) _ _ _ rfl rfl hkey _ [] (plainElem_int Try.underlying3 x.2.2) ?_; intro w4 hown4 hgrow4))
    have z4 := y4.out.kept hgrow4 (by intro e; injection e; omega)
    have z5 := y5.out.kept hgrow4 (by intro e; injection e; omega)
    have z3 := y3.out.kept hgrow4 (by intro e; injection e; omega)
    have zm := Mi.put HOWN.out HF.out hkw hown4
    have el : lastE ((pre ++ [x]).map (·.2.1)) = fun j => if j = x.2.1.c then some x.2.1.n else lastE (pre.map (·.2.1)) j := by rw [List.map_append]; exact lastE_snoc _ _
    refine ⟨(KeepsFrom.of_grownBy g3 (fun j e => by cases e)).trans (KeepsFrom.of_grownBy hgrow4 (fun j e => by cases e; omega)), fun k k1 k2 => (hgrow4.block k (by omega) (fun e => by cases e; omega)).trans (hb3.block k (by omega)), ⟨⟨z4, z5⟩, z3, ?_⟩, goodE_push HG.out HZ.out, B3.out.grown hgrow4 (by have := B3.out.size; omega) (fun k e => by cases e; omega), Nat.le_trans (Nat.le_trans hS S3) hgrow4.size⟩
    rw [el, List.length_append]
    exact zm
  case done =>
    rintro D ys W hD rfl ⟨⟨⟨z4, z5⟩, z3, zm⟩, hG, hB, hS⟩ hK
    have cy4 := z4.cell
    have fy4 := z4.frozen
    have cy5 := z5.cell
    have fy5 := z5.frozen
    have HG := Lib.hid hG
    have Z4 := Lib.hid ((z4.set (.int .i64 0)).other (B' := r + 1) (by omega) (.int .i64 0))
    have Z5 := Lib.hid ((z5.other (B' := r) (by omega) (.int .i64 0)).set (.int .i64 0))
    clear z4 z5 z3 zm hG
    gi_wp2
    have hK' := (KeepsOthers.setCell (W.setCell ⟨r, 0, none⟩ (.int .i64 0)) ⟨r + 1, 0, none⟩ (.int .i64 0)).same D _ ((KeepsOthers.setCell W ⟨r, 0, none⟩ (.int .i64 0)).same D _ hK rfl) rfl
    refine ⟨by simp, .inl ⟨_, _, rfl, run_takeDeferred hK', ?_⟩⟩
    have hg := grownBy_putObj' ((W.setCell ⟨r, 0, none⟩ (.int .i64 0)).setCell ⟨r + 1, 0, none⟩ (.int .i64 0)) D (.deferred none)
    have e4 := cell_kept Z4.out.cell hg (fun r e => by cases e; exact ⟨_, hK', rfl⟩)
    have e5 := cell_kept Z5.out.cell hg (fun r e => by cases e; exact ⟨_, hK', rfl⟩)
    refine ⟨.tuple #[.int .i64 0, .int .i64 0], results_oplog _ _ (by rfl) (by rfl) e4 e5, ⟨0, ?_⟩, ?_⟩
    · have h9 := goodE_up (L := L) (k := n) (by have := HLL.out; omega) HG.out
      rw [scanL_good (fun j hj => h9 j (by rw [List.length_map] at hj; have := HLL.out; omega))]
    · rw [hr]
      exact (((hB.setCell (p := ⟨r, 0, none⟩) (Nat.le_refl _) _).setCell (p := ⟨r + 1, 0, none⟩) (Nat.le_succ _) _).trans (belowK_b (w := w) (Nat.le_of_eq hr.symm) _ D _ _ (by omega) hK' rfl rfl))
  case stop =>
    rintro D c pre W hD ⟨k, hk, rfl⟩ ⟨⟨rfl, ini, last, e1, e2, e3, z4, z5⟩, hB⟩ hK
    obtain ⟨k', rfl⟩ : ∃ k', k = k' + 1 := by
      cases k with
      | zero => simp [upE] at e1
      | succ k' => exact ⟨k', rfl⟩
    obtain ⟨rfl, q2, q3⟩ := bad_up (by have := HLL.out; omega) e1
    have HE2 := Lib.hid e2
    have HE3 := Lib.hid e3
    have HQ3 := Lib.hid q3
    have Z4 := Lib.hid z4
    have Z5 := Lib.hid z5
    clear e1 e2 e3 q2 q3 z4 z5
    gi_wp2
    refine ⟨by simp, .inl ⟨_, _, rfl, run_takeDeferred hK, ?_⟩⟩
    have hg := grownBy_putObj' W D (.deferred none)
    have e4 := cell_kept Z4.out.cell hg (fun r e => by cases e; exact ⟨_, hK, rfl⟩)
    have e5 := cell_kept Z5.out.cell hg (fun r e => by cases e; exact ⟨_, hK, rfl⟩)
    refine ⟨_, results_oplog _ _ (by rfl) (by rfl) e4 e5, ⟨(last.1 : Int) + 1, ?_⟩, ?_⟩
    · rw [scanL_bad (k := k') (by rw [List.length_map]; have := HLL.out; omega) (by rw [HQ3.out]; exact HE3.out) (goodE_up (by have := HLL.out; omega) HE2.out), HQ3.out]
    · rw [hr]
      exact hB.trans (belowK_b (w := w) (Nat.le_of_eq hr.symm) _ D _ _ (by omega) hK rfl rfl)
end Go.Proofs.Ytjjobgolpedgeaa
