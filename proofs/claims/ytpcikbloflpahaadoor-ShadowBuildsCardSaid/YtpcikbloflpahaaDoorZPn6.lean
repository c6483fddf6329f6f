/-
  Chapter 7: a tree walked: each.
-/
import Derived.Test.YtpcikbloflpahaaDoorZPn5
namespace Go.Proofs.YtpcikbloflpahaaDoor
set_option linter.unusedVariables false
set_option linter.unusedSimpArgs false
open Go.RowKit Go.Shelf Go.Maps
attribute [local go_sem] Oper.semAt_some wide_depth inRound_depth wide_fn inRound_fn

theorem run_store_func {P : Program} {w : World} {a : Addr} {m : Mode} (fn : Fn) (fi cap : Array Value) : (store a (.func fn fi cap) m).run P w = stored P w a (.func fn fi cap) m := run_store P w a _ m rfl
attribute [local go_sem] run_store_func
def metS (N : Nat) (o : Option (List (Int × Int))) (n p : Int) : Option (List (Int × Int)) := o.bind fun s => if okM N s n then some (s ++ [(n, p)]) else none
def leafS (nd : Int → List Int) (N : Nat) (o : Option (List (Int × Int))) (x : Nat × Int) : Option (List (Int × Int)) :=
  if x.1 < 4 then (ents (nd x.2)).foldl (fun o y => metS N o y.2 ((x.1 : Int) * 32 + (y.1 : Int))) (metS N o x.2 (-1)) else none
def treeS (nd : Int → List Int) (N : Nat) (top : Int) : Option (List (Int × Int)) :=
  if top = 0 then some [] else (ents (nd top)).foldl (leafS nd N) (metS N (some []) top (-1))
theorem metS_none (N : Nat) (n p : Int) : metS N none n p = none := rfl
theorem metS_ok {N : Nat} {s : List (Int × Int)} {n : Int} (h : okM N s n) (p : Int) : metS N (some s) n p = some (s ++ [(n, p)]) := by simp [metS, h]
theorem metS_bad {N : Nat} {s : List (Int × Int)} {n : Int} (h : ¬ okM N s n) (p : Int) : metS N (some s) n p = none := by simp [metS, h]
theorem fold_metS_none (N : Nat) (g : Nat × Int → Int) (ys : List (Nat × Int)) : ys.foldl (fun o y => metS N o y.2 (g y)) none = none := by
  induction ys with
  | nil => rfl
  | cons y ys ih => simpa [metS_none] using ih
theorem leafS_none (nd : Int → List Int) (N : Nat) (x : Nat × Int) : leafS nd N none x = none := by
  unfold leafS
  split
  · rw [metS_none]; exact fold_metS_none _ _ _
  · rfl
theorem fold_leafS_none (nd : Int → List Int) (N : Nat) (ys : List (Nat × Int)) : ys.foldl (leafS nd N) none = none := by
  induction ys with
  | nil => rfl
  | cons y ys ih => simpa [leafS_none] using ih
theorem fold_prefix_none {α β : Type} (f : Option β → α → Option β) (hf : ∀ x, f none x = none) {xs ys : List α} (h : xs <+: ys) (o : Option β) (hn : xs.foldl f o = none) : ys.foldl f o = none := by
  obtain ⟨zs, rfl⟩ := h
  rw [List.foldl_append, hn]
  clear hn
  induction zs with
  | nil => rfl
  | cons z zs ih => rw [List.foldl_cons, hf]; exact ih
theorem ents_len (l : List Int) : (ents l).length ≤ 32 := by
  have := List.length_filterMap_le (fun k => if l.getD k 0 = 0 then none else some (k, l.getD k 0)) (List.range 32)
  simpa [ents, entsF] using this

section
variable {W W' : World} {db sb eb tb sm N acts : Nat} {B : List Int} {tf : Nat} {tcap : Array Value} {Tl : World → (Nat → Prop) → List (Int × Int) → Prop} {Z Ad A A' S : Nat → Prop} {s s' : List (Int × Int)}
/-- A new block is kept apart. -/
theorem StM.addZ (hT : Tell tf tcap Tl) (h : StM W db sb eb tb sm N acts B tf tcap Tl Z Ad A s) (hF : Fr No W W') {b : Nat} (hb : W.heap.size ≤ b) (hb' : b < W'.heap.size) : StM W' db sb eb tb sm N acts B tf tcap Tl (fun k => Z k ∨ k = b) Ad A s := by
  have h1 := h.fr0 hT hF
  have hm := h.mp.lt
  refine ⟨h1.dk, h1.bs, h1.be, h1.bt, h1.mp, h1.tl, ⟨.inl h.zs.1, .inl h.zs.2.1, .inl h.zs.2.2.1, fun k hk => .inl (h.zs.2.2.2.1 k hk), fun e => e.elim h.zs.2.2.2.2 (fun e => by omega)⟩, fun k hk => ⟨fun e => e.elim (h.za k hk).1 (fun e => by have := hT.low h.tl k hk; omega), (h.za k hk).2⟩, fun k hk => hk.elim (h1.zl k) (fun e => by omega)⟩
theorem StM.monoZ {Z' : Nat → Prop} (h : StM W db sb eb tb sm N acts B tf tcap Tl Z Ad A s) (hz : ∀ k, Z' k → Z k) (hs : Z' sb ∧ Z' eb ∧ Z' tb ∧ ∀ k, Ad k → Z' k) : StM W db sb eb tb sm N acts B tf tcap Tl Z' Ad A s :=
  ⟨h.dk, h.bs, h.be, h.bt, h.mp, h.tl, ⟨hs.1, hs.2.1, hs.2.2.1, hs.2.2.2, fun e => h.zs.2.2.2.2 (hz _ e)⟩, fun k hk => ⟨fun e => (h.za k hk).1 (hz _ e), (h.za k hk).2⟩, fun k hk => h.zl k (hz k hk)⟩
/-- What no round of a loop turns. -/
theorem StM.grown (hT : Tell tf tcap Tl) (h : StM W db sb eb tb sm N acts B tf tcap Tl Z Ad A s) {row : Option Nat} {b : Nat} (hg : W.grownBy W' row) (hr : ∀ r, row = some r → b ≤ r ∧ ∃ o : Obj, W.heap[r]? = some o ∧ o.isCells = false) (hz : ∀ k, Z k → k < b) (hm : sm < b) : StM W' db sb eb tb sm N acts B tf tcap Tl Z Ad A s := by
  have hF : Fr (fun k => row = some k) W W' := (Fr.refl _ W).grown hg (fun k e _ => e)
  refine h.fr hT hF (fun k hk e => by have := (hr k e).1; have := hz k hk; omega) (fun k hk e => ?_) (fun e => by have := (hr _ e).1; omega)
  obtain ⟨_, o, ho, hc⟩ := hr k e
  rw [hT.cel h.tl k o hk ho] at hc
  cases hc
theorem StM.grown2 (hT : Tell tf tcap Tl) (h : StM W db sb eb tb sm N acts B tf tcap Tl Z Ad A s) {row : Option Nat} (hg : W.grownBy W' row) (hr : ∀ r, row = some r → ¬ Z r ∧ r ≠ sm ∧ ∃ o : Obj, W.heap[r]? = some o ∧ o.isCells = false) : StM W' db sb eb tb sm N acts B tf tcap Tl Z Ad A s := by
  have hF : Fr (fun k => row = some k) W W' := (Fr.refl _ W).grown hg (fun k e _ => e)
  refine h.fr hT hF (fun k hk e => (hr k e).1 hk) (fun k hk e => ?_) (fun e => (hr _ e).2.1 rfl)
  obtain ⟨_, _, o, ho, hc⟩ := hr k e
  rw [hT.cel h.tl k o hk ho] at hc
  cases hc
theorem StM.keeps (hT : Tell tf tcap Tl) (h : StM W db sb eb tb sm N acts B tf tcap Tl Z Ad A s) (hF : Fr (StS A sm) W W') {b : Nat} (hm : sm < b) : KeepsFrom b W W' :=
  ⟨hF.size, fun k o hk ho hc => hF.heap ho (fun e => e.elim (fun e => by rw [hT.cel h.tl k o e ho] at hc; cases hc) (fun e => by omega))⟩
end

set_option maxHeartbeats 1000000 in
set_option maxRecDepth 1000000 in
theorem page_calls (i k : Nat) (hi : i < 32) (hk : k < 32) (w : World) : Calls Tryd.prog 86 #[.int .i64 (i : Int), .int .i64 (k : Int)] w fun e w' => e = .returned (.tuple #[.int .i64 (if i < 4 then (i : Int) * 32 + (k : Int) else 0), .int .i64 (if i < 4 then 0 else 1)]) ∧ w' = w := by
  have d1 : decide ((i : Int) < 0) = false := decide_eq_false (by omega)
  have d3 : decide ((k : Int) < 0) = false := decide_eq_false (by omega)
  have d4 : decide ((32 : Int) ≤ (k : Int)) = false := decide_eq_false (by omega)
  by_cases h : i < 4
  · have d2 : decide ((4 : Int) ≤ (i : Int)) = false := decide_eq_false (by omega)
    have hw1 : IntKind.i64.wrap ((i : Int) * 32) = (i : Int) * 32 := IntWalk.i64_in _ (by omega)
    have hw2 : IntKind.i64.wrap ((i : Int) * 32 + (k : Int)) = (i : Int) * 32 + (k : Int) := IntWalk.i64_in _ (by omega)
    rw [if_pos h, if_pos h]
    go_enter Tryd.func86, Tryd.ntmps86
    go_wp2
    go_ret2
    exact ⟨rfl, rfl⟩
  · have d2 : decide ((4 : Int) ≤ (i : Int)) = true := decide_eq_true (by omega)
    rw [if_neg h, if_neg h]
    go_enter Tryd.func86, Tryd.ntmps86
    go_wp2
    go_ret2
    exact ⟨rfl, rfl⟩
theorem ndB_range {B : List Int} (h : ∀ x ∈ B, 0 ≤ x ∧ x < 256) (i k : Nat) : 0 ≤ (ndB B i).getD k 0 ∧ (ndB B i).getD k 0 ≤ 65535 := by
  have hr := decN_range (secB B i) (secB_range h i)
  have hl := ndB_len B i
  rw [List.getD_eq_getElem?_getD]
  cases hq : (ndB B i)[k]? with
  | none => simp
  | some x => exact hr x (by have := List.mem_of_getElem? hq; unfold ndB at this; exact this)
theorem Gr7.then {w W : World} {A A1 A2 : Nat → Prop} (h : Gr7 w A A1) (k : Gr7 W A1 A2) (hs : w.heap.size ≤ W.heap.size) : Gr7 w A A2 := fun j hj => (k j hj).elim (h j) (fun e => .inr (Nat.le_trans hs e))
theorem fr_sts {w W W' : World} {A A' : Nat → Prop} {sm : Nat} (h : Fr A w W) (hF : Fr (StS A' sm) W W') (g : Gr7 w A A') (hs : w.heap.size ≤ sm) : Fr A w W' := h.trans' hF (fun i hi e => e.elim (fun e => (g i e).elim id (fun e => by omega)) (fun e => by omega))
/-- The box of 'meet'. -/
def EaB (w W : World) : Prop := W.heap[w.heap.size + 1 + 1 + 1 + 1]? = some (.cells [.func (.func 83) #[] #[.pointer (some ⟨w.heap.size + 1 + 1 + 1, 0, none⟩), .pointer (some ⟨w.heap.size, 0, none⟩), .pointer (some ⟨w.heap.size + 1, 0, none⟩)]].toArray 138 (0, 0))
/-- Behind some rounds of the outer loop. -/
def EaI (w : World) (db N acts : Nat) (B : List Int) (tf : Nat) (tcap : Array Value) (Tl : World → (Nat → Prop) → List (Int × Int) → Prop) (Z Ad A : Nat → Prop) (top : Int) (pre : List (Nat × Int)) (W : World) : Prop :=
  ∃ s A', pre.foldl (leafS (fun n => ndB B n.toNat) N) (some [(top, -1)]) = some s ∧ StM W db (w.heap.size + 1 + 1 + 1) w.heap.size (w.heap.size + 1) (w.heap.size + 1 + 1) N acts B tf tcap Tl Z Ad A' s ∧ Fr A w W ∧ Gr7 w A A' ∧ s.length ≤ 1 + 33 * pre.length ∧ EaB w W
/-- Behind some rounds of the inner loop: of leaf i, from s1 on. -/
def EaJ (w W0 : World) (db N acts : Nat) (B : List Int) (tf : Nat) (tcap : Array Value) (Tl : World → (Nat → Prop) → List (Int × Int) → Prop) (Z Ad A : Nat → Prop) (b ib nb : Nat) (l : List Int) (i : Nat) (s1 : List (Int × Int)) (pre : List (Nat × Int)) (W : World) : Prop :=
  ∃ s A', pre.foldl (fun o y => metS N o y.2 ((i : Int) * 32 + (y.1 : Int))) (some s1) = some s ∧ StM W db (w.heap.size + 1 + 1 + 1) w.heap.size (w.heap.size + 1) (w.heap.size + 1 + 1) N acts B tf tcap Tl Z Ad A' s ∧ Fr A w W ∧ Gr7 w A A' ∧ s.length ≤ s1.length + pre.length ∧ EaB w W ∧ W.heap[ib]? = some (.cells [.int .i64 (i : Int)].toArray 3 (0, 0)) ∧ W.heap[nb]? = some (.cells (nds l).toArray 99 (0, 0)) ∧ KeepsFrom b W0 W
/-- How each ends. -/
def EachQ (w : World) (db N acts : Nat) (B : List Int) (Tl : World → (Nat → Prop) → List (Int × Int) → Prop) (A : Nat → Prop) (top : Int) (e : Ending) (w' : World) : Prop :=
  (∃ s A', treeS (fun n => ndB B n.toNat) N top = some s ∧ e = .returned (.tuple #[]) ∧ Tl w' A' s ∧ Fr A w w' ∧ Gr7 w A A') ∨
  (treeS (fun n => ndB B n.toNat) N top = none ∧ e = .panicked [{ v := .iface 154 (.agg #[.int .i64 60]), recovered := false }] ∧ Fr A w w')
set_option maxHeartbeats 8000000 in
set_option maxRecDepth 1000000 in
theorem weach_calls {w : World} {db N acts : Nat} {B : List Int} {tf : Nat} {tcap : Array Value} {Tl : World → (Nat → Prop) → List (Int × Int) → Prop} {Ad A : Nat → Prop} (hT : Tell tf tcap Tl) (hd : DkR w db Ad acts N B) (ht : Tl w A []) (hna : ∀ k, A k → ¬ Ad k)
    (top : Int) (htop : -9223372036854775808 ≤ top ∧ top ≤ 9223372036854775807) :
    Calls Tryd.prog 72 #[.pointer (some ⟨db, 0, none⟩), .int .i64 top, .func (.func tf) #[] tcap] w (EachQ w db N acts B Tl A top) := by
  have hmf : ∀ (fn : Fn) (first cap : Array Value) (w : World), (Instr.makeFunc fn first cap).run Tryd.prog w = .ok (.func fn first cap) w := fun _ _ _ _ => rfl
  have hmm : ∀ w : World, (Instr.makeMap 157 none).run Tryd.prog w = .ok (.map (some w.heap.size)) (w.alloc (.map #[] 0)) := fun _ => rfl
  have hF0 : Fr No w ((w.alloc (Obj.cells #[.pointer (some ⟨db, 0, none⟩)] 36)).alloc (Obj.cells #[.func (.func tf) #[] tcap] 138)) := ((Fr.refl No w).alloc _).alloc _
  have HDN := Lib.hid (gdown_calls (hd.fr0 hF0))
  have HM := Lib.hid wmust_calls
  have HD := Lib.hid (And.intro hd (And.intro ht hna))
  have HT := Lib.hid hT
  clear hd ht hna hT
  refine (callsIn_wide (n := 0)).1 ?_
  refine callsIn_of_wpAt Tryd.func72 rfl trivial ?_ rfl
  simp only [Tryd.ntmps72, List.size_toArray, List.length_cons, List.length_nil, Nat.reduceAdd, Nat.reduceSub, Array.replicate_succ, Array.replicate_zero, List.push_toArray, List.append_toArray, List.nil_append, List.cons_append]
  refine wpAt_seq_k fun K hK => ?_
  gi_wp2
  refine wpAt_seq_k fun K hK => ?_
  gi_wp2_with (first
    | (gi_at_call 82; refine (callsIn_wide.2 HDN.out).mono ?_; rintro e w1 ⟨rfl, rfl⟩)
    | (gi_at_call 81; refine (callsIn_wide.2 (HM.out _ _)).mono ?_; rintro e w1 ⟨rfl, rfl⟩)
    | fail "arm")
  by_cases htz : top = 0
  · have dz : decide (top = 0) = true := decide_eq_true htz
    have dz2 : (top == 0) = true := by simp [htz]
    have HZ := Lib.hid htz
    clear htz
    refine wpAt_seq_k fun K hK => ?_
    gi_wp2
    simp [bodyPostM, LeavesInM, LeavesIn, settle, results, Tryd.results72, go_sem]
    obtain ⟨hd, ht, hna⟩ := HD.out
    exact .inl ⟨[], A, by unfold treeS; rw [if_pos HZ.out], rfl, HT.out.fr ht hF0 (fun _ _ h => h), hF0.no, fun k hk => .inl hk⟩
  have dz : decide (top = 0) = false := decide_eq_false htz
  have dz2 : (top == 0) = false := by simp [htz]
  have HZ := Lib.hid htz
  clear htz
  refine wpAt_seq_k fun K hK => ?_
  gi_wp2
  refine wpAt_seq_k fun K hK => ?_
  gi_wp2
  have hb7 : (((((w.alloc (Obj.cells #[.pointer (some ⟨db, 0, none⟩)] 36)).alloc (Obj.cells #[.func (.func tf) #[] tcap] 138)).alloc (Obj.map #[] 0)).alloc (Obj.cells #[.map (some (w.heap.size + 1 + 1))] 157)).alloc (Obj.cells #[.nilFunc] 138)).heap[w.heap.size + 1 + 1 + 1 + 1]? = some (.cells [.nilFunc].toArray 138 (0, 0)) := by
    have := heap_new ((((w.alloc (Obj.cells #[.pointer (some ⟨db, 0, none⟩)] 36)).alloc (Obj.cells #[.func (.func tf) #[] tcap] 138)).alloc (Obj.map #[] 0)).alloc (Obj.cells #[.map (some (w.heap.size + 1 + 1))] 157)) (Obj.cells #[.nilFunc] 138)
    simpa using this
  have k7 := heap_cell (o := 0) hb7 rfl
  have f7 := heap_frozen (o := 0) hb7
  refine wpAt_seq_k fun K hK => ?_
  gi_wp2
  generalize hw5 : ((((w.alloc (Obj.cells #[.pointer (some ⟨db, 0, none⟩)] 36)).alloc (Obj.cells #[.func (.func tf) #[] tcap] 138)).alloc (Obj.map #[] 0)).alloc (Obj.cells #[.map (some (w.heap.size + 1 + 1))] 157)).alloc (Obj.cells #[.func (.func 83) #[] #[.pointer (some ⟨w.heap.size + 1 + 1 + 1, 0, none⟩), .pointer (some ⟨w.heap.size, 0, none⟩), .pointer (some ⟨w.heap.size + 1, 0, none⟩)]] 138) = w5
  have hF5 : Fr No w w5 := by rw [← hw5]; exact (((((Fr.refl No w).alloc _).alloc _).alloc _).alloc _).alloc _
  have hs5 : w5.heap.size = w.heap.size + 5 := by rw [← hw5]; simp
  have hbe : w5.heap[w.heap.size]? = some (.cells [.pointer (some ⟨db, 0, none⟩)].toArray 36 (0, 0)) := by rw [← hw5]; exact heap_alloc _ (heap_alloc _ (heap_alloc _ (heap_alloc _ (heap_new _ _))))
  have hbt : w5.heap[w.heap.size + 1]? = some (.cells [.func (.func tf) #[] tcap].toArray 138 (0, 0)) := by rw [← hw5]; exact heap_alloc _ (heap_alloc _ (heap_alloc _ (heap_new2_7 w _ _)))
  have hbs : w5.heap[w.heap.size + 1 + 1 + 1]? = some (.cells [.map (some (w.heap.size + 1 + 1))].toArray 157 (0, 0)) := by
    rw [← hw5]
    refine heap_alloc _ ?_
    have := heap_new (((w.alloc (Obj.cells #[.pointer (some ⟨db, 0, none⟩)] 36)).alloc (Obj.cells #[.func (.func tf) #[] tcap] 138)).alloc (Obj.map #[] 0)) (Obj.cells #[.map (some (w.heap.size + 1 + 1))] 157)
    simpa using this
  have hb7 : w5.heap[w.heap.size + 1 + 1 + 1 + 1]? = some (.cells [.func (.func 83) #[] #[.pointer (some ⟨w.heap.size + 1 + 1 + 1, 0, none⟩), .pointer (some ⟨w.heap.size, 0, none⟩), .pointer (some ⟨w.heap.size + 1, 0, none⟩)]].toArray 138 (0, 0)) := by
    rw [← hw5]
    have := heap_new ((((w.alloc (Obj.cells #[.pointer (some ⟨db, 0, none⟩)] 36)).alloc (Obj.cells #[.func (.func tf) #[] tcap] 138)).alloc (Obj.map #[] 0)).alloc (Obj.cells #[.map (some (w.heap.size + 1 + 1))] 157)) (Obj.cells #[.func (.func 83) #[] #[.pointer (some ⟨w.heap.size + 1 + 1 + 1, 0, none⟩), .pointer (some ⟨w.heap.size, 0, none⟩), .pointer (some ⟨w.heap.size + 1, 0, none⟩)]] 138)
    simpa using this
  have hmp : MapAt Tryd.prog 3 w5 (w.heap.size + 1 + 1) 0 (seenF []) := by
    have e : seenF [] = fun _ => none := by funext k; simp [seenF]
    rw [e, ← hw5]
    have := (MapAt.made Tryd.prog 3 ((w.alloc (Obj.cells #[.pointer (some ⟨db, 0, none⟩)] 36)).alloc (Obj.cells #[.func (.func tf) #[] tcap] 138))).fr (((Fr.refl No _).alloc (Obj.cells #[.map (some (w.heap.size + 1 + 1))] 157)).alloc (Obj.cells #[.func (.func 83) #[] #[.pointer (some ⟨w.heap.size + 1 + 1 + 1, 0, none⟩), .pointer (some ⟨w.heap.size, 0, none⟩), .pointer (some ⟨w.heap.size + 1, 0, none⟩)]] 138)) (fun h => h)
    simpa using this
  clear hw5 k7 f7
  obtain ⟨Z, hZ⟩ : ∃ Z : Nat → Prop, Z = fun k => k = w.heap.size + 1 + 1 + 1 ∨ k = w.heap.size ∨ k = w.heap.size + 1 ∨ Ad k ∨ k = w.heap.size + 1 + 1 + 1 + 1 := ⟨_, rfl⟩
  have hst : StM w5 db (w.heap.size + 1 + 1 + 1) w.heap.size (w.heap.size + 1) (w.heap.size + 1 + 1) N acts B tf tcap Tl Z Ad A [] := by
    obtain ⟨hd, ht, hna⟩ := HD.out
    have hal := HT.out.low ht
    have hdl := hd.low
    subst hZ
    refine ⟨hd.fr0 hF5, hbs, hbe, hbt, hmp, HT.out.fr ht hF5 (fun _ _ h => h), ⟨.inl rfl, .inr (.inl rfl), .inr (.inr (.inl rfl)), fun k hk => .inr (.inr (.inr (.inl hk))), fun e => by rcases e with e | e | e | e | e; all_goals first | omega | (have := hdl _ e; omega)⟩, fun k hk => ⟨fun e => ?_, fun e => ?_⟩, fun k hk => ?_⟩
    · have := hal k hk
      rcases e with e | e | e | e | e
      all_goals first | omega | exact hna k hk e
    · have := hal k hk; omega
    · rcases hk with e | e | e | e | e
      all_goals first | omega | (have := hdl _ e; omega)
  have k7 := heap_cell (o := 0) hb7 rfl
  have HB7 := Lib.hid hb7
  have HZ7 : RowKit.Hid (Z (w.heap.size + 1 + 1 + 1 + 1) ∧ ∀ k, Z k → k < w.heap.size + 5) := Lib.hid (by
    have hdl := HD.out.1.low
    subst hZ
    exact ⟨.inr (.inr (.inr (.inr rfl))), fun k hk => by
      rcases hk with e | e | e | e | e
      all_goals first | omega | (have := hdl _ e; omega)⟩)
  have HST := Lib.hid hst
  have HF5 := Lib.hid hF5
  have HMT := Lib.hid (meet_calls HT.out hst (by simp) top (-1) htop (by omega))
  have HS5 := Lib.hid hs5
  clear hst hF5 hbe hbt hbs hb7 hmp hZ hs5
  refine wpAt_seq_k fun K hK => ?_
  gi_wp2_with (first
    | (gi_at_call 83; refine (callsIn_wide.2 HMT.out).mono ?_; rintro e w6 (⟨hok, rfl, A6, hst6, hF6, hG6⟩ | ⟨hok, rfl, hF6⟩))
    | fail "arm")
  rotate_left
  · simp [bodyPostM, LeavesInM, LeavesIn, settle, results, Tryd.results72, go_sem]
    have hs5 := HS5.out
    exact .inr ⟨by unfold treeS; rw [if_neg HZ.out, metS_bad hok, fold_leafS_none], rfl, HF5.out.no.trans' hF6 (fun i hi e => e.elim id (fun e => by omega))⟩
  have htn : ((top.toNat : Nat) : Int) = top := by have := hok.1; omega
  have htl : top.toNat < N := by have := hok.1; have := hok.2.1; omega
  have HRD : RowKit.Hid (Calls Tryd.prog 85 #[.pointer (some ⟨db, 0, none⟩), .int .i64 top] w6 fun e w' => e = .returned (.agg (nds (ndB B top.toNat)).toArray) ∧ Fr No w6 w') := Lib.hid (by
    have := wread_calls hst6.dk top.toNat htl
    rwa [htn] at this)
  have HNL := Lib.hid (ndB_len B top.toNat)
  have HRG : RowKit.Hid (∀ i k, 0 ≤ (ndB B i).getD k 0 ∧ (ndB B i).getD k 0 ≤ 65535) := Lib.hid (fun i k => ndB_range (by obtain ⟨_, _, _, _, _, _, h⟩ := HD.out.1; exact h.rng) i k)
  have HRGl := Lib.hid (HRG.out top.toNat)
  have HOK := Lib.hid hok
  have HTF : RowKit.Hid (∀ r, (ents (ndB B top.toNat)).foldl (leafS (fun n => ndB B n.toNat) N) (some [(top, -1)]) = r → treeS (fun n => ndB B n.toNat) N top = r) := Lib.hid (fun r hr => by
    unfold treeS
    rw [if_neg HZ.out, metS_ok hok]
    exact hr)
  have HF6 : RowKit.Hid (Fr A w w6) := Lib.hid (HF5.out.no.trans' hF6 (fun i hi e => e.elim id (fun e => by have := HS5.out; omega)))
  have HG6 : RowKit.Hid (Gr7 w A A6) := Lib.hid (fun j hj => (hG6 j hj).imp id (fun h => Nat.le_trans HF5.out.size h))
  have HS6 : RowKit.Hid (w.heap.size + 5 ≤ w6.heap.size) := Lib.hid (by have := hF6.size; have := HS5.out; omega)
  have hzz : ∀ k, Z k → ¬ StS A (w.heap.size + 1 + 1) k := fun k hk e => e.elim (fun e => (HST.out.za k e).1 hk) (fun e => HST.out.zs.2.2.2.2 (e ▸ hk))
  have HB76 := Lib.hid (hF6.heap HB7.out (hzz _ HZ7.out.1))
  have HST6 := Lib.hid hst6
  have k0 := heap_cell (o := 0) hst6.be rfl
  clear hst6 hF6 hG6 hok htn htl hzz k7
  generalize ndB B top.toNat = l at *
  refine wpAt_seq_k fun K hK => ?_
  gi_wp2_with (first
    | (gi_at_call 85; refine (callsIn_wide.2 HRD.out).mono ?_; rintro e w7 ⟨rfl, hF7⟩; have HF7 := Lib.hid hF7; clear hF7)
    | (gi_at_call 84; refine (callsIn_wide.2 (entries_calls _ _)).mono ?_; rintro e w8 ⟨rfl, hw8⟩; have HW8 := Lib.hid hw8; clear hw8)
    | fail "arm")
  have hw8 := HW8.out
  have hF68 : Fr No w6 w8 := by rw [hw8]; exact HF7.out.alloc _
  have hbn : w8.heap[w7.heap.size]? = some (.cells (nds l).toArray 99 (0, 0)) := by rw [hw8]; exact heap_new _ _
  have hs8 : w8.heap.size = w7.heap.size + 1 := by rw [hw8]; simp
  have hs67 := HF7.out.size
  have hs6 := HS6.out
  have HS8 := Lib.hid hs8
  clear hw8 HW8
  have hst8 := HST6.out.addZ HT.out hF68 (b := w7.heap.size) hs67 (by omega)
  have hb78 := hF68.heap HB76.out (fun h => h)
  have HF8 : RowKit.Hid (Fr A w w8) := Lib.hid (HF6.out.trans hF68.no)
  have HZ8 : RowKit.Hid (∀ k, (Z k ∨ k = w7.heap.size) → k < w8.heap.size) := Lib.hid (fun k hk => hk.elim (fun e => by have := HZ7.out.2 k e; omega) (fun e => by omega))
  refine wpAt_block ?_
  refine rangeP_outer Tryd.func72 opens_wide rfl (gf := 93) (lb := #[.pointer (some ⟨w7.heap.size, 0, none⟩)]) rfl (enters_of Tryd.func93 (by kernel_rfl) rfl)
    (entries1_iter w7.heap.size l HNL.out) (fun x => rfl) ownFrom_heap hbn
    (EaI w db N acts B tf tcap Tl (fun k => Z k ∨ k = w7.heap.size) Ad A top)
    (fun ch W => treeS (fun n => ndB B n.toNat) N top = none ∧ ch = [{ v := .iface 154 (.agg #[.int .i64 60]), recovered := false }] ∧ Fr A w W)
    ?hI ⟨_, A6, rfl, hst8, HF8.out, HG6.out, by simp, hb78⟩ ?hround ?hdone ?hpanic
  case hI =>
    rintro pre W W' row ⟨s, A', h1, h2, h3, h4, h5, h6⟩ hg hr
    have hFr : Fr (fun k => row = some k) W W' := (Fr.refl _ W).grown hg (fun k e _ => e)
    refine ⟨s, A', h1, h2.grown2 HT.out hg (fun r e => ⟨fun hz => by have := (hr r e).1; have := HZ8.out r hz; omega, fun e2 => by have := (hr r e).1; omega, (hr r e).2⟩), h3.grown hg (fun k e hk => by have := (hr k e).1; omega), h4, h5, hFr.heap h6 (fun e => by have := (hr _ e).1; omega)⟩
  case hdone =>
    rintro D W hD ⟨⟨s, A', h1, h2, h3, h4, h5, h6⟩, hk⟩ hd
    refine ⟨by simp, .inl ⟨_, _, rfl, run_takeDeferred hd, ?_⟩⟩
    simp [LeavesInM, LeavesIn, settle, results, Tryd.results72, go_sem]
    have hFD : Fr (fun k => k = D) W (W.putObj D (.deferred none)) := (Fr.refl _ W).grown (grownBy_putObj' _ _ _) (fun k e _ => by injection e with e; exact e.symm)
    exact .inl ⟨s, A', HTF.out _ h1, rfl, HT.out.fr h2.tl hFD (fun k hk e => by subst e; have := HT.out.cel h2.tl _ _ hk hd; cases this), h3.putObj (by have := HF8.out.size; omega) _, h4⟩
  case hpanic =>
    rintro D ch W hD ⟨h1, rfl, h3⟩ hd
    refine ⟨by simp, .inl ⟨_, _, rfl, run_takeDeferred hd, ?_⟩⟩
    simp [LeavesInM, LeavesIn, settle, results, Tryd.results72, go_sem]
    exact .inr ⟨h1, rfl, h3.putObj (by have := HF8.out.size; omega) _⟩
  case hround =>
    rintro r pre x W hr ⟨lr, hlr⟩ hpx ⟨s, A', hfo, hst, hF, hG, hlen, hbx⟩ hK
    have hxm := ents_mem (hpx.subset (by simp : x ∈ pre ++ [x]))
    have hpl : pre.length + 1 ≤ 32 := by have := hpx.length_le; have := ents_len l; simp at *; omega
    have hrl := heap_lt hlr
    have HST := Lib.hid hst
    have HFO := Lib.hid hfo
    have HF := Lib.hid hF
    have HG := Lib.hid hG
    have HBX := Lib.hid hbx
    have HPX := Lib.hid hpx
    have HXM := Lib.hid hxm
    have HLR := Lib.hid hlr
    have HK := Lib.hid hK
    clear hst hfo hF hG hbx hpx hxm hlr hK
    obtain ⟨x1, x2⟩ := x
    clear hs8
    have hF1 : Fr No W (W.alloc (Obj.cells #[.int .i64 (x1 : Int)] 3)) := (Fr.refl No W).alloc _
    have HE1 : RowKit.Hid (EaI w db N acts B tf tcap Tl (fun k => Z k ∨ k = w7.heap.size) Ad A top pre (W.alloc (Obj.cells #[.int .i64 (x1 : Int)] 3))) := Lib.hid ⟨s, A', HFO.out, HST.out.fr0 HT.out hF1, HF.out.trans hF1.no, HG.out, hlen, hF1.heap HBX.out (fun h => h)⟩
    gi_wp2
    refine ⟨(KeepsOthers.alloc W _).from _, HE1.out, hF1.heap HK.out (fun h => h), ?_⟩
    intro W2 hg lr2 hlr2 _ _
    have hgr : Fr (fun k => some r = some k) (W.alloc (Obj.cells #[.int .i64 (x1 : Int)] 3)) W2 := (Fr.refl _ _).grown hg (fun k e _ => e)
    have hrz : ∀ k, (Z k ∨ k = w7.heap.size) → k ≠ r := fun k hk e => by have := HZ8.out k hk; omega
    have hs1 : (W.alloc (Obj.cells #[.int .i64 (x1 : Int)] 3)).heap.size = W.heap.size + 1 := by simp
    have hst2 := (HST.out.addZ HT.out hF1 (b := W.heap.size) (Nat.le_refl _) (by rw [hs1]; omega)).grown2 HT.out hg (fun q e => by
      injection e with e
      subst e
      exact ⟨fun h => h.elim (fun h => hrz _ h rfl) (fun h => by omega), fun e => by have := HST.out.mp.lt; have := HS6.out; have := HS8.out; omega, _, heap_alloc _ HLR.out, rfl⟩)
    have hbi : W2.heap[W.heap.size]? = some (.cells [.int .i64 (x1 : Int)].toArray 3 (0, 0)) := hgr.heap (heap_new W _) (fun e => by injection e with e; omega)
    have hb2 := hgr.heap (heap_alloc (Obj.cells #[.int .i64 (x1 : Int)] 3) HBX.out) (fun e => by injection e with e; have := hrz _ (.inl HZ7.out.1); omega)
    have hk2 := hgr.heap (heap_alloc (Obj.cells #[.int .i64 (x1 : Int)] 3) HK.out) (fun e => by injection e with e; have := hrz _ (.inr rfl); omega)
    have hF2 : Fr A w W2 := (HF.out.trans hF1.no).grown hg (fun k e hk => by injection e with e; have := HF8.out.size; omega)
    have HST2 := Lib.hid hst2
    have HBI2 := Lib.hid hbi
    have HB2 := Lib.hid hb2
    have HK2 := Lib.hid hk2
    have HF2 := Lib.hid hF2
    have HLR2 := Lib.hid hlr2
    have hsW : W.heap.size < W2.heap.size := by have := hg.size; rw [hs1] at this; omega
    have HSW := Lib.hid (And.intro hsW (show w8.heap.size ≤ W.heap.size by omega))
    have kb := heap_cell (o := 0) hbi rfl
    clear hst2 hbi hb2 hk2 hF2 hlr2 hgr hrz hs1 hg hF1 HE1 hsW
    have hx2 := HRGl.out x1
    rw [← HXM.out.2.1] at hx2
    have hx1 := HXM.out.1
    have HPG : RowKit.Hid (Calls Tryd.prog 86 #[.int .i64 (x1 : Int), .int .i64 0] W2 fun e w' => e = .returned (.tuple #[.int .i64 (if x1 < 4 then (x1 : Int) * 32 else 0), .int .i64 (if x1 < 4 then 0 else 1)]) ∧ w' = W2) := Lib.hid (by
      have := page_calls x1 0 hx1 (by omega) W2
      simpa using this)
    have HX := Lib.hid (wmustbad_calls 60 W2)
    refine wpAt_block ?_
    by_cases hx4 : x1 < 4
    rotate_left
    · rw [if_neg hx4, if_neg hx4] at HPG
      have HX4 := Lib.hid hx4
      clear hx4
      refine wpAt_seq_k fun K hK => ?_
      gi_wp2_with (first
        | (gi_at_call 86; refine (CallsIn.inRound r (callsIn_wide.2 HPG.out)).mono ?_; rintro e w9 ⟨rfl, rfl⟩)
        | fail "arm")
      refine wpAt_seq_k fun K hK => ?_
      gi_wp2_with (first
        | (gi_at_call 81; refine (CallsIn.inRound r (callsIn_wide.2 HX.out)).mono ?_; rintro e w9 ⟨rfl, rfl⟩)
        | fail "arm")
      exact ⟨rfl, KeepsFrom.refl _ _, HTF.out _ (fold_prefix_none _ (leafS_none _ N) HPX.out _ (by rw [List.foldl_append, HFO.out]; simp [leafS, HX4.out])), rfl, HF2.out⟩
    · rw [if_pos hx4, if_pos hx4] at HPG
      have HX4 := Lib.hid hx4
      clear hx4
      refine wpAt_seq_k fun K hK => ?_
      gi_wp2_with (first
        | (gi_at_call 86; refine (CallsIn.inRound r (callsIn_wide.2 HPG.out)).mono ?_; rintro e w9 ⟨rfl, rfl⟩)
        | fail "arm")
      refine wpAt_seq_k fun K hK => ?_
      gi_wp2_with (first
        | (gi_at_call 81; refine (CallsIn.inRound r (callsIn_wide.2 (HM.out _ _))).mono ?_; rintro e w9 ⟨rfl, rfl⟩)
        | fail "arm")
      have HMT2 := Lib.hid (meet_calls HT.out HST2.out (by omega) x2 (-1) (by omega) (by omega))
      have k7 := heap_cell (o := 0) HB2.out rfl
      refine wpAt_seq_k fun K hK => ?_
      gi_wp2_with (first
        | (gi_at_call 83; refine (CallsIn.inRound r (callsIn_wide.2 HMT2.out)).mono ?_; rintro e w10 (⟨hok, rfl, A10, hst10, hF10, hG10⟩ | ⟨hok, rfl, hF10⟩))
        | fail "arm")
      rotate_left
      · exact ⟨rfl, HST2.out.keeps HT.out hF10 (by have := HS6.out; have := HS8.out; omega), HTF.out _ (fold_prefix_none _ (leafS_none _ N) HPX.out _ (by rw [List.foldl_append, HFO.out]; rw [List.foldl_cons, List.foldl_nil]; unfold leafS; rw [if_pos HX4.out, metS_bad hok, fold_metS_none])), rfl, fr_sts HF2.out hF10 HG.out (by omega)⟩
      have hxn : ((x2.toNat : Nat) : Int) = x2 := by have := hok.1; omega
      have hxl : x2.toNat < N := by have := hok.1; have := hok.2.1; omega
      have HRD2 : RowKit.Hid (Calls Tryd.prog 85 #[.pointer (some ⟨db, 0, none⟩), .int .i64 x2] w10 fun e w' => e = .returned (.agg (nds (ndB B x2.toNat)).toArray) ∧ Fr No w10 w') := Lib.hid (by
        have := wread_calls hst10.dk x2.toNat hxl
        rwa [hxn] at this)
      have HNL2 := Lib.hid (ndB_len B x2.toNat)
      have HRGm := Lib.hid (HRG.out x2.toNat)
      have HFO2 : RowKit.Hid (∀ r, (ents (ndB B x2.toNat)).foldl (fun o y => metS N o y.2 ((x1 : Int) * 32 + (y.1 : Int))) (some (s ++ [(x2, -1)])) = r → (pre ++ [(x1, x2)]).foldl (leafS (fun n => ndB B n.toNat) N) (some [(top, -1)]) = r) := Lib.hid (fun r hr => by
        rw [List.foldl_append, HFO.out]
        rw [List.foldl_cons, List.foldl_nil]
        unfold leafS
        rw [if_pos HX4.out, metS_ok hok]
        exact hr)
      have HF10 : RowKit.Hid (Fr A w w10) := Lib.hid (fr_sts HF2.out hF10 HG.out (by omega))
      have HG10 : RowKit.Hid (Gr7 w A A10) := Lib.hid (HG.out.then hG10 (by have := HF2.out.size; omega))
      have HKF10 : RowKit.Hid (KeepsFrom w8.heap.size w9 w10) := Lib.hid (HST2.out.keeps HT.out hF10 (by have := HS6.out; have := HS8.out; omega))
      have hzz : ∀ k, ((Z k ∨ k = w7.heap.size) ∨ k = W.heap.size) → ¬ StS A' (w.heap.size + 1 + 1) k := fun k hk e => e.elim (fun e => (HST2.out.za k e).1 hk) (fun e => HST2.out.zs.2.2.2.2 (e ▸ hk))
      have HB10 := Lib.hid (hF10.heap HB2.out (hzz _ (.inl (.inl HZ7.out.1))))
      have HBI10 := Lib.hid (hF10.heap HBI2.out (hzz _ (.inr rfl)))
      have HK10 := Lib.hid (hF10.heap HK2.out (hzz _ (.inl (.inr rfl))))
      have HST10 := Lib.hid hst10
      have hs910 := hF10.size
      have HS910 := Lib.hid hs910
      have k0 := heap_cell (o := 0) hst10.be rfl
      clear hst10 hF10 hG10 hok hxn hxl hzz k7 kb hs910
      generalize ndB B x2.toNat = l2 at *
      refine wpAt_seq_k fun K hK => ?_
      gi_wp2_with (first
        | (gi_at_call 85; refine (CallsIn.inRound r (callsIn_wide.2 HRD2.out)).mono ?_; rintro e w11 ⟨rfl, hF11⟩; have HF11 := Lib.hid hF11; clear hF11)
        | (gi_at_call 84; refine (CallsIn.inRound r (callsIn_wide.2 (entries_calls _ _))).mono ?_; rintro e w12 ⟨rfl, hw12⟩; have HW12 := Lib.hid hw12; clear hw12)
        | fail "arm")
      have hw12 := HW12.out
      have hF12 : Fr No w10 w12 := by rw [hw12]; exact HF11.out.alloc _
      have hbn2 : w12.heap[w11.heap.size]? = some (.cells (nds l2).toArray 99 (0, 0)) := by rw [hw12]; exact heap_new _ _
      have hs12 : w12.heap.size = w11.heap.size + 1 := by rw [hw12]; simp
      have hs1011 := HF11.out.size
      have HS12 := Lib.hid (And.intro hs12 hs1011)
      clear hw12 HW12
      have hst12 := HST10.out.addZ HT.out hF12 (b := w11.heap.size) hs1011 (by omega)
      have hkf12 : KeepsFrom w8.heap.size w9 w12 := HKF10.out.trans ⟨hF12.size, fun k o _ hk _ => hF12.heap hk (fun h => h)⟩
      have HZ12 : RowKit.Hid (∀ k, (((Z k ∨ k = w7.heap.size) ∨ k = W.heap.size) ∨ k = w11.heap.size) → k < w12.heap.size) := Lib.hid (fun k hk => hst12.zl k hk)
      have hb12 := hF12.heap HB10.out (fun h => h)
      have hbi12 := hF12.heap HBI10.out (fun h => h)
      have hk12 := hF12.heap HK10.out (fun h => h)
      have hF12w := HF10.out.trans hF12.no
      have hlr12 := hkf12.same r _ hr HLR2.out rfl
      clear hs12 hs1011
      refine wpAt_block ?_
      refine rangeP_inner Tryd.func72 (opens_wide.inRound r) (l₀ := r) (r₀ := lr2) rfl hlr12 (gf := 93) (lb := #[.pointer (some ⟨w11.heap.size, 0, none⟩)]) rfl (enters_of Tryd.func93 (by kernel_rfl) rfl)
        ((entries1_iter w11.heap.size l2 HNL2.out).inRound r) (fun x => rfl) ownFrom_heap hbn2
        (EaJ w w9 db N acts B tf tcap Tl (fun k => ((Z k ∨ k = w7.heap.size) ∨ k = W.heap.size) ∨ k = w11.heap.size) Ad A w8.heap.size W.heap.size w7.heap.size l x1 (s ++ [(x2, -1)]))
        (fun ch W3 => (treeS (fun n => ndB B n.toNat) N top = none ∧ ch = [{ v := .iface 154 (.agg #[.int .i64 60]), recovered := false }] ∧ Fr A w W3) ∧ KeepsFrom w8.heap.size w9 W3)
        ?hI2 ⟨_, A10, rfl, hst12, hF12w, HG10.out, by simp, hb12, hbi12, hk12, hkf12⟩ ?hround2 ?hdone2 ?hpanic2
      case hI2 =>
        rintro pre W3 W4 row ⟨s3, A3, g1, g2, g3, g4, g5, g6, g7, g8, g9⟩ hg hrw
        have hFr : Fr (fun k => row = some k) W3 W4 := (Fr.refl _ W3).grown hg (fun k e _ => e)
        have hz : ∀ k, (((Z k ∨ k = w7.heap.size) ∨ k = W.heap.size) ∨ k = w11.heap.size) → ¬ row = some k := fun k hk e => by have := (hrw k e).1; have := HZ12.out k hk; omega
        have hwz : w.heap.size + 5 ≤ w12.heap.size := by have := HZ12.out _ (.inr rfl); have := hF12w.size; have := HS6.out; have := HS8.out; have := HS910.out; have := HSW.out; have := HF11.out.size; omega
        exact ⟨s3, A3, g1, g2.grown2 HT.out hg (fun q e => ⟨fun hk => hz q hk e, fun e2 => by have := (hrw q e).1; omega, (hrw q e).2⟩), g3.grown hg (fun k e hk => by have := (hrw k e).1; omega), g4, g5, hFr.heap g6 (hz _ (.inl (.inl (.inl HZ7.out.1)))), hFr.heap g7 (hz _ (.inl (.inr rfl))), hFr.heap g8 (hz _ (.inl (.inl (.inr rfl)))), (ownFrom_keepsFrom (β := Unit) (B := w8.heap.size) (w₀ := w9) (B' := w12.heap.size) (by have := HS910.out; have := HF11.out.size; have := HS12.out.1; omega)) () W3 W4 row g9 hg hrw⟩
      case hdone2 =>
        rintro W3 ⟨⟨s3, A3, g1, g2, g3, g4, g5, g6, g7, g8, g9⟩, gk⟩
        refine ⟨g9, g8, s3, A3, HFO2.out _ g1, g2.monoZ (fun k hk => .inl (.inl hk)) ⟨HST.out.zs.1, HST.out.zs.2.1, HST.out.zs.2.2.1, HST.out.zs.2.2.2.1⟩, g3, g4, ?_, g6⟩
        have := ents_len l2
        simp at g5 ⊢
        omega
      case hpanic2 =>
        rintro ch W3 ⟨h1, h2⟩
        exact ⟨rfl, h2, h1⟩
      case hround2 =>
        rintro r2 pre2 y W3 hr2 ⟨lr3, hlr3⟩ hpx2 hJ hK3
        have hym := ents_mem (hpx2.subset (by simp : y ∈ pre2 ++ [y]))
        have hpl2 : pre2.length + 1 ≤ 32 := by have := hpx2.length_le; have := ents_len l2; simp at *; omega
        have HJ := Lib.hid hJ
        have HK3 := Lib.hid hK3
        have HPX2 := Lib.hid hpx2
        have HYM := Lib.hid hym
        clear hJ hK3 hpx2 hym hlr3
        obtain ⟨y1, y2⟩ := y
        gi_wp2
        refine ⟨KeepsFrom.refl _ _, HJ.out, HK3.out, ?_⟩
        intro W4 hg4 lr4 hlr4 hJ4 hK4
        obtain ⟨s3, A3, g1, g2, g3, g4, g5, g6, g7, g8, g9⟩ := hJ4
        have g6' : W4.heap[w.heap.size + 1 + 1 + 1 + 1]? = some (.cells [.func (.func 83) #[] #[.pointer (some ⟨w.heap.size + 1 + 1 + 1, 0, none⟩), .pointer (some ⟨w.heap.size, 0, none⟩), .pointer (some ⟨w.heap.size + 1, 0, none⟩)]].toArray 138 (0, 0)) := g6
        have k7 := heap_cell (o := 0) g6' rfl
        have kb := heap_cell (o := 0) g7 rfl
        have hy2 := HRGm.out y1
        rw [← HYM.out.2.1] at hy2
        have hy1 := HYM.out.1
        have hx4 := HX4.out
        have HPG2 : RowKit.Hid (Calls Tryd.prog 86 #[.int .i64 (x1 : Int), .int .i64 (y1 : Int)] W4 fun e w' => e = .returned (.tuple #[.int .i64 ((x1 : Int) * 32 + (y1 : Int)), .int .i64 0]) ∧ w' = W4) := Lib.hid (by
          have := page_calls x1 y1 hx1 hy1 W4
          rw [if_pos hx4, if_pos hx4] at this
          exact this)
        have HMT4 := Lib.hid (meet_calls HT.out g2 (by simp at g5; omega) y2 ((x1 : Int) * 32 + (y1 : Int)) (by omega) (by omega))
        have G1 := Lib.hid g1
        have G2 := Lib.hid g2
        have G3 := Lib.hid g3
        have G4 := Lib.hid g4
        have G6 := Lib.hid g6'
        have G7 := Lib.hid g7
        have G8 := Lib.hid g8
        have G9 := Lib.hid g9
        have GK := Lib.hid hK4
        clear g1 g2 g3 g4 g6 g6' g7 g8 g9 hK4 hg4 hlr4 hx4
        refine wpAt_block ?_
        refine wpAt_seq_k fun K hK => ?_
        gi_wp2_with (first
          | (gi_at_call 86; refine (CallsIn.inRound r2 (CallsIn.inRound r (callsIn_wide.2 HPG2.out))).mono ?_; rintro e w13 ⟨rfl, rfl⟩)
          | fail "arm")
        refine wpAt_of_in ?_
        gi_wp2_with (first
          | (gi_at_call 83; refine (CallsIn.inRound r2 (CallsIn.inRound r (callsIn_wide.2 HMT4.out))).mono ?_; rintro e w14 (⟨hok, rfl, A14, hst14, hF14, hG14⟩ | ⟨hok, rfl, hF14⟩))
          | fail "arm")
        · have hz : ∀ k, (((Z k ∨ k = w7.heap.size) ∨ k = W.heap.size) ∨ k = w11.heap.size) → ¬ StS A3 (w.heap.size + 1 + 1) k := fun k hk e => e.elim (fun e => (G2.out.za k e).1 hk) (fun e => G2.out.zs.2.2.2.2 (e ▸ hk))
          have hs6 := HS6.out
          have hs8 := HS8.out
          have hsW := HSW.out
          have hs9 := HS910.out
          have hs12 := HS12.out
          have hk14 := G2.out.keeps HT.out hF14 (b := w8.heap.size) (by omega)
          refine ⟨G2.out.keeps HT.out hF14 (by omega), hF14.heap GK.out (hz _ (.inr rfl)), _, A14, by rw [List.foldl_append, G1.out, List.foldl_cons, List.foldl_nil]; exact metS_ok hok _, hst14, fr_sts G3.out hF14 G4.out (by omega), G4.out.then hG14 G3.out.size, ?_, hF14.heap G6.out (hz _ (.inl (.inl (.inl HZ7.out.1)))), hF14.heap G7.out (hz _ (.inl (.inr rfl))), hF14.heap G8.out (hz _ (.inl (.inl (.inr rfl)))), G9.out.trans hk14⟩
          simp at g5 ⊢
          omega
        · have hs6 := HS6.out
          have hs8 := HS8.out
          have hsW := HSW.out
          have hs9 := HS910.out
          have hs12 := HS12.out
          refine ⟨rfl, G2.out.keeps HT.out hF14 (by omega), ⟨HTF.out _ (fold_prefix_none _ (leafS_none _ N) HPX.out _ (HFO2.out _ (fold_prefix_none _ (fun y => metS_none _ _ _) HPX2.out _ (by rw [List.foldl_append, G1.out, List.foldl_cons, List.foldl_nil]; exact metS_bad hok _)))), rfl, fr_sts G3.out hF14 G4.out (by omega)⟩, G9.out.trans (G2.out.keeps HT.out hF14 (by omega))⟩
end Go.Proofs.YtpcikbloflpahaaDoor
