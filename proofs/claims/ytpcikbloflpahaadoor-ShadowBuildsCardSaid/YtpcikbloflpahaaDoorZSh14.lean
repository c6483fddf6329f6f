/-
  Chapter 7: the plan of one change.
-/
import Derived.Test.YtpcikbloflpahaaDoorYO
namespace Go.Proofs.YtpcikbloflpahaaDoor
set_option linter.unusedVariables false
set_option linter.unusedSimpArgs false
open Go.RowKit Go.Shelf Go.Maps

/-- A page's bytes, as awake has them. -/
def data1 : List Int := (zs 64).set 5 9
theorem data1_len : data1.length = 64 := by decide
def L1 (bb : Nat) : List ChA := [(3, (some ⟨bb, 0, none⟩, 64, data1))]
theorem pages_L1 (bb : Nat) : pagesG (L1 bb) 128 = L1 bb := by kernel_rfl
theorem row_range07 {w : World} {B n sz : Nat} {r : Value} {cs : List Value} {t : TypeId} (h : w.ownsRow B t sz r n cs) (hne : cs ≠ []) : ∃ b cap, r = .slice (some ⟨b, 0, none⟩) n cap ∧ B ≤ b ∧ b < w.heap.size ∧ w.rangeAt b 0 cs ∧ n ≤ cap := by
  have hs := Sl.of_owns h
  have hlt := h.lt
  obtain ⟨h1, ⟨rfl, rfl⟩ | ⟨g, cap, cur, rfl, hg, hh, hn, hm, hc, ht⟩⟩ := h
  · simp at h1; subst h1; exact absurd rfl hne
  · obtain ⟨a, c, e1, h2, h3, h4⟩ := hs
    injection e1 with e1 e2 e3
    exact ⟨g, cap, rfl, (hlt g rfl).1, (hlt g rfl).2, fun j v hj => h4 g 0 j v e1.symm hj, by rw [e2, e3]; exact h2.2⟩

theorem merge1_calls {w : World} {ab bb : Nat} (h0 : w.cell? ⟨ab, 0, none⟩ = some (.int .i64 3)) (h1 : w.cell? ⟨ab, 1, none⟩ = some (.slice (some ⟨bb, 0, none⟩) 64 64)) (hr : w.rangeAt bb 0 (bys data1)) :
    Calls Tryd.prog 10 #[.slice (some ⟨ab, 0, none⟩) 1 1] w fun e w' => ∃ rb rc yb yc, e = .returned (.tuple #[.slice (some ⟨rb, 0, none⟩) 1 rc, .int .i64 0]) ∧ Fr No w w' ∧ (w.heap.size ≤ rb ∧ rb < w'.heap.size) ∧ (w.heap.size ≤ yb ∧ yb < w'.heap.size) ∧ w'.cell? ⟨rb, 0, none⟩ = some (.int .i64 3) ∧ w'.cell? ⟨rb, 1, none⟩ = some (.slice (some ⟨yb, 0, none⟩) 64 yc) ∧ w'.rangeAt yb 0 (bys data1) ∧ 64 ≤ yc := by
  have hgood : ∀ y ∈ L1 bb, goodC y := by
    intro y hy
    simp only [L1, List.mem_singleton] at hy
    subst hy
    exact ⟨(by decide : (0 : Int) ≤ 3), (by decide : (3 : Int) < 128), data1_len⟩
  refine (merge_calls (.slice (some ⟨ab, 0, none⟩) 1 1) (L1 bb) w ?_ ?_ (by simp [L1])).mono ?_
  · refine ⟨_, _, rfl, ⟨by simp, by simp [L1]⟩, fun _ => ⟨_, _, rfl⟩, ?_⟩
    rintro b off j u he hj
    injection he with he
    injection he with e1 e2
    subst e1; subst e2
    simp only [L1, List.flatMap_cons, List.flatMap_nil, List.append_nil, chaC, bytC] at hj
    match j, hj with
    | 0, hj => simp at hj; subst hj; exact h0
    | 1, hj => simp at hj; subst hj; rw [data1_len]; exact h1
    | j + 2, hj => simp at hj
  · intro y hy
    simp only [L1, List.mem_singleton] at hy
    subst hy
    refine ⟨(by decide : (-9223372036854775808 : Int) ≤ 3 ∧ (3 : Int) ≤ 9223372036854775807), ⟨_, _, rfl, ⟨by simp, (by decide : data1.length ≤ 64)⟩, fun _ => ⟨_, _, rfl⟩, ?_⟩, (by decide : data1.length ≤ 140737488355328), (by decide : ∀ b ∈ data1, 0 ≤ b ∧ b < 256)⟩
    rintro b off j u he hj
    injection he with he
    injection he with e1 e2
    subst e1; subst e2
    exact hr j u hj
  · rintro e w' (⟨-, r, vs, rfl, hF, hown, hl, hvs⟩ | ⟨⟨y, hy, hb⟩, -⟩)
    · rw [pages_L1] at hown hl hvs
      simp only [outG, L1, List.map_cons, List.map_nil, List.length_cons, List.length_nil] at hl hvs
      match vs, hl with
      | [(p, v)], _ =>
        have := hvs 0 (by simp) (by simp)
        simp only [List.getElem_cons_zero] at this
        obtain ⟨e1, e2⟩ := this
        obtain rfl : p = 3 := e1
        obtain ⟨rb, rc, rfl, q1, q2, q3, -⟩ := row_range07 hown (by simp [chgCells])
        obtain ⟨yb, yc, rfl, q4, q5, q6, q7⟩ := row_range07 e2 (by intro e; have := congrArg List.length e; simp [bys, data1_len] at this)
        rw [data1_len] at q3
        exact ⟨rb, rc, yb, yc, rfl, hF, ⟨q1, q2⟩, ⟨q4, q5⟩, by have := q3 0 _ rfl; simpa using this, by have := q3 1 _ rfl; simpa using this, q6, by simpa [data1_len] using q7⟩
    · exact absurd (hgood y hy) hb

/-- A plan's block. -/
def PlC (pv : Value) (tn : List Int) (lm : Nat) (old : Int) (sm : Bool) : List Value := pv :: (nds tn ++ [.map (some lm), .int .i64 old, .bool sm])
theorem built_plan (lm : Nat) : Tryd.prog.built 129 [(1, .agg (nds nd0).toArray), (2, .map (some lm)), (3, .int .i64 0), (4, .bool false)] = some (PlC (.slice none 0 0) nd0 lm 0 false).toArray := by kernel_rfl
def tnA : List Int := nd0.set 0 (-1)
def lfA : List Int := nd0.set 3 (-1)
theorem eq_nd0_no {l : List Int} (h : l = tnA ∨ l = lfA ∨ l = tnA.set 0 3) (w : World) : (binOp .eql 99 (.agg (nds l).toArray) (.agg (nds nd0).toArray)).run Tryd.prog w = .ok (.bool false) w := by
  rcases h with rfl | rfl | rfl <;> kernel_rfl

theorem path3_calls (w : World) : Calls Tryd.prog 33 #[.int .i64 3] w fun e w' => e = .returned (.tuple #[.int .i64 0, .int .i64 3, .int .i64 0]) ∧ w = w' := path_calls 3 w
theorem blank1_calls {w : World} {yb yc : Nat} (hr : w.rangeAt yb 0 (bys data1)) (hc : 64 ≤ yc) : Calls Tryd.prog 59 #[.slice (some ⟨yb, 0, none⟩) 64 yc] w fun e w' => e = .returned (.bool false) ∧ w = w' := by
  refine blank_no _ data1 w (by decide) ⟨9, by decide, by decide⟩ ⟨_, _, rfl, ⟨by simp, hc⟩, fun _ => ⟨_, _, rfl⟩, ?_⟩
  rintro b off j u he hj
  injection he with he
  injection he with e1 e2
  subst e1; subst e2
  exact hr j u hj
theorem build_plan {ops : Array Oper} {rest : List Oper} {o : Oper} {a : Act} {w : World} {Q : Exit → Act → World → Prop} (hg : o.guard = none) (x1 x2 x3 x4 : Operand) (ho : o.op = .build 129 #[(1, x1), (2, x2), (3, x3), (4, x4)]) (lm : Nat) (h1 : a.eval x1 = .agg (nds nd0).toArray) (h2 : a.eval x2 = .map (some lm)) (h3 : a.eval x3 = .int .i64 0) (h4 : a.eval x4 = .bool false)
    (hK : wpList Tryd.prog ops Q rest (a.put o.dst (.agg (PlC (.slice none 0 0) nd0 lm 0 false).toArray)) w) : wpList Tryd.prog ops Q (o :: rest) a w := by
  have hr : (Instr.build 129 #[(1, .agg (nds nd0).toArray), (2, .map (some lm)), (3, .int .i64 0), (4, .bool false)]).run Tryd.prog w = .ok (.agg (PlC (.slice none 0 0) nd0 lm 0 false).toArray) w := run_build w _ _ _ (built_plan lm)
  refine wpList_plain hg fun K' hK' => ?_
  unfold Oper.wp
  have hm : (#[((1 : Nat), x1), (2, x2), (3, x3), (4, x4)] : Array (Nat × Operand)).map (fun x => (x.1, a.eval x.2)) = #[(1, a.eval x1), (2, a.eval x2), (3, a.eval x3), (4, a.eval x4)] := by simp
  simp only [execOp, ho, Sem.run_bind, hm, h1, h2, h3, h4, hr, Result.andThen]
  exact hK' _ _ hK

theorem heap_setMid7 {w : World} {b : Nat} {pre cs post : List Value} {t : TypeId} (h : w.heap[b]? = some (.cells (pre ++ (cs ++ post)).toArray t (0, 0))) (vs : List Value) (hl : cs.length = vs.length) : (w.setCells b pre.length vs).heap[b]? = some (.cells (pre ++ (vs ++ post)).toArray t (0, 0)) := by
  induction vs generalizing pre cs w with
  | nil => obtain rfl := List.length_eq_zero_iff.1 hl; exact h
  | cons v vs ih =>
    cases cs with
    | nil => simp at hl
    | cons c cs =>
      have h1 := heap_setAt7 h pre.length v
      rw [List.set_append_right _ _ (Nat.le_refl _), Nat.sub_self, List.cons_append, List.set_cons_zero] at h1
      have h2 := ih (pre := pre ++ [v]) (cs := cs) (w := w.setCell ⟨b, pre.length, none⟩ v) (by rw [List.append_assoc]; exact h1) (by simpa using hl)
      rw [List.length_append, List.append_assoc] at h2
      exact h2
theorem plan_nd {w : World} {pb lm : Nat} {pv : Value} {tn : List Int} {old : Int} {sm : Bool} (h : w.heap[pb]? = some (.cells (PlC pv tn lm old sm).toArray 129 (0, 0))) (hl : tn.length = 32) : NdAt w pb 1 tn := by
  refine ⟨hl, fun j v hj => ?_, fun j hj => ?_⟩
  · refine heap_cell h ?_
    have hj' : j < (nds tn).length := (List.getElem?_eq_some_iff.1 hj).1
    rw [List.getElem?_toArray, PlC, Nat.add_comm, List.getElem?_cons_succ, List.getElem?_append_left hj']
    exact hj
  · have hj' : j < (nds tn).length := by rw [nds_len, hl]; exact hj
    refine ⟨?_, heap_frozen h⟩
    rw [heap_cell h (v := (nds tn)[j]) (by rw [List.getElem?_toArray, PlC, Nat.add_comm, List.getElem?_cons_succ, List.getElem?_append_left hj']; exact List.getElem?_eq_getElem hj')]
    rfl
theorem plan_set {w : World} {pb lm : Nat} {pv : Value} {tn tn' : List Int} {old : Int} {sm : Bool} (h : w.heap[pb]? = some (.cells (PlC pv tn lm old sm).toArray 129 (0, 0))) (hl : tn.length = tn'.length) : (w.setCells pb 1 (nds tn')).heap[pb]? = some (.cells (PlC pv tn' lm old sm).toArray 129 (0, 0)) :=
  heap_setMid7 (pre := [pv]) (cs := nds tn) h (nds tn') (by rw [nds_len, nds_len, hl])
def PlS (w : World) (pb lm b11 b15 yb yc : Nat) (wx : World) : Prop :=
  (∃ gb gc, wx.heap[pb]? = some (.cells (PlC (.slice (some ⟨gb, 0, none⟩) 1 gc) nd0 lm 0 false).toArray 129 (0, 0)) ∧ b11 ≤ gb ∧ gb < wx.heap.size ∧ wx.rangeAt gb 0 [.int .i64 3, .slice (some ⟨yb, 0, none⟩) 64 yc]) ∧
  MapAt Tryd.prog 3 wx lm 0 (fun _ => none) ∧ wx.heap[b15]? = some (.cells (nds nd0).toArray 99 (0, 0)) ∧ wx.rangeAt yb 0 (bys data1) ∧ Fr No w wx
def f1 (l : List Int) : Int → Option Value := upd (fun _ => none) 0 (some (.agg (nds l).toArray))
theorem f1_at (l : List Int) : f1 l 0 = some (.agg (nds l).toArray) := upd_same _ _ _
theorem f1_one {l : List Int} {i : Int} (h : (f1 l i).isSome = true) : i = 0 := by
  unfold f1 upd at h
  split at h
  · assumption
  · simp at h
/-- The plan of awake's change; blocks from n on. -/
structure PlAt (n : Nat) (wx : World) (pb lm gb gc yb yc : Nat) (tn lf : List Int) : Prop where
  box : wx.heap[pb]? = some (.cells (PlC (.slice (some ⟨gb, 0, none⟩) 1 gc) tn lm 0 false).toArray 129 (0, 0))
  map : MapAt Tryd.prog 3 wx lm 1 (f1 lf)
  g : wx.rangeAt gb 0 [.int .i64 3, .slice (some ⟨yb, 0, none⟩) 64 yc]
  y : wx.rangeAt yb 0 (bys data1)
  n1 : n ≤ pb
  n2 : n ≤ lm
  n3 : n ≤ gb
  n4 : n ≤ yb
  n5 : gb < wx.heap.size
  n6 : yb < wx.heap.size
  d1 : gb ≠ pb
  d2 : yb ≠ pb
  d3 : gb ≠ lm
  d4 : yb ≠ lm
  yc : 64 ≤ yc
theorem alloc_nd7 {ops : Array Oper} {rest : List Oper} {o : Oper} {a : Act} {w : World} {Q : Exit → Act → World → Prop} (b : Nat) (hb : w.heap.size = b) (hg : o.guard = none) (ho : o.op = .alloc 99)
    (hK : wpList Tryd.prog ops Q rest (a.put o.dst (.pointer (some ⟨b, 0, none⟩))) (w.alloc (.cells (nds nd0).toArray 99))) : wpList Tryd.prog ops Q (o :: rest) a w := by
  subst hb; exact alloc_nd hg ho hK
set_option maxHeartbeats 8000000 in
set_option maxRecDepth 1000000 in
theorem planned_calls {w : World} {db : Nat} {A : Nat → Prop} {acts : Nat} (h : DkAt w db A acts) {ab bb : Nat} (h0 : w.cell? ⟨ab, 0, none⟩ = some (.int .i64 3)) (h1 : w.cell? ⟨ab, 1, none⟩ = some (.slice (some ⟨bb, 0, none⟩) 64 64)) (hr : w.rangeAt bb 0 (bys data1)) :
    Calls Tryd.prog 36 #[.pointer (some ⟨db, 0, none⟩), .int .i64 0, .slice (some ⟨ab, 0, none⟩) 1 1] w fun e w' => ∃ pb lm gb gc yb yc, e = .returned (.pointer (some ⟨pb, 0, none⟩)) ∧ PlAt w.heap.size w' pb lm gb gc yb yc tnA lfA ∧ Fr No w w' := by
  have hmm : ∀ w : World, (Instr.makeMap 127 none).run Tryd.prog w = .ok (.map (some w.heap.size)) (w.alloc (.map #[] 0)) := fun _ => rfl
  have hz : ∀ w : World, (zeroValue 99).run Tryd.prog w = .ok (.agg (nds nd0).toArray) w := fun _ => by kernel_rfl
  have HM := Lib.hid (merge1_calls h0 h1 hr)
  have HMU := Lib.hid must_calls
  have HD := Lib.hid h
  have HPA := Lib.hid path3_calls
  have HRE := Lib.hid sread0_calls
  clear h h0 h1 hr
  go_enter Tryd.func36, Tryd.ntmps36
  go_wp2_with fail
  refine HM.out.mono ?_
  rintro e w1 ⟨rb, rc, yb, yc, rfl, hF1, hrb, hyb, g0, g1, gr, hyc⟩
  have HF1 := Lib.hid hF1
  clear hF1
  go_wp2_with fail
  refine (HMU.out _).mono ?_
  rintro e w2 ⟨rfl, rfl⟩
  go_wp2_with fail
  refine (reach0_calls (HD.out.fr0 HF1.out)).mono ?_
  rintro e w2 ⟨rfl, hF2⟩
  have HF2 := Lib.hid (HF1.out.trans hF2)
  have g0 := hF2.cell g0 (fun h => h)
  have g1 := hF2.cell g1 (fun h => h)
  have gr : w2.rangeAt yb 0 (bys data1) := fun j v hj => hF2.cell (gr j v hj) (fun h => h)
  have hrb : w.heap.size ≤ rb ∧ rb < w2.heap.size := ⟨hrb.1, Nat.lt_of_lt_of_le hrb.2 hF2.size⟩
  have hyb : w.heap.size ≤ yb ∧ yb < w2.heap.size := ⟨hyb.1, Nat.lt_of_lt_of_le hyb.2 hF2.size⟩
  clear hF2 HF1
  go_wp2_with fail
  refine (HMU.out _).mono ?_
  rintro e w3 ⟨rfl, rfl⟩
  go_wp2_with fail
  refine (HRE.out _ _).mono ?_
  rintro e w3 ⟨rfl, hF3⟩
  have HF3 := Lib.hid (HF2.out.trans hF3)
  have g0 := hF3.cell g0 (fun h => h)
  have g1 := hF3.cell g1 (fun h => h)
  have gr : w3.rangeAt yb 0 (bys data1) := fun j v hj => hF3.cell (gr j v hj) (fun h => h)
  have hrb : w.heap.size ≤ rb ∧ rb < w3.heap.size := ⟨hrb.1, Nat.lt_of_lt_of_le hrb.2 hF3.size⟩
  have hyb : w.heap.size ≤ yb ∧ yb < w3.heap.size := ⟨hyb.1, Nat.lt_of_lt_of_le hyb.2 hF3.size⟩
  clear hF3 HF2
  have HGR := Lib.hid gr
  clear gr
  go_wp2_with (first
    | (refine build_plan rfl _ _ _ _ rfl w3.heap.size rfl rfl rfl rfl ?_)
    | fail "arm")
  generalize hW : ((w3.alloc (Obj.map #[] 0)).alloc (Obj.cells (PlC (.slice none 0 0) nd0 w3.heap.size 0 false).toArray 129)) = W4
  have hF4 : Fr No w3 W4 := by rw [← hW]; exact ((Fr.refl No w3).alloc _).alloc _
  have hs4 : W4.heap.size = w3.heap.size + 2 := by rw [← hW]; simp
  have hb4 : W4.heap[w3.heap.size + 1]? = some (.cells (PlC (.slice none 0 0) nd0 w3.heap.size 0 false).toArray 129 (0, 0)) := by rw [← hW]; exact heap_new2_7 w3 _ _
  have hm4 : MapAt Tryd.prog 3 W4 w3.heap.size 0 (fun _ => none) := by rw [← hW]; exact (MapAt.made _ _ w3).fr ((Fr.refl No _).alloc _) (fun h => h)
  have g0 := hF4.cell g0 (fun h => h)
  have g1 := hF4.cell g1 (fun h => h)
  have HGR := Lib.hid (show W4.rangeAt yb 0 (bys data1) from fun j v hj => hF4.cell (HGR.out j v hj) (fun h => h))
  have HF4 := Lib.hid (HF3.out.trans hF4)
  have HB4 := Lib.hid hb4
  have HM4 := Lib.hid hm4
  have hs3 := HF3.out.size
  have HYC := Lib.hid hyc
  clear hb4 hm4 hF4 hW HF3 hyc
  have HRB := Lib.hid hrb
  have HYB := Lib.hid hyb
  clear hrb hyb
  generalize hlm : w3.heap.size = lm at *
  generalize hpb : lm + 1 = pb at *
  have HS3 := Lib.hid hs3
  have HLM := Lib.hid hpb
  have HS4 := Lib.hid hs4
  have hpl : pb < W4.heap.size := by omega
  have hll : lm < W4.heap.size := by omega
  clear hlm hpb hs4 hs3
  have k0 : W4.cell? ⟨pb, 0, none⟩ = some (.slice none 0 0) := heap_cell (o := 0) HB4.out rfl
  have k1 : W4.cell? ⟨pb, 1, none⟩ = some (.int .i64 0) := heap_cell (o := 1) HB4.out rfl
  have k33 : W4.cell? ⟨pb, 33, none⟩ = some (.map (some lm)) := heap_cell (o := 33) HB4.out rfl
  have hlk := ((HM4.out.fr ((Fr.refl No W4).alloc (Obj.cells #[.int .i64 3, .slice (some ⟨yb, 0, none⟩) 64 yc] 32)) (fun h => h)).look Tryd.underlying3 Tryd.underlying127 (hz _) 0 (by decide)).1
  simp only [Option.getD_none, Option.isSome_none] at hlk
  have HB11 := Lib.hid (heap_new W4 (Obj.cells #[.int .i64 3, .slice (some ⟨yb, 0, none⟩) 64 yc] 32))
  have HB15 := Lib.hid (heap_new2_7 W4 (Obj.cells #[.int .i64 3, .slice (some ⟨yb, 0, none⟩) 64 yc] 32) (Obj.cells (nds nd0).toArray 99))
  have HF5 : RowKit.Hid (Fr No W4 ((W4.alloc (Obj.cells #[.int .i64 3, .slice (some ⟨yb, 0, none⟩) 64 yc] 32)).alloc (Obj.cells (nds nd0).toArray 99))) := Lib.hid (((Fr.refl No W4).alloc _).alloc _)
  have HN15 := Lib.hid (heap_nd HB15.out nd0_len)
  refine wp_loop_rounds 2 ?_
  rw [rounds_succ]
  go_wp2_with fail
  refine (HPA.out _).mono ?_
  rintro e w5 ⟨rfl, rfl⟩
  go_wp2_with (first
    | (refine alloc_nd7 (W4.heap.size + 1) (by simp) rfl rfl ?_)
    | (refine store_nd rfl _ _ rfl (W4.heap.size + 1) 0 nd0 rfl rfl nd0_len HN15.out.2.2 ?_; intro hF6; have HB6 := Lib.hid (heap_setCells7 HB15.out (nds nd0) rfl); have HC6 := Lib.hid (hF6.heap (heap_alloc _ HB11.out) (fun e => by omega)); have HF6 := Lib.hid (HF5.out.trans' hF6 (fun i hi e => by have := HS4.out; omega)); clear hF6; generalize World.setCells ((W4.alloc (Obj.cells #[.int .i64 3, .slice (some ⟨yb, 0, none⟩) 64 yc] 32)).alloc (Obj.cells (nds nd0).toArray 99)) (W4.heap.size + 1) 0 (nds nd0) = W6 at *; have k1 := HF6.out.cell k1 (fun h => h))
    | fail "arm")
  refine (HRE.out _ _).mono ?_
  rintro e W7 ⟨rfl, hF7⟩
  have HB7 := Lib.hid (hF7.heap HB6.out (fun h => h))
  have HC7 := Lib.hid (hF7.heap HC6.out (fun h => h))
  have HF7 := Lib.hid (HF6.out.trans hF7)
  have HN7 := Lib.hid (heap_nd HB7.out nd0_len)
  clear hF7 k1 k33 hlk g0 g1 HB6 HC6 HF6 HB15 HB11 HN15 HF5
  go_wp2_with (first
    | (refine store_nd rfl _ _ rfl (W4.heap.size + 1) 0 nd0 rfl rfl nd0_len HN7.out.2.2 ?_; intro hF8; have HB8 := Lib.hid (heap_setCells7 HB7.out (nds nd0) rfl); have HC8 := Lib.hid (hF8.heap HC7.out (fun e => by omega)); have HF8 := Lib.hid (HF7.out.trans' hF8 (fun i hi e => by omega)); clear hF8; generalize World.setCells W7 (W4.heap.size + 1) 0 (nds nd0) = W8 at *; have k11 := heap_cell (o := 1) HC8.out rfl; have k10 := heap_cell (o := 0) HC8.out rfl)
    | fail "arm")
  refine (blank1_calls (fun j v hj => HF8.out.cell (HGR.out j v hj) (fun h => h)) HYC.out).mono ?_
  rintro e w9 ⟨rfl, rfl⟩
  have k0 : W8.cell? ⟨pb, 0, none⟩ = some (.slice none 0 0) := heap_cell (o := 0) (HF8.out.heap HB4.out (fun h => h)) rfl
  go_upto_region 16 with fail
  have k0d : W8.drew.cell? ⟨pb, 0, none⟩ = some (.slice none 0 0) := k0
  have k10d : W8.drew.cell? ⟨W4.heap.size, 0, none⟩ = some (.int .i64 3) := k10
  have k11d : W8.drew.cell? ⟨W4.heap.size, 1, none⟩ = some (.slice (some ⟨yb, 0, none⟩) 64 yc) := k11
  have k0e : (W8.alloc (Obj.cells #[.int .i64 3, .slice (some ⟨yb, 0, none⟩) 64 yc] 32)).cell? ⟨pb, 0, none⟩ = some (.slice none 0 0) := ((Fr.refl No W8).alloc _).cell k0 (fun h => h)
  have HB8p := Lib.hid (HF8.out.heap HB4.out (fun h => h))
  have HS8 : RowKit.Hid (W4.heap.size ≤ (W8.drew.alloc (Obj.cells #[.int .i64 3, .slice (some ⟨yb, 0, none⟩) 64 yc] 32)).heap.size) := Lib.hid (Nat.le_trans HF8.out.size ((Fr.refl No W8).drew.alloc _).size)
  go_cut [] (fun wx => PlS w pb lm W4.heap.size (W4.heap.size + 1) yb yc wx)
  case first =>
    go_region_law (refine step_append_sl el_chg rfl _ _ rfl W4.heap.size (.slice none 0 0) 0 [] rfl (World.ownsRow_nil _ _ _ _) rfl (sl_new7 W8.drew [.int .i64 3, .slice (some ⟨yb, 0, none⟩) 64 yc] _ 1 (by simp) (by omega)) rfl (fun u hu => by simp at hu; rcases hu with rfl | rfl <;> rfl) (by unfold maxLen; omega) (by omega) HS8.out ?_; intro a9 n9 c9 w9 hown9 hgrow9 hlie9; have hF9 : Fr No W8 w9 := ((Fr.refl No W8).drew.alloc _).trans' (fr_grown7 hgrow9) (fun i hi e => by cases e); have k9 := heap_cell (o := 0) (hF9.heap HB8p.out (fun h => h)) rfl; have f9 := heap_frozen (o := 0) (hF9.heap HB8p.out (fun h => h)))
    all_goals (
      obtain ⟨gb, gc, e9, q1, q2, q3, -⟩ := row_range07 hown9 (by simp)
      injection e9 with e9 e10 e11
      subst e9; subst e10; subst e11
      have hF10 : Fr (fun k => k = pb) w9 (w9.setCell ⟨pb, 0, none⟩ (.slice (some ⟨gb, 0, none⟩) 1 c9)) := (Fr.refl (fun k => k = pb) w9).setCell (p := ⟨pb, 0, none⟩) (fun _ => rfl) _
      go_wp2_with fail
      go_meet
      refine ⟨⟨gb, c9, heap_setAt7 (hF9.heap HB8p.out (fun h => h)) 0 _, q1, Nat.lt_of_lt_of_le q2 hF10.size, fun j v hj => hF10.cell (q3 j v hj) (fun e => by omega)⟩, (((HM4.out.fr HF8.out (fun h => h)).fr hF9 (fun h => h)).fr hF10 (fun (e : lm = pb) => by have := HLM.out; omega)), hF10.heap (hF9.heap HB8.out (fun h => h)) (fun e => by omega), fun j v hj => hF10.cell (hF9.cell (HF8.out.cell (HGR.out j v hj) (fun h => h)) (fun h => h)) (fun (e : yb = pb) => by have := HYB.out; have := HLM.out; omega), ?_⟩
      have := HLM.out; have := HS3.out
      exact ((HF4.out.trans HF8.out).trans hF9).trans' hF10 (fun i hi e => by omega))
  case rest =>
    obtain ⟨⟨gb, gc, hbx, hg1, hg2, hgr⟩, hmx, hb15, hyr, hFx⟩ := hcut
    have hnr : wc.drew.rangeAt (W4.heap.size + 1) 0 (nds nd0) := fun j v hj => by rw [Nat.zero_add]; exact heap_cell (w := wc) hb15 (by simpa using hj)
    have k33 : wc.drew.cell? ⟨pb, 33, none⟩ = some (.map (some lm)) := heap_cell (w := wc) (o := 33) hbx rfl
    have HBX := Lib.hid hbx
    have HG := Lib.hid (And.intro hg1 (And.intro hg2 hgr))
    have HMX := Lib.hid hmx
    have HB15 := Lib.hid hb15
    have HYR := Lib.hid hyr
    have HFX := Lib.hid hFx
    have HSZ := Lib.hid (show (Tryd.prog.info? 99).map (·.size) = some (nds nd0).length by rw [size_nd]; rfl)
    have HW : RowKit.Hid (∀ w1 : World, Calls Tryd.prog 60 #[.agg (nds nd0).toArray, .int .i64 3, .int .i64 (-1)] w1 fun e w' => e = .returned (.agg (nds lfA).toArray) ∧ Fr No w1 w') := Lib.hid (fun w1 => swith_calls nd0 nd0_len 3 (by omega) (-1) w1)
    have HW0 : RowKit.Hid (∀ w1 : World, Calls Tryd.prog 60 #[.agg (nds nd0).toArray, .int .i64 0, .int .i64 (-1)] w1 fun e w' => e = .returned (.agg (nds tnA).toArray) ∧ Fr No w1 w') := Lib.hid (fun w1 => swith_calls nd0 nd0_len 0 (by omega) (-1) w1)
    clear hbx hg1 hg2 hgr hmx hb15 hyr hFx k0 k10 k11 k0d k10d k11d k0e HS8 HB8p
    go_upto_region 17 with fail
    refine wp_region_held_drew (S := (fun w' => w'.cell? ⟨pb, 33, none⟩ = some (.map (some lm)) ∧ w'.rangeAt (W4.heap.size + 1) 0 (nds nd0))) (by kernel_rfl) ⟨k33, hnr⟩ (fun hS0 => ?_)
    refine take_at7 (i := 0) (d := some 92) (v := ?_) rfl rfl (by kernel_rfl) (by kernel_rfl) (by kernel_rfl) (fun _ _ _ h => h) (Or.inl ⟨by rfl, ?_⟩) (by assumption) ?_
    rotate_left
    · intro w hSw; go_simp; try (with_reducible rfl)
    try simp only [Act.put, List.setIfInBounds_toArray, List.set_cons_zero, List.set_cons_succ]
    refine take_at7 (i := 1) (d := some 93) (v := ?_) rfl rfl (by kernel_rfl) (by kernel_rfl) (by kernel_rfl) (fun _ _ _ h => h) (Or.inl ⟨by rfl, ?_⟩) (by assumption) ?_
    rotate_left
    · intro w hSw; go_simp; try (with_reducible rfl)
    try simp only [Act.put, List.setIfInBounds_toArray, List.set_cons_zero, List.set_cons_succ]
    refine take_at7 (i := 2) (d := some 94) (v := ?_) rfl rfl (by kernel_rfl) (by kernel_rfl) (by kernel_rfl) (fun _ _ _ h => h) (Or.inl ⟨by rfl, ?_⟩) (by assumption) ?_
    rotate_left
    · intro w hSw; go_simp; try (with_reducible rfl)
    try simp only [Act.put, List.setIfInBounds_toArray, List.set_cons_zero, List.set_cons_succ]
    refine take_at7 (i := 3) (d := some 95) (v := ?_) rfl rfl (by kernel_rfl) (by kernel_rfl) (by kernel_rfl) (fun _ _ _ h => h) (Or.inl ⟨by rfl, ?_⟩) (by assumption) ?_
    rotate_left
    · intro w hSw; go_simp; try (with_reducible rfl)
    try simp only [Act.put, List.setIfInBounds_toArray, List.set_cons_zero, List.set_cons_succ]
    refine take_at7 (i := 4) (d := some 96) (v := ?_) rfl rfl (by kernel_rfl) (by kernel_rfl) (by kernel_rfl) (fun _ _ _ h => h) (Or.inl ⟨by rfl, ?_⟩) (by assumption) ?_
    rotate_left
    · intro w hSw; go_simp; try (with_reducible rfl)
    try simp only [Act.put, List.setIfInBounds_toArray, List.set_cons_zero, List.set_cons_succ]
    refine take_at7 (i := 5) (d := some 97) (v := .agg (nds nd0).toArray) rfl rfl (by kernel_rfl) (by kernel_rfl) (by kernel_rfl) (fun _ _ _ h => h) (yieldsIf_load_mid (by rfl) _ _ rfl (W4.heap.size + 1) 0 rfl (nds nd0) _ (fun _ h => h.2) Tryd.underlying99 rfl HSZ.out) (by assumption) ?_
    try simp only [Act.put, List.setIfInBounds_toArray, List.set_cons_zero, List.set_cons_succ]
    refine take_at7 (i := 6) (d := some 98) (v := ?_) rfl rfl (by kernel_rfl) (by kernel_rfl) (by kernel_rfl) (fun _ _ _ h => h) (Or.inl ⟨by rfl, ?_⟩) (by assumption) ?_
    rotate_left
    · intro w hSw; go_simp; try (with_reducible rfl)
    try simp only [Act.put, List.setIfInBounds_toArray, List.set_cons_zero, List.set_cons_succ]
    refine take_at7 (i := 7) (d := some 99) (v := ?_) rfl rfl (by kernel_rfl) (by kernel_rfl) (by kernel_rfl) (fun _ _ _ h => h) (Or.inl ⟨by rfl, ?_⟩) (by assumption) ?_
    rotate_left
    · intro w hSw; go_simp; try (with_reducible rfl)
    try simp only [Act.put, List.setIfInBounds_toArray, List.set_cons_zero, List.set_cons_succ]
    refine one_H7 (i := 8) (d := some 100) rfl rfl rfl (by kernel_rfl) (fun K hK => ?_)
    go_simp
    (go_at_call 60; ((with_reducible refine (HW.out _).mono ?_); rintro e w10 ⟨rfl, hF10⟩))
    refine hK.out _ _ ⟨hF10.cell k33 (fun h => h), fun j v hj => hF10.cell (hnr j v hj) (fun h => h)⟩ (fun hHeld => ?_)
    clear hK K
    try simp only [Act.put, List.setIfInBounds_toArray, List.set_cons_zero, List.set_cons_succ]
    have hFx10 : Fr No wc w10 := ((Fr.refl No wc).drew).trans hF10
    refine one_H7 (i := 9) (d := none) rfl rfl rfl (by kernel_rfl) (fun K hK => ?_)
    refine (wp_map_put7 (.tmp 95) (.tmp 96) (.tmp 100) 127 rfl rfl (HMX.out.fr hFx10 (fun h => h)) Tryd.underlying3 Tryd.underlying127 (by unfold maxLen; omega) 0 (by omega) (.agg (nds lfA).toArray) rfl rfl ?_)
    intro w11 hmap11 hF11
    have hnl : pb ≠ lm := by have := HLM.out; omega
    have hnl2 : W4.heap.size + 1 ≠ lm := by omega
    refine hK.out _ _ ⟨hF11.cell (hF10.cell k33 (fun h => h)) hnl, fun j v hj => hF11.cell (hF10.cell (hnr j v hj) (fun h => h)) hnl2⟩ (fun hHeld => ?_)
    clear hK K
    try simp only [Act.put, List.setIfInBounds_toArray, List.set_cons_zero, List.set_cons_succ]
    refine wpAnyH_done (by kernel_rfl) ?_ _
    have hFx11 : Fr (fun k => k = lm) wc w11 := hFx10.no.trans hF11
    have HM11 : RowKit.Hid (MapAt Tryd.prog 3 w11 lm 1 (f1 lfA)) := Lib.hid hmap11
    have HB11 := Lib.hid (hFx11.heap HBX.out hnl)
    have HG11 : RowKit.Hid (W4.heap.size ≤ gb ∧ gb < w11.heap.size ∧ w11.rangeAt gb 0 [.int .i64 3, .slice (some ⟨yb, 0, none⟩) 64 yc]) := Lib.hid ⟨HG.out.1, Nat.lt_of_lt_of_le HG.out.2.1 hFx11.size, fun j v hj => hFx11.cell (HG.out.2.2 j v hj) (fun e => by have := HG.out.1; omega)⟩
    have HYR11 : RowKit.Hid (w11.rangeAt yb 0 (bys data1)) := Lib.hid (fun j v hj => hFx11.cell (HYR.out j v hj) (fun e => by have := HYB.out; omega))
    have HF11 := Lib.hid (HFX.out.trans' hFx11 (fun i hi e => by have := HS3.out; omega))
    clear hHeld hS0 hmap11 hF11 hF10 hFx10 hFx11 hnr k33 HBX HG HYR HFX HMX HB15
    have k33 : w11.cell? ⟨pb, 33, none⟩ = some (.map (some lm)) := heap_cell (o := 33) HB11.out rfl
    go_wp2_with fail
    rw [rounds_succ]
    go_wp2_with (first
      | (refine rg_range rfl (.tmp 105) 127 rfl rfl HM11.out Tryd.underlying3 Tryd.underlying127 ?_; intro w12 hrg12 hF12 hs12)
      | fail "arm")
    refine wp_loop_rounds 2 ?_
    rw [rounds_succ]
    clear k33
    have hb12 := hF12.heap HB11.out (fun h => h)
    have hF12w := HF11.out.trans hF12
    have HB12 := Lib.hid hb12
    have HF12 := Lib.hid hF12w
    have HR12 := Lib.hid hF12
    have heq := eq_nd0_no (l := lfA) (.inr (.inl rfl))
    have hrl : w.heap.size ≤ w11.heap.size := HF11.out.size
    have HRL := Lib.hid hrl
    clear hb12 hF12w hF12 hrl
    go_wp2_with (first
      | (refine rg_next rfl (.tmp 106) rfl rfl hrg12 Tryd.underlying3 ?_ ?_)
      | fail "arm")
    · intro i v w13 cnt13 hl13 hf13 hrg13 hlt13 hF13 hs13 hen13
      obtain rfl : i = 0 := f1_one hl13
      rw [f1_at] at hf13
      injection hf13 with hf13
      subst hf13
      have hpr : pb ≠ w11.heap.size := by have := heap_lt7 HB11.out; omega
      have HB13 := Lib.hid (hF13.heap HB12.out hpr)
      have HB19 := Lib.hid (heap_new w13 (Obj.cells (nds nd0).toArray 99))
      have hsz13 : w13.heap.size = w11.heap.size + 1 := by omega
      rw [hsz13] at HB19
      have HN19 := Lib.hid (heap_nd HB19.out nd0_len)
      have HF13 := Lib.hid (hF13.alloc (Obj.cells (nds nd0).toArray 99))
      have hlf : lfA.length = 32 := by decide
      have htn : tnA.length = 32 := by decide
      have HLF := Lib.hid hlf
      have HTN := Lib.hid htn
      clear hlf htn hrg12 hF13 hl13
      have HRG := Lib.hid hrg13
      clear hrg13
      have HB13a := Lib.hid (heap_alloc (Obj.cells (nds nd0).toArray 99) HB13.out)
      have HRGa := Lib.hid (HRG.out.fr ((Fr.refl No w13).alloc (Obj.cells (nds nd0).toArray 99)) (fun h => h) (fun h => h))
      generalize hW13 : w13.alloc (Obj.cells (nds nd0).toArray 99) = W13a at *
      have hsa : W13a.heap.size = w11.heap.size + 2 := by rw [← hW13]; simp [hsz13]
      go_upto_region 22 with (first
        | (refine alloc_nd7 (w11.heap.size + 1) hsz13 rfl rfl ?_; rw [hW13])
        | (refine store_nd rfl _ _ rfl (w11.heap.size + 1) 0 lfA rfl rfl HLF.out HN19.out.2.2 ?_; intro hF14; have HN14 := Lib.hid (heap_nd (heap_setCells7 HB19.out (nds lfA) rfl) HLF.out); have HB14 := Lib.hid (hF14.heap HB13a.out (fun e => by have := heap_lt7 HB11.out; omega)); have HR14 := Lib.hid (HRGa.out.fr hF14 (fun (e : lm = _) => by have := heap_lt7 HB11.out; have := HLM.out; omega) (fun (e : w11.heap.size = _) => by omega)); have HF14 := Lib.hid (HF13.out.trans' hF14 (fun i hi (e : i = w11.heap.size + 1) => by omega)))
        | fail "arm")
      simp only [Act.put, List.setIfInBounds_toArray, List.set_cons_zero, List.set_cons_succ]
      generalize W13a.setCells (w11.heap.size + 1) 0 (nds lfA) = W14 at *
      have HP14 := Lib.hid (plan_nd HB14.out nd0_len)
      have k1 : W14.cell? ⟨pb, 1, none⟩ = some (.int .i64 0) := heap_cell (o := 1) HB14.out rfl
      clear HB13a HRGa HN19 HB19 HF13 hW13 HRG HB13 hen13
      go_wp2_with (first
        | (refine load_nd rfl _ rfl (w11.heap.size + 1) 0 lfA rfl HN14.out ?_)
        | (refine build_nd rfl rfl ?_)
        | (refine load_nd rfl _ rfl pb 1 nd0 rfl HP14.out ?_)
        | (go_at_call 60; ((with_reducible refine (HW0.out _).mono ?_); rintro e W15 ⟨rfl, hF15⟩; have HB15 := Lib.hid (hF15.heap HB14.out (fun h => h)); have HR15 := Lib.hid (HR14.out.fr hF15 (fun h => h) (fun h => h)); have HF15 := Lib.hid (HF14.out.trans hF15.no); clear hF15))
        | (refine store_nd rfl _ _ rfl pb 1 tnA rfl rfl HTN.out (plan_nd HB15.out nd0_len).2.2 ?_; intro hF16; have HB16 := Lib.hid (plan_set (tn' := tnA) HB15.out rfl); have HR16 := Lib.hid (HR15.out.fr hF16 (fun (e : lm = pb) => by have := HLM.out; omega) (fun (e : w11.heap.size = pb) => by omega)); have HF16 := Lib.hid ((HF15.out.mono (T := fun k => k = w11.heap.size ∨ k = pb) (fun k _ e => .inl e)).trans (hF16.mono (T := fun k => k = w11.heap.size ∨ k = pb) (fun k _ e => .inr e))); clear hF16)
        | fail "arm")
      generalize W15.setCells pb 1 (nds tnA) = W16 at *
      rw [rounds_succ]
      have HNO : RowKit.Hid (∀ i : Int, ((f1 lfA i).isSome && !decide (i = 0)) ≠ true) := Lib.hid (fun i h => by
        simp only [Bool.and_eq_true, Bool.not_eq_true', decide_eq_false_iff_not] at h
        exact h.2 (f1_one h.1))
      go_wp2_with (first
        | (refine rg_next rfl (.tmp 106) rfl rfl HR16.out Tryd.underlying3 ?_ ?_; rotate_left; · intro i v w17 cnt17 hl17; exact absurd hl17 (HNO.out i))
        | fail "arm")
      intro hq
      clear hq
      go_wp2_with fail
      go_ret
      have e1 := heap_lt7 HB11.out
      have e2 := HLM.out
      have e3 := HS3.out
      have e4 := HYB.out
      have e5 := HG11.out.1
      have e6 := HG11.out.2.1
      have e7 := HRL.out
      have e8 := HF16.out.size
      have e9 := HR12.out.size
      refine ⟨pb, lm, gb, gc, yb, yc, rfl, ⟨HB16.out, (HM11.out.fr HR12.out (fun h => h)).fr HF16.out (fun (e : lm = _ ∨ lm = pb) => by omega), fun j v hj => HF16.out.cell (HR12.out.cell (HG11.out.2.2 j v hj) (fun h => h)) (fun (e : gb = _ ∨ gb = pb) => by omega), fun j v hj => HF16.out.cell (HR12.out.cell (HYR11.out j v hj) (fun h => h)) (fun (e : yb = _ ∨ yb = pb) => by omega), by omega, by omega, by omega, by omega, by omega, by omega, by omega, by omega, by omega, by omega, HYC.out⟩, HF12.out.trans' HF16.out (fun i hi (e : i = _ ∨ i = pb) => by omega)⟩
end Go.Proofs.YtpcikbloflpahaaDoor
