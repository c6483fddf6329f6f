/-
  Chapter 7: nodes as values; With, Encode.
-/
import Derived.Test.YtpcikbloflpahaaDoorSh2
namespace Go.Proofs.YtpcikbloflpahaaDoor
set_option linter.unusedVariables false
set_option linter.unusedSimpArgs false
open Go.RowKit Go.Shelf Go.Maps

def nds (l : List Int) : List Value := l.map fun x => .int .i64 x
theorem nds_len (l : List Int) : (nds l).length = l.length := List.length_map ..
theorem nds_one (l : List Int) : ∀ u ∈ nds l, u.oneCell' = true := by
  intro u hu; simp only [nds, List.mem_map] at hu; obtain ⟨x, _, rfl⟩ := hu; rfl
theorem nds_set (l : List Int) (i : Nat) (x : Int) : (nds l).set i (.int .i64 x) = nds (l.set i x) := by simp [nds, List.map_set]
theorem nds_get (l : List Int) (i : Nat) (h : i < l.length) : (nds l)[i]? = some (.int .i64 l[i]) := by simp [nds, h]
/-- A node of noughts. -/
def nd0 : List Int := List.replicate 32 0
theorem nd0_len : nd0.length = 32 := rfl
theorem size_nd : (Tryd.prog.info? 99).map (·.size) = some 32 := by kernel_rfl

theorem alloc_nd {ops : Array Oper} {rest : List Oper} {o : Oper} {a : Act} {w : World} {Q : Exit → Act → World → Prop} (hg : o.guard = none) (ho : o.op = .alloc 99)
    (hK : wpList Tryd.prog ops Q rest (a.put o.dst (.pointer (some ⟨w.heap.size, 0, none⟩))) (w.alloc (.cells (nds nd0).toArray 99))) : wpList Tryd.prog ops Q (o :: rest) a w := by
  have hr : (Instr.alloc 99 true (.tuple #[])).run Tryd.prog w = .ok (.pointer (some ⟨w.heap.size, 0, none⟩)) (w.alloc (.cells (nds nd0).toArray 99)) := by kernel_rfl
  refine wpList_plain hg fun K' hK' => ?_
  unfold Oper.wp
  simp only [execOp, ho, Sem.run_bind, hr, Result.andThen]
  exact hK' _ _ hK
theorem build_nd {ops : Array Oper} {rest : List Oper} {o : Oper} {a : Act} {w : World} {Q : Exit → Act → World → Prop} (hg : o.guard = none) (ho : o.op = .build 99 #[])
    (hK : wpList Tryd.prog ops Q rest (a.put o.dst (.agg (nds nd0).toArray)) w) : wpList Tryd.prog ops Q (o :: rest) a w := by
  have hr : (Instr.build 99 #[]).run Tryd.prog w = .ok (.agg (nds nd0).toArray) w := by kernel_rfl
  refine wpList_plain hg fun K' hK' => ?_
  unfold Oper.wp
  have hm : (#[] : Array (Nat × Operand)).map (fun x => (x.1, a.eval x.2)) = #[] := by simp
  simp only [execOp, ho, Sem.run_bind, hm, hr, Result.andThen]
  exact hK' _ _ hK
theorem heap_new2_7 (w : World) (o o' : Obj) : ((w.alloc o).alloc o').heap[w.heap.size + 1]? = some o' := by simpa using heap_new (w.alloc o) o'
/-- A node in the midst of a block. -/
def NdAt (w : World) (b o : Nat) (l : List Int) : Prop := l.length = 32 ∧ (∀ j v, (nds l)[j]? = some v → w.cell? ⟨b, o + j, none⟩ = some v) ∧ w.there b o 32
theorem load_nd {ops : Array Oper} {rest : List Oper} {o : Oper} {a : Act} {w : World} {Q : Exit → Act → World → Prop} (hg : o.guard = none) (x : Operand) (ho : o.op = .load 99 x)
    (b off : Nat) (l : List Int) (hx : a.eval x = .pointer (some ⟨b, off, none⟩)) (h : NdAt w b off l)
    (hK : wpList Tryd.prog ops Q rest (a.put o.dst (.agg (nds l).toArray)) w) : wpList Tryd.prog ops Q (o :: rest) a w :=
  wpList_load_mid hg _ x ho b off hx (nds l) _ (fun j v hj => h.2.1 j v hj) Tryd.underlying99 rfl (by rw [size_nd, nds_len, h.1]) hK
theorem heap_nd {w : World} {b : Nat} {l : List Int} {t : TypeId} (h : w.heap[b]? = some (.cells (nds l).toArray t (0, 0))) (hl : l.length = 32) : NdAt w b 0 l :=
  ⟨hl, fun j v hj => by rw [Nat.zero_add]; exact heap_cell h (by simpa using hj), fun j hj => by
    rw [Nat.zero_add]
    have hj' : j < l.length := by omega
    exact ⟨by rw [heap_cell h (v := .int .i64 l[j]) (by simpa using nds_get l j hj')]; rfl, heap_frozen h⟩⟩
theorem store_nd {ops : Array Oper} {rest : List Oper} {o : Oper} {a : Act} {w : World} {Q : Exit → Act → World → Prop} (hg : o.guard = none) (x y : Operand) (ho : o.op = .store 99 x y)
    (b off : Nat) (l : List Int) (hx : a.eval x = .pointer (some ⟨b, off, none⟩)) (hy : a.eval y = .agg (nds l).toArray) (hl : l.length = 32) (ht : w.there b off 32)
    (hK : Fr (fun k => k = b) w (w.setCells b off (nds l)) → wpList Tryd.prog ops Q rest (a.put o.dst undef) (w.setCells b off (nds l))) : wpList Tryd.prog ops Q (o :: rest) a w := by
  refine wpList_store_mid hg _ x y ho b off (nds l).toArray hx hy (by simpa [nds_len, hl] using ht) (by rw [size_nd, List.size_toArray, nds_len, hl]) (all_oneCell_toArray (nds_one l)) ?_
  exact hK (fr_setCells7 _ _ _ _)

theorem results_cell7_tmp {fn : Func} {p u : Tmp} {ty : TypeId} (h : fn.results = #[.cell p ty, .tmp u]) (tmps : Array Value) (P : Program) (w : World) :
    (results fn tmps).run P w =
      ((asAddr (tmps.getD p undef)).run P w).andThen fun a w₁ => ((loadVar ty a).run P w₁).andThen fun x w₂ => .ok (.tuple #[x, tmps.getD u undef]) w₂ := by
  simp only [results, h]
  simp [Sem.run_bind, Result.andThen]
theorem results_cell7 {fn : Func} {p : Tmp} {ty : TypeId} (h : fn.results = #[.cell p ty]) (tmps : Array Value) (P : Program) (w : World) :
    (results fn tmps).run P w = ((asAddr (tmps.getD p undef)).run P w).andThen fun a w₁ => (loadVar ty a).run P w₁ := by
  simp only [results, h]
  simp [Sem.run_bind, Result.andThen]
theorem ret_nd_tmp {fn : Func} {p q : Tmp} (hfn : fn.results = #[.cell p 99, .tmp q]) {Q : Ending → World → Prop} {a : Act} {w : World} {b : Nat} {l : List Int} {v1 : Value} (hp : a.tmps.getD p undef = .pointer (some ⟨b, 0, none⟩)) (hq : a.tmps.getD q undef = v1)
    (hN : NdAt w b 0 l) (hd : a.defers = []) (hR : Q (.returned (.tuple #[.agg (nds l).toArray, v1])) w) : bodyPost Tryd.prog fn Q .ret a w := by
  refine bodyPost_ret ?_ hd hR
  rw [results_cell7_tmp hfn, hp, hq]
  have hl := run_loadVar_mid (P := Tryd.prog) w b 0 99 (nds l) _ (fun j v hj => hN.2.1 j v hj) Tryd.underlying99 rfl (by rw [size_nd, nds_len, hN.1])
  simp only [asAddr, Sem.run_pure, Result.andThen_ok, hl]
theorem ret_nd {fn : Func} {p : Tmp} (hfn : fn.results = #[.cell p 99]) {Q : Ending → World → Prop} {a : Act} {w : World} {b : Nat} {l : List Int} (hp : a.tmps.getD p undef = .pointer (some ⟨b, 0, none⟩))
    (hN : NdAt w b 0 l) (hd : a.defers = []) (hR : Q (.returned (.agg (nds l).toArray)) w) : bodyPost Tryd.prog fn Q .ret a w := by
  refine bodyPost_ret ?_ hd hR
  rw [results_cell7 hfn, hp]
  have hl := run_loadVar_mid (P := Tryd.prog) w b 0 99 (nds l) _ (fun j v hj => hN.2.1 j v hj) Tryd.underlying99 rfl (by rw [size_nd, nds_len, hN.1])
  simp only [asAddr, Sem.run_pure, Result.andThen_ok, hl]

set_option maxHeartbeats 2000000 in
set_option maxRecDepth 1000000 in
theorem nwith_calls (l : List Int) (hl : l.length = 32) (i : Nat) (hi : i < 32) (s : Int) (w : World) :
    Calls Tryd.prog 75 #[.agg (nds l).toArray, .int .i64 (i : Int), .int .i64 s] w fun e w' => e = .returned (.tuple #[.agg (nds (l.set i s)).toArray, .int .i64 0]) ∧ Fr No w w' := by
  have d1 : decide ((i : Int) < 0) = false := decide_eq_false (by omega)
  have d2 : decide ((32 : Int) ≤ (i : Int)) = false := decide_eq_false (by omega)
  have HL := Lib.hid hl
  clear hl
  go_enter Tryd.func75, Tryd.ntmps75
  have hgi := nds_get l i (by rw [HL.out]; exact hi)
  generalize l[i]'(by rw [HL.out]; exact hi) = li at *
  have hse := nds_set l i s
  have HL2 : RowKit.Hid ((l.set i s).length = 32) := Lib.hid (by rw [List.length_set]; exact HL.out)
  generalize l.set i s = l2 at *
  have hb2 := heap_new2_7 w (Obj.cells (nds l2).toArray 99) (Obj.cells (nds nd0).toArray 99)
  have hb1 := heap_alloc (Obj.cells (nds nd0).toArray 99) (heap_new w (Obj.cells (nds l2).toArray 99))
  have HN1 := Lib.hid (heap_nd hb1 HL2.out)
  have HN2 := Lib.hid (heap_nd hb2 nd0_len)
  have HB2 := Lib.hid hb2
  clear hb1 hb2
  go_wp2_with (first
    | (refine alloc_nd rfl rfl ?_)
    | ((refine load_nd rfl _ rfl w.heap.size 0 l2 rfl HN1.out ?_))
    | ((refine store_nd rfl _ _ rfl (w.heap.size + 1) 0 l2 rfl rfl HL2.out HN2.out.2.2 ?_; intro hF3))
    | fail "arm")
  have HN3 := heap_nd (heap_setCells7 HB2.out (nds l2) (by rw [nds_len, nds_len, HL2.out]; rfl)) HL2.out
  refine ret_nd_tmp Tryd.results75 rfl rfl HN3 rfl ⟨rfl, (((Fr.refl No w).alloc (Obj.cells (nds l2).toArray 99)).alloc (Obj.cells (nds nd0).toArray 99)).trans' hF3 (fun i hi e => by omega)⟩

theorem must_calls (w : World) : Calls Tryd.prog 47 #[.int .i64 0] w fun e w' => e = .returned (.tuple #[]) ∧ w = w' := by
  go_enter Tryd.func47, Tryd.ntmps47
  go_wp2
  go_end0
  exact ⟨rfl, rfl⟩

set_option maxHeartbeats 2000000 in
set_option maxRecDepth 1000000 in
theorem swith_calls (l : List Int) (hl : l.length = 32) (i : Nat) (hi : i < 32) (s : Int) (w : World) :
    Calls Tryd.prog 60 #[.agg (nds l).toArray, .int .i64 (i : Int), .int .i64 s] w fun e w' => e = .returned (.agg (nds (l.set i s)).toArray) ∧ Fr No w w' := by
  have HW := Lib.hid (fun w1 => nwith_calls l hl i hi s w1)
  have HL2 : RowKit.Hid ((l.set i s).length = 32) := Lib.hid (by rw [List.length_set]; exact hl)
  have HN1 := Lib.hid (heap_nd (heap_alloc (Obj.cells (nds nd0).toArray 99) (heap_new w (Obj.cells (nds l).toArray 99))) hl)
  have HB2 := Lib.hid (heap_new2_7 w (Obj.cells (nds l).toArray 99) (Obj.cells (nds nd0).toArray 99))
  generalize l.set i s = l2 at *
  have HF0 : RowKit.Hid (Fr No w ((w.alloc (Obj.cells (nds l).toArray 99)).alloc (Obj.cells (nds nd0).toArray 99))) := Lib.hid (((Fr.refl No w).alloc _).alloc _)
  clear hl
  go_enter Tryd.func60, Tryd.ntmps60
  go_wp2_with (first
    | (refine alloc_nd rfl rfl ?_)
    | (refine load_nd rfl _ rfl w.heap.size 0 l rfl HN1.out ?_)
    | fail "arm")
  refine (HW.out _).mono ?_
  rintro e w1 ⟨rfl, hF1⟩
  have HF1 := Lib.hid hF1
  have HB1 := Lib.hid (hF1.heap HB2.out (fun h => h))
  have hsz := hF1.size
  have hb3 := heap_new w1 (Obj.cells (nds nd0).toArray 99)
  have HN3 := Lib.hid (heap_nd hb3 nd0_len)
  have HB3 := Lib.hid hb3
  clear hF1 hb3
  go_wp2_with (first
    | (refine alloc_nd rfl rfl ?_)
    | (go_at_call 47; ((with_reducible refine (must_calls _).mono ?_); rintro e w2 ⟨rfl, rfl⟩))
    | (refine store_nd rfl _ _ rfl w1.heap.size 0 l2 rfl rfl HL2.out HN3.out.2.2 ?_; intro hF3; have HN4 := Lib.hid (heap_nd (heap_setCells7 HB3.out (nds l2) (by rw [nds_len, nds_len, HL2.out]; rfl)) HL2.out); have HB4 := Lib.hid (hF3.heap (heap_alloc (Obj.cells (nds nd0).toArray 99) HB1.out) (fun e => by have := heap_lt HB1.out; omega)); have HN5 := Lib.hid (heap_nd HB4.out nd0_len))
    | (refine load_nd rfl _ rfl w1.heap.size 0 l2 rfl HN4.out ?_)
    | (refine store_nd rfl _ _ rfl (w.heap.size + 1) 0 l2 rfl rfl HL2.out HN5.out.2.2 ?_; intro hF6)
    | fail "arm")
  have HN6 := heap_nd (heap_setCells7 HB4.out (nds l2) (by rw [nds_len, nds_len, HL2.out]; rfl)) HL2.out
  refine ret_nd Tryd.results60 rfl HN6 rfl ⟨rfl, ?_⟩
  have h1 := HF0.out.trans (HF1.out.alloc (Obj.cells (nds nd0).toArray 99))
  have h0 := HF0.out.size
  have h2 := HF1.out.size
  exact (h1.trans' hF3 (fun i hi e => by omega)).trans' hF6 (fun i hi e => by omega)
end Go.Proofs.YtpcikbloflpahaaDoor
