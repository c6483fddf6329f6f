/-
  Chapter 7: Cost.
-/
import Derived.Test.YtpcikbloflpahaaDoorZSh14
namespace Go.Proofs.YtpcikbloflpahaaDoor
set_option linter.unusedVariables false
set_option linter.unusedSimpArgs false
open Go.RowKit Go.Shelf Go.Maps

set_option maxHeartbeats 1000000 in
set_option maxRecDepth 1000000 in
theorem empty_calls {w : World} {pb lm : Nat} {pv : Value} {tn : List Int} {old : Int} {sm : Bool} (hb : w.heap[pb]? = some (.cells (PlC pv tn lm old sm).toArray 129 (0, 0))) (ht : tn = tnA ∨ tn = tnA.set 0 3) : Calls Tryd.prog 61 #[.pointer (some ⟨pb, 0, none⟩)] w fun e w' => e = .returned (.bool false) ∧ w = w' := by
  have hl : tn.length = 32 := by rcases ht with rfl | rfl <;> rfl
  have HN := Lib.hid (plan_nd hb hl)
  have heq := eq_nd0_no (l := tn) (by rcases ht with h | h; exact .inl h; exact .inr (.inr h))
  clear hb ht hl
  go_enter Tryd.func61, Tryd.ntmps61
  go_wp2_with (first
    | (refine load_nd rfl _ rfl pb 1 tn rfl HN.out ?_)
    | (refine build_nd rfl rfl ?_)
    | fail "arm")
  go_ret
  exact ⟨rfl, rfl⟩
theorem yields_len_map {P : Program} {ops : Array Oper} {S : World → Prop} {o : Oper} {a : Act} (hg : Region.wanted o (yielded ops a.tmps) = true) (m : Operand) (t : TypeId) (hop : o.op = Op.call { callee := Callee.builtin Builtin.len, args := #[m], argTypes := #[t] }) {k e : TypeId} {b c : Nat} {f : Int → Option Value} (hm : a.eval m = .map (some b)) (h : ∀ w, S w → MapAt P k w b c f) (ht : P.underlying t = some (.map k e)) :
    YieldsIf P ops S o (.int .i64 (c : Nat)) a := by
  refine Or.inl ⟨hg, fun w hS => ?_⟩
  have hr := (h w hS).len ht o.type
  unfold execOp
  simp only [hop, resolve, invoke, builtin, Sem.run_bind, Sem.run_pure, Result.andThen_ok, List.map_toArray, List.map_cons, List.map_nil, hm, hr]

set_option maxHeartbeats 2000000 in
set_option maxRecDepth 1000000 in
theorem cost_calls {n : Nat} {w : World} {pb lm gb gc yb yc : Nat} (h : PlAt n w pb lm gb gc yb yc tnA lfA) : Calls Tryd.prog 37 #[.pointer (some ⟨pb, 0, none⟩)] w fun e w' => e = .returned (.int .i64 3) ∧ Fr No w w' := by
  have HE := Lib.hid (empty_calls h.box (.inl rfl))
  have HM := Lib.hid h.map
  have k0 : w.drew.cell? ⟨pb, 0, none⟩ = some (.slice (some ⟨gb, 0, none⟩) 1 gc) := heap_cell (w := w) (o := 0) h.box rfl
  have k33 : w.drew.cell? ⟨pb, 33, none⟩ = some (.map (some lm)) := heap_cell (w := w) (o := 33) h.box rfl
  have HB := Lib.hid h.box
  clear h
  go_enter Tryd.func37, Tryd.ntmps37
  go_upto_region 1 with fail
  refine wp_region_held_drew (S := (fun w' => w'.cell? ⟨pb, 0, none⟩ = some (.slice (some ⟨gb, 0, none⟩) 1 gc) ∧ w'.cell? ⟨pb, 33, none⟩ = some (.map (some lm)) ∧ MapAt Tryd.prog 3 w' lm 1 (f1 lfA))) (by kernel_rfl) ⟨k0, k33, HM.out.fr (Fr.refl No w).drew (fun h => h)⟩ (fun hS0 => ?_)
  refine take_at7 (i := 0) (d := some 4) (v := ?_) rfl rfl (by kernel_rfl) (by kernel_rfl) (by kernel_rfl) (fun _ _ _ h => h) (Or.inl ⟨by rfl, ?_⟩) (by assumption) ?_
  rotate_left
  · intro w hSw; go_simp; try (with_reducible rfl)
  try simp only [Act.put, List.setIfInBounds_toArray, List.set_cons_zero, List.set_cons_succ]
  refine take_at7 (i := 1) (d := some 5) (v := ?_) rfl rfl (by kernel_rfl) (by kernel_rfl) (by kernel_rfl) (fun _ _ _ h => h) (Or.inl ⟨by rfl, ?_⟩) (by assumption) ?_
  rotate_left
  · intro w hSw; go_simp; try (with_reducible rfl)
  try simp only [Act.put, List.setIfInBounds_toArray, List.set_cons_zero, List.set_cons_succ]
  refine take_at7 (i := 2) (d := some 6) (v := ?_) rfl rfl (by kernel_rfl) (by kernel_rfl) (by kernel_rfl) (fun _ _ _ h => h) (Or.inl ⟨by rfl, ?_⟩) (by assumption) ?_
  rotate_left
  · intro w hSw; go_simp; try (with_reducible rfl)
  try simp only [Act.put, List.setIfInBounds_toArray, List.set_cons_zero, List.set_cons_succ]
  refine take_at7 (i := 3) (d := some 7) (v := ?_) rfl rfl (by kernel_rfl) (by kernel_rfl) (by kernel_rfl) (fun _ _ _ h => h) (Or.inl ⟨by rfl, ?_⟩) (by assumption) ?_
  rotate_left
  · intro w hSw; go_simp; try (with_reducible rfl)
  try simp only [Act.put, List.setIfInBounds_toArray, List.set_cons_zero, List.set_cons_succ]
  refine take_at7 (i := 4) (d := some 8) (v := ?_) rfl rfl (by kernel_rfl) (by kernel_rfl) (by kernel_rfl) (fun _ _ _ h => h) (Or.inl ⟨by rfl, ?_⟩) (by assumption) ?_
  rotate_left
  · intro w hSw; go_simp; try (with_reducible rfl)
  try simp only [Act.put, List.setIfInBounds_toArray, List.set_cons_zero, List.set_cons_succ]
  refine take_at7 (i := 5) (d := some 9) (v := ?_) rfl rfl (by kernel_rfl) (by kernel_rfl) (by kernel_rfl) (fun _ _ _ h => h) (Or.inl ⟨by rfl, ?_⟩) (by assumption) ?_
  rotate_left
  · intro w hSw; go_simp; try (with_reducible rfl)
  try simp only [Act.put, List.setIfInBounds_toArray, List.set_cons_zero, List.set_cons_succ]
  refine take_at7 (i := 6) (d := some 10) (v := ?_) rfl rfl (by kernel_rfl) (by kernel_rfl) (by kernel_rfl) (fun _ _ _ h => h) (Or.inl ⟨by rfl, ?_⟩) (by assumption) ?_
  rotate_left
  · intro w hSw; go_simp; try (with_reducible rfl)
  try simp only [Act.put, List.setIfInBounds_toArray, List.set_cons_zero, List.set_cons_succ]
  refine take_at7 (i := 7) (d := some 11) (v := ?_) rfl rfl (by kernel_rfl) (by kernel_rfl) (by kernel_rfl) (fun _ _ _ h => h) (Or.inl ⟨by rfl, ?_⟩) (by assumption) ?_
  rotate_left
  · intro w hSw; go_simp; try (with_reducible rfl)
  try simp only [Act.put, List.setIfInBounds_toArray, List.set_cons_zero, List.set_cons_succ]
  refine take_at7 (i := 8) (d := some 12) (v := ?_) rfl rfl (by kernel_rfl) (by kernel_rfl) (by kernel_rfl) (fun _ _ _ h => h) (Or.inl ⟨by rfl, ?_⟩) (by assumption) ?_
  rotate_left
  · intro w hSw; go_simp; try (with_reducible rfl)
  try simp only [Act.put, List.setIfInBounds_toArray, List.set_cons_zero, List.set_cons_succ]
  refine take_at7 (i := 9) (d := some 13) (v := .int .i64 1) rfl rfl (by kernel_rfl) (by kernel_rfl) (by kernel_rfl) (fun _ _ _ h => h) (yields_len_map (by rfl) _ 127 rfl rfl (fun _ h => h.2.2) Tryd.underlying127) (by assumption) ?_
  try simp only [Act.put, List.setIfInBounds_toArray, List.set_cons_zero, List.set_cons_succ]
  refine take_at7 (i := 10) (d := some 14) (v := ?_) rfl rfl (by kernel_rfl) (by kernel_rfl) (by kernel_rfl) (fun _ _ _ h => h) (Or.inl ⟨by rfl, ?_⟩) (by assumption) ?_
  rotate_left
  · intro w hSw; go_simp; try (with_reducible rfl)
  try simp only [Act.put, List.setIfInBounds_toArray, List.set_cons_zero, List.set_cons_succ]
  refine take_at7 (i := 11) (d := some 3) (v := ?_) rfl rfl (by kernel_rfl) (by kernel_rfl) (by kernel_rfl) (fun _ _ _ h => h) (Or.inl ⟨by rfl, ?_⟩) (by assumption) ?_
  rotate_left
  · intro w hSw; go_simp; try (with_reducible rfl)
  try simp only [Act.put, List.setIfInBounds_toArray, List.set_cons_zero, List.set_cons_succ]
  refine wpAnyH_done (by kernel_rfl) ?_ _
  clear hS0
  have k35 : w.drew.cell? ⟨pb, 35, none⟩ = some (.bool false) := heap_cell (w := w) (o := 35) HB.out rfl
  have HE2 := Lib.hid (empty_calls (w := w.drew) (show w.drew.heap[pb]? = _ from HB.out) (.inl rfl))
  go_wp2_with fail
  refine HE2.out.mono ?_
  rintro e w1 ⟨rfl, rfl⟩
  go_wp2_with fail
  go_ret
  exact ⟨rfl, (Fr.refl No w).drew⟩

set_option maxHeartbeats 2000000 in
set_option maxRecDepth 1000000 in
theorem cost1_calls {w : World} {db p0 p1 p2 p3 : Nat} {A : Nat → Prop} {acts : Nat} (h : DkAt w db A acts) {ab bb : Nat} (h0 : w.cell? ⟨ab, 0, none⟩ = some (.int .i64 3)) (h1 : w.cell? ⟨ab, 1, none⟩ = some (.slice (some ⟨bb, 0, none⟩) 64 64)) (hr : w.rangeAt bb 0 (bys data1))
    (q0 : w.cell? ⟨p0, 0, none⟩ = some (.pointer (some ⟨db, 0, none⟩))) (q1 : w.cell? ⟨p1, 0, none⟩ = some (.int .i64 0)) (q2 : w.cell? ⟨p2, 0, none⟩ = some (.slice (some ⟨ab, 0, none⟩) 1 1)) {v0 : Value} (q3 : w.heap[p3]? = some (.cells [v0].toArray 3 (0, 0))) :
    Calls Tryd.prog 35 #[.pointer (some ⟨p0, 0, none⟩), .pointer (some ⟨p1, 0, none⟩), .pointer (some ⟨p2, 0, none⟩), .pointer (some ⟨p3, 0, none⟩)] w fun e w' => e = .returned (.tuple #[]) ∧ Fr (fun k => k = p3) w w' ∧ w'.cell? ⟨p3, 0, none⟩ = some (.int .i64 3) := by
  have HP := Lib.hid (planned_calls h h0 h1 hr)
  have HQ := Lib.hid q3
  clear h h0 h1 hr q3
  go_enter Tryd.func35, Tryd.ntmps35
  go_wp2_with fail
  refine HP.out.mono ?_
  rintro e w1 ⟨pb, lm, gb, gc, yb, yc, rfl, hpl, hF1⟩
  have HF1 := Lib.hid hF1
  have HPL := Lib.hid hpl
  clear hF1 hpl q0 q1 q2
  go_wp2_with fail
  refine (cost_calls HPL.out).mono ?_
  rintro e w2 ⟨rfl, hF2⟩
  have HQ2 := Lib.hid (hF2.heap (HF1.out.heap HQ.out (fun h => h)) (fun h => h))
  have k3 := heap_cell (o := 0) HQ2.out rfl
  have f3 := heap_frozen (o := 0) HQ2.out
  have HF2 := Lib.hid (HF1.out.trans hF2)
  clear hF2
  go_wp2_with fail
  go_end0
  exact ⟨rfl, HF2.out.no.trans ((Fr.refl (fun k => k = p3) w2).setCell (p := ⟨p3, 0, none⟩) (fun _ => rfl) _), heap_cell (o := 0) (heap_setAt7 HQ2.out 0 _) rfl⟩

set_option maxHeartbeats 2000000 in
set_option maxRecDepth 1000000 in
theorem scost_calls {w : World} {db : Nat} {A : Nat → Prop} {acts : Nat} (h : DkAt w db A acts) {ab bb : Nat} (h0 : w.cell? ⟨ab, 0, none⟩ = some (.int .i64 3)) (h1 : w.cell? ⟨ab, 1, none⟩ = some (.slice (some ⟨bb, 0, none⟩) 64 64)) (hr : w.rangeAt bb 0 (bys data1)) :
    Calls Tryd.prog 12 #[.pointer (some ⟨db, 0, none⟩), .int .i64 0, .slice (some ⟨ab, 0, none⟩) 1 1] w fun e w' => e = .returned (.tuple #[.int .i64 3, .int .i64 0]) ∧ Fr No w w' := by
  have hmf : ∀ (fn : Fn) (first cap : Array Value) (w : World), (Instr.makeFunc fn first cap).run Tryd.prog w = .ok (.func fn first cap) w := fun _ _ _ _ => rfl
  have H := Lib.hid (And.intro h (And.intro h0 (And.intro h1 hr)))
  clear h h0 h1 hr
  go_enter Tryd.func12, Tryd.ntmps12
  go_wp2_with fail
  generalize hW : ((((w.alloc (Obj.cells #[.pointer (some ⟨db, 0, none⟩)] 36)).alloc (Obj.cells #[.int .i64 0] 3)).alloc (Obj.cells #[.slice (some ⟨ab, 0, none⟩) 1 1] 22)).alloc (Obj.cells #[.int .i64 0] 3)) = W
  have hF : Fr No w W := by rw [← hW]; exact ((((Fr.refl No w).alloc _).alloc _).alloc _).alloc _
  have hs : W.heap.size = w.heap.size + 4 := by rw [← hW]; simp
  have hb0 : W.heap[w.heap.size]? = some (.cells [.pointer (some ⟨db, 0, none⟩)].toArray 36 (0, 0)) := by rw [← hW]; exact heap_alloc _ (heap_alloc _ (heap_alloc _ (heap_new _ _)))
  have hb1 : W.heap[w.heap.size + 1]? = some (.cells [.int .i64 0].toArray 3 (0, 0)) := by rw [← hW]; exact heap_alloc _ (heap_alloc _ (heap_new2_7 w _ _))
  have hb2 : W.heap[w.heap.size + 1 + 1]? = some (.cells [.slice (some ⟨ab, 0, none⟩) 1 1].toArray 22 (0, 0)) := by
    rw [← hW]
    refine heap_alloc _ ?_
    have := heap_new ((w.alloc (Obj.cells #[.pointer (some ⟨db, 0, none⟩)] 36)).alloc (Obj.cells #[.int .i64 0] 3)) (Obj.cells #[.slice (some ⟨ab, 0, none⟩) 1 1] 22)
    simpa using this
  have hb3 : W.heap[w.heap.size + 1 + 1 + 1]? = some (.cells [.int .i64 0].toArray 3 (0, 0)) := by
    rw [← hW]
    have := heap_new (((w.alloc (Obj.cells #[.pointer (some ⟨db, 0, none⟩)] 36)).alloc (Obj.cells #[.int .i64 0] 3)).alloc (Obj.cells #[.slice (some ⟨ab, 0, none⟩) 1 1] 22)) (Obj.cells #[.int .i64 0] 3)
    simpa using this
  have hFA : Fr No W (W.alloc (Obj.cells #[.int .i64 0] 25)) := (Fr.refl No W).alloc _
  have hFwa := hF.trans hFA
  obtain ⟨h, h0, h1, hr⟩ := H.out
  refine (sguardc_calls (S := fun k => k = w.heap.size + 1 + 1 + 1) (R := fun w1 => w1.cell? ⟨w.heap.size + 1 + 1 + 1, 0, none⟩ = some (.int .i64 3)) _ (fun (e : W.heap.size = _) => by omega) ((cost1_calls (h.fr0 hFwa) (hFwa.cell h0 (fun h => h)) (hFwa.cell h1 (fun h => h)) (fun j v hj => hFwa.cell (hr j v hj) (fun h => h)) (heap_cell (o := 0) (heap_alloc _ hb0) rfl) (heap_cell (o := 0) (heap_alloc _ hb1) rfl) (heap_cell (o := 0) (heap_alloc _ hb2) rfl) (heap_alloc _ hb3)))).mono ?_
  rintro e w2 ⟨rfl, w1, k3, hF1, rfl⟩
  have hF2 : Fr (fun k => k = W.heap.size) w1 (w1.setCell ⟨W.heap.size, 0, none⟩ (.int .i64 0)) := (Fr.refl (fun k => k = W.heap.size) w1).setCell (p := ⟨W.heap.size, 0, none⟩) (fun _ => rfl) _
  have k3 := hF2.cell k3 (fun (e : _ = W.heap.size) => by omega)
  have HF2 := Lib.hid ((hFwa.trans' hF1 (fun i hi (e : i = _) => by omega)).trans' hF2 (fun i hi (e : i = _) => by omega))
  generalize w1.setCell ⟨W.heap.size, 0, none⟩ (.int .i64 0) = W2 at *
  clear hW hF hs hb0 hb1 hb2 hb3 hFA hF1 hFwa hF2 h h0 h1 hr
  go_wp2_with fail
  go_ret2
  exact ⟨rfl, HF2.out⟩
end Go.Proofs.YtpcikbloflpahaaDoor
