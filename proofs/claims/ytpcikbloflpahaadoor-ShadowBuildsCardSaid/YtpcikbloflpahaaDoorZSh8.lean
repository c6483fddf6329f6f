/-
  Chapter 7: a disk of ten sectors: Write.
-/
import Derived.Test.YtpcikbloflpahaaDoorZSh7
namespace Go.Proofs.YtpcikbloflpahaaDoor
set_option linter.unusedVariables false
set_option linter.unusedSimpArgs false
open Go.RowKit Go.Shelf Go.Maps

theorem alloc_sec {ops : Array Oper} {rest : List Oper} {o : Oper} {a : Act} {w : World} {Q : Exit → Act → World → Prop} (hg : o.guard = none) (ho : o.op = .alloc 92)
    (hK : wpList Tryd.prog ops Q rest (a.put o.dst (.pointer (some ⟨w.heap.size, 0, none⟩))) (w.alloc (.cells (bys (zs 64)).toArray 92))) : wpList Tryd.prog ops Q (o :: rest) a w := by
  have hr : (Instr.alloc 92 true (.tuple #[])).run Tryd.prog w = .ok (.pointer (some ⟨w.heap.size, 0, none⟩)) (w.alloc (.cells (bys (zs 64)).toArray 92)) := by kernel_rfl
  refine wpList_plain hg fun K' hK' => ?_
  unfold Oper.wp
  simp only [execOp, ho, Sem.run_bind, hr, Result.andThen]
  exact hK' _ _ hK
theorem load_sec {ops : Array Oper} {rest : List Oper} {o : Oper} {a : Act} {w : World} {Q : Exit → Act → World → Prop} (hg : o.guard = none) (x : Operand) (ho : o.op = .load 92 x)
    (b off : Nat) (l : List Int) (hx : a.eval x = .pointer (some ⟨b, off, none⟩)) (h : w.rangeAt b off (bys l)) (hl : (bys l).length = 64)
    (hK : wpList Tryd.prog ops Q rest (a.put o.dst (.agg (bys l).toArray)) w) : wpList Tryd.prog ops Q (o :: rest) a w :=
  wpList_load_mid hg _ x ho b off hx (bys l) _ h Tryd.underlying92 rfl (by rw [size_sec, hl]) hK
theorem store_sec {ops : Array Oper} {rest : List Oper} {o : Oper} {a : Act} {w : World} {Q : Exit → Act → World → Prop} (hg : o.guard = none) (x y : Operand) (ho : o.op = .store 92 x y)
    (b : Nat) (l : List Int) (old : List Value) (t : TypeId) (hx : a.eval x = .pointer (some ⟨b, 0, none⟩)) (hy : a.eval y = .agg (bys l).toArray) (hl : (bys l).length = 64) (hb : w.heap[b]? = some (.cells old.toArray t (0, 0))) (ho' : old.length = 64)
    (hK : ∀ w', w'.heap[b]? = some (.cells (bys l).toArray t (0, 0)) → Fr (fun k => k = b) w w' → wpList Tryd.prog ops Q rest (a.put o.dst undef) w') : wpList Tryd.prog ops Q (o :: rest) a w := by
  refine wpList_store_mid hg _ x y ho b 0 (bys l).toArray hx hy (fun j hj => ?_) (by rw [size_sec, List.size_toArray, hl]) (all_oneCell_toArray (bys_one l)) (hK _ (heap_setCells7 hb _ (by rw [ho', hl])) (fr_setCells7 _ _ _ _))
  have hj' : j < old.length := by simpa [ho', hl] using hj
  rw [Nat.zero_add]
  exact ⟨by rw [heap_cell hb (v := old[j]) (by simp [hj'])]; rfl, heap_frozen hb⟩

def zwait : Value := .agg (.int .i64 0 :: bys (zs 64)).toArray
theorem built_wait (parts : List (Nat × Value)) : Tryd.prog.built 119 parts = Instr.fill (fun i => (#[(0, 1), (1, 64)] : Array (Nat × Nat))[i]?) zwait.cells parts := by kernel_rfl
theorem run_build_wait (w : World) (n : Int) (cs : List Value) (hc : cs.length = 64) : (Instr.build 119 #[(0, .int .i64 n), (1, .agg cs.toArray)]).run Tryd.prog w = .ok (.agg (.int .i64 n :: cs).toArray) w := by
  refine run_build w _ _ _ ?_
  rw [built_wait]
  exact fill_two7 (n := 64) rfl rfl hc _ rfl rfl
theorem yields_build_wait {ops : Array Oper} {S : World → Prop} {o : Oper} {a : Act} (hg : Region.wanted o (yielded ops a.tmps) = true) (x y : Operand) (ho : o.op = .build 119 #[(0, x), (1, y)]) (n : Int) (cs : List Value) (hx : a.eval x = .int .i64 n) (hy : a.eval y = .agg cs.toArray) (hc : cs.length = 64) :
    YieldsIf Tryd.prog ops S o (.agg (.int .i64 n :: cs).toArray) a := by
  refine Or.inl ⟨hg, fun w _ => ?_⟩
  have hm : (#[((0 : Nat), x), (1, y)] : Array (Nat × Operand)).map (fun x => (x.1, a.eval x.2)) = #[(0, a.eval x), (1, a.eval y)] := by simp
  unfold execOp
  simp only [ho, Sem.run_bind, hm, hx, hy, run_build_wait w n cs hc, Result.andThen_ok]
  rfl

set_option maxHeartbeats 4000000 in
set_option maxRecDepth 1000000 in
theorem dwrite_calls {w : World} {db : Nat} {A : Nat → Prop} {acts : Nat} (h : DkAt w db A acts) (ha : acts < 10) (n : Nat) (hn : n < 10) (b off cap : Nat) (l : List Int) (hl : (bys l).length = 64) (hsl : ∀ w', Fr A w w' → w'.rangeAt b off (bys l)) :
    Calls Tryd.prog 78 #[.pointer (some ⟨db, 0, none⟩), .int .i64 (n : Int), .slice (some ⟨b, off, none⟩) 64 cap] w fun e w' => e = .returned (.int .i64 0) ∧ ∃ A', DkAt w' db A' (acts + 1) ∧ Fr A w w' ∧ Gr7 w A A' := by
  have HU := Lib.hid (dup_calls h)
  obtain ⟨lb, cb, wv, n0, hn0, h⟩ := h
  have HA := Lib.hid (dact_calls h ha)
  have HSL := Lib.hid hsl
  have hat : ∀ w : World, (Instr.arrayAt 92 (.slice (some ⟨b, off, none⟩) 64 cap)).run Tryd.prog w = .ok (.pointer (some ⟨b, off, none⟩)) w := fun w => by
    simp [Instr.arrayAt, run_underlying (show Tryd.prog.underlying 92 = some (.array 64 5) by kernel_rfl)]
  have c0 : w.cell? ⟨db, 0, none⟩ = some (.slice (some ⟨lb, 0, none⟩) 10 10) := heap_cell (o := 0) h.box rfl
  have d1 : decide ((n : Int) < 0) = false := decide_eq_false (by omega)
  have d2 : decide ((10 : Int) ≤ (n : Int)) = false := decide_eq_false (by omega)
  have H := Lib.hid h
  have HL := Lib.hid hl
  clear hsl h hl
  go_enter Tryd.func78, Tryd.ntmps78
  go_wp2_with fail
  refine HU.out.mono ?_
  rintro e w1 ⟨rfl, rfl⟩
  go_wp2_with fail
  refine HA.out.mono ?_
  rintro e w1 ⟨rfl, hD1, hF1⟩
  have HD1 := Lib.hid hD1
  have HF1 := Lib.hid (hF1.mono (T := A) (fun k _ e => e ▸ H.out.a0))
  clear hD1 hF1
  have HR1 := Lib.hid (HSL.out _ HF1.out)
  have hs7 : w1.heap.size ≥ w.heap.size := HF1.out.size
  go_upto_region 8 with (first
    | (refine load_sec rfl _ rfl b off l rfl HR1.out HL.out ?_)
    | (refine alloc_sec rfl rfl ?_)
    | (refine store_sec rfl _ _ rfl w1.heap.size l _ _ rfl rfl HL.out (heap_new _ _) rfl ?_; intro w2 hb2 hF2)
    | fail "arm")
  simp only [Act.put, List.setIfInBounds_toArray, List.set_cons_zero, List.set_cons_succ]
  have hF12 : Fr No w1 w2 := ((Fr.refl No w1).alloc _).trans' hF2 (fun i hi e => by omega)
  have hD2 := HD1.out.fr hF12 (fun _ _ h => h)
  have HD2 := Lib.hid hD2
  have HF02 := Lib.hid (HF1.out.trans hF12.no)
  obtain ⟨c, f, hmap, hc⟩ := hD2.map
  have hcn := hD2.actsn
  have hlt : cb < w1.heap.size := by obtain ⟨c', f', hm', _⟩ := HD1.out.map; exact hm'.lt
  have HLT := Lib.hid hlt
  have hdlt : db < w1.heap.size := HD1.out.low _ HD1.out.a0
  have hmd : cb ≠ db := by
    intro e
    obtain ⟨D, ⟨es, clock, hb2, -⟩, -⟩ := hmap
    rw [e, hD2.box] at hb2; cases hb2
  have HMD := Lib.hid hmd
  have HMAP := Lib.hid (hmap.fr (Fr.refl No w2).drew (fun h => h))
  have k1 : w2.drew.cell? ⟨db, 1, none⟩ = some (.map (some cb)) := heap_cell (w := w2) (o := 1) hD2.box rfl
  have kr : w2.drew.rangeAt w1.heap.size 0 (bys l) := fun j v hj => by rw [Nat.zero_add]; exact heap_cell (w := w2) hb2 (by simpa using hj)
  have HB2 := Lib.hid hb2
  have HSZ := Lib.hid (show (Tryd.prog.info? 92).map (·.size) = some (bys l).length by rw [size_sec, HL.out])
  generalize hb7 : w1.heap.size = b7 at *
  have HB7 := Lib.hid hb7
  clear hF2 hF12 hD2 hmap hlt hb2 hmd
  refine wp_region_held_drew (S := (fun w' => w'.cell? ⟨db, 1, none⟩ = some (.map (some cb)) ∧ w'.rangeAt b7 0 (bys l))) (by kernel_rfl) ⟨k1, kr⟩ (fun hS0 => ?_)
  refine take_at7 (i := 0) (d := some 36) (v := ?_) rfl rfl (by kernel_rfl) (by kernel_rfl) (by kernel_rfl) (fun _ _ _ h => h) (Or.inl ⟨by rfl, ?_⟩) (by assumption) ?_
  rotate_left
  · intro w hSw; go_simp; try (with_reducible rfl)
  try simp only [Act.put, List.setIfInBounds_toArray, List.set_cons_zero, List.set_cons_succ]
  refine take_at7 (i := 1) (d := some 37) (v := ?_) rfl rfl (by kernel_rfl) (by kernel_rfl) (by kernel_rfl) (fun _ _ _ h => h) (Or.inl ⟨by rfl, ?_⟩) (by assumption) ?_
  rotate_left
  · intro w hSw; go_simp; try (with_reducible rfl)
  try simp only [Act.put, List.setIfInBounds_toArray, List.set_cons_zero, List.set_cons_succ]
  refine take_at7 (i := 2) (d := some 38) (v := ?_) rfl rfl (by kernel_rfl) (by kernel_rfl) (by kernel_rfl) (fun _ _ _ h => h) (Or.inl ⟨by rfl, ?_⟩) (by assumption) ?_
  rotate_left
  · intro w hSw; go_simp; try (with_reducible rfl)
  try simp only [Act.put, List.setIfInBounds_toArray, List.set_cons_zero, List.set_cons_succ]
  refine take_at7 (i := 3) (d := some 39) (v := ?_) rfl rfl (by kernel_rfl) (by kernel_rfl) (by kernel_rfl) (fun _ _ _ h => h) (Or.inl ⟨by rfl, ?_⟩) (by assumption) ?_
  rotate_left
  · intro w hSw; go_simp; try (with_reducible rfl)
  try simp only [Act.put, List.setIfInBounds_toArray, List.set_cons_zero, List.set_cons_succ]
  refine take_at7 (i := 4) (d := some 40) (v := ?_) rfl rfl (by kernel_rfl) (by kernel_rfl) (by kernel_rfl) (fun _ _ _ h => h) (Or.inl ⟨by rfl, ?_⟩) (by assumption) ?_
  rotate_left
  · intro w hSw; go_simp; try (with_reducible rfl)
  try simp only [Act.put, List.setIfInBounds_toArray, List.set_cons_zero, List.set_cons_succ]
  refine take_at7 (i := 5) (d := some 41) (v := .agg (bys l).toArray) rfl rfl (by kernel_rfl) (by kernel_rfl) (by kernel_rfl) (fun _ _ _ h => h) (yieldsIf_load_mid (by rfl) _ _ rfl b7 0 rfl (bys l) _ (fun _ h => h.2) Tryd.underlying92 rfl HSZ.out) (by assumption) ?_
  try simp only [Act.put, List.setIfInBounds_toArray, List.set_cons_zero, List.set_cons_succ]
  refine one_H7 (i := 6) (d := none) rfl rfl rfl (by kernel_rfl) (fun K hK => ?_)
  refine (wp_map_put7 (.tmp 39) (.tmp 40) (.tmp 41) 85 rfl rfl HMAP.out Tryd.underlying3 Tryd.underlying85 (by unfold maxLen; omega) (n : Int) (by omega) (.agg (bys l).toArray) rfl rfl ?_)
  intro w3 hmap3 hF3
  have hF23 : Fr (fun j => j = cb) w2 w3 := ((Fr.refl _ _).drew).trans hF3
  have g1 : w3.cell? ⟨db, 1, none⟩ = some (.map (some cb)) := hF3.cell k1 (fun e => HMD.out e.symm)
  have gr : w3.rangeAt b7 0 (bys l) := fun j v hj => hF3.cell (kr j v hj) (fun e => by have := HLT.out; omega)
  refine hK.out _ _ ⟨g1, gr⟩ (fun hHeld => ?_)
  clear hK K
  try simp only [Act.put, List.setIfInBounds_toArray, List.set_cons_zero, List.set_cons_succ]
  refine wpAnyH_done (by kernel_rfl) ?_ _
  have GR := Lib.hid gr
  have HD3 : RowKit.Hid (DkIn w3 db lb cb wv (acts + 1) (n0 + 1) A) := Lib.hid (by
    obtain ⟨m, ws, h3, h4⟩ := HD2.out.row
    exact ⟨hF23.heap HD2.out.box (fun e => HMD.out e.symm), ⟨_, _, hmap3, by split <;> omega⟩, ⟨m, ws, ownsRow_fr7 h3 hF23 (fun k e e2 => by obtain ⟨c', f', hm', _⟩ := HD2.out.map; exact map_apart7 hm' h3 (e2 ▸ e)), by omega⟩, by have := HD2.out.acts1; omega, HD2.out.acts1, HD2.out.a0, HD2.out.a1, HD2.out.a2, fun k hk => Nat.lt_of_lt_of_le (HD2.out.low k hk) hF23.size⟩)
  have HF03 := Lib.hid (HF02.out.trans (hF23.mono (T := A) (fun k _ e => e ▸ H.out.a1)))
  clear hmap3 hF3 hF23 g1 gr kr k1 hHeld hS0
  go_upto_region 9 with fail
  have krr : w3.drew.rangeAt b7 0 (bys l) := fun j v hj => GR.out j v hj
  have HP := Lib.hid (dput_calls (HD3.out.fr (Fr.refl No w3).drew (fun _ _ h => h)) (by omega) (.int .i64 (n : Int) :: bys l) (by rw [List.length_cons, HL.out]) (fun u hu => by
    rcases List.mem_cons.1 hu with rfl | hu
    · rfl
    · exact bys_one _ u hu))
  refine wp_region_held_drew (S := (fun w' => w'.rangeAt b7 0 (bys l))) (by kernel_rfl) krr (fun hS0 => ?_)
  refine take_at7 (i := 0) (d := some 42) (v := ?_) rfl rfl (by kernel_rfl) (by kernel_rfl) (by kernel_rfl) (fun _ _ _ h => h) (Or.inl ⟨by rfl, ?_⟩) (by assumption) ?_
  rotate_left
  · intro w hSw; go_simp; try (with_reducible rfl)
  try simp only [Act.put, List.setIfInBounds_toArray, List.set_cons_zero, List.set_cons_succ]
  refine take_at7 (i := 1) (d := some 43) (v := ?_) rfl rfl (by kernel_rfl) (by kernel_rfl) (by kernel_rfl) (fun _ _ _ h => h) (Or.inl ⟨by rfl, ?_⟩) (by assumption) ?_
  rotate_left
  · intro w hSw; go_simp; try (with_reducible rfl)
  try simp only [Act.put, List.setIfInBounds_toArray, List.set_cons_zero, List.set_cons_succ]
  refine take_at7 (i := 2) (d := some 44) (v := ?_) rfl rfl (by kernel_rfl) (by kernel_rfl) (by kernel_rfl) (fun _ _ _ h => h) (Or.inl ⟨by rfl, ?_⟩) (by assumption) ?_
  rotate_left
  · intro w hSw; go_simp; try (with_reducible rfl)
  try simp only [Act.put, List.setIfInBounds_toArray, List.set_cons_zero, List.set_cons_succ]
  refine take_at7 (i := 3) (d := some 45) (v := ?_) rfl rfl (by kernel_rfl) (by kernel_rfl) (by kernel_rfl) (fun _ _ _ h => h) (Or.inl ⟨by rfl, ?_⟩) (by assumption) ?_
  rotate_left
  · intro w hSw; go_simp; try (with_reducible rfl)
  try simp only [Act.put, List.setIfInBounds_toArray, List.set_cons_zero, List.set_cons_succ]
  refine take_at7 (i := 4) (d := some 46) (v := .agg (bys l).toArray) rfl rfl (by kernel_rfl) (by kernel_rfl) (by kernel_rfl) (fun _ _ _ h => h) (yieldsIf_load_mid (by rfl) _ _ rfl b7 0 rfl (bys l) _ (fun _ h => h) Tryd.underlying92 rfl HSZ.out) (by assumption) ?_
  try simp only [Act.put, List.setIfInBounds_toArray, List.set_cons_zero, List.set_cons_succ]
  refine take_at7 (i := 5) (d := some 47) (v := .agg (.int .i64 (n : Int) :: bys l).toArray) rfl rfl (by kernel_rfl) (by kernel_rfl) (by kernel_rfl) (fun _ _ _ h => h) (yields_build_wait (by rfl) _ _ rfl (n : Int) (bys l) rfl rfl HL.out) (by assumption) ?_
  try simp only [Act.put, List.setIfInBounds_toArray, List.set_cons_zero, List.set_cons_succ]
  refine one_H7 (i := 6) (d := some 48) rfl rfl rfl (by kernel_rfl) (fun K hK => ?_)
  go_simp
  go_loud (go_at_call 90; ((with_reducible refine HP.out.mono ?_); rintro e w4 ⟨rfl, wv', A', hD4, hF4, hG4⟩))
  refine hK.out _ _ (fun j v hj => hF4.cell (krr j v hj) (fun e => by have := HD1.out.low _ e; rw [HB7.out] at this; omega)) (fun hHeld => ?_)
  clear hK K hHeld hS0 krr
  try simp only [Act.put, List.setIfInBounds_toArray, List.set_cons_zero, List.set_cons_succ]
  refine wpAnyH_done (by kernel_rfl) ?_ _
  have HD4 := Lib.hid hD4
  have HF4 := Lib.hid hF4
  have HG4 := Lib.hid hG4
  clear hD4 hF4 hG4
  go_wp2_with fail
  go_ret
  exact ⟨rfl, A', ⟨lb, cb, wv', n0 + 1 + 1, by omega, HD4.out⟩, HF03.out.trans ((Fr.refl No w3).drew.no.trans HF4.out), fun j hj => (HG4.out j hj).imp id (fun h => Nat.le_trans HF03.out.size h)⟩
end Go.Proofs.YtpcikbloflpahaaDoor
