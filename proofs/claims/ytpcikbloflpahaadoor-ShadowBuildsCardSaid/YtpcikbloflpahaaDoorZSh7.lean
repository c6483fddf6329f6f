/-
  Chapter 7: a disk of ten sectors: Write.
-/
import Derived.Test.YtpcikbloflpahaaDoorYB
namespace Go.Proofs.YtpcikbloflpahaaDoor
set_option linter.unusedVariables false
set_option linter.unusedSimpArgs false
open Go.RowKit Go.Shelf Go.Maps

theorem el_wait : Elem Tryd.prog 86 119 (.agg (.int .i64 0 :: bys (zs 64)).toArray) 65 72 := ⟨by kernel_rfl, by kernel_rfl, by kernel_rfl, by decide⟩
theorem size_wait : (Tryd.prog.info? 119).map (·.size) = some 65 := by kernel_rfl
theorem size_sec : (Tryd.prog.info? 92).map (·.size) = some 64 := by kernel_rfl

theorem info_wait : (Tryd.prog.info? 119).map (fun i => (i.zero, i.size, i.bytes)) = some (some (.agg (.int .i64 0 :: bys (zs 64)).toArray), 65, 72) := by kernel_rfl
theorem run_slice_wait (w : World) (cs : List Value) (hc : cs.length = 65) : (Instr.buildSlice 86 1 #[(0, .agg cs.toArray)]).run Tryd.prog w = .ok (.slice (some ⟨w.heap.size, 0, none⟩) 1 1) (w.alloc (.cells cs.toArray 119)) := by
  have hE := info_wait
  cases hi : Tryd.prog.info? 119 with
  | none => rw [hi] at hE; simp at hE
  | some i =>
    rw [hi] at hE
    simp only [Option.map_some, Option.some.injEq, Prod.mk.injEq] at hE
    obtain ⟨h1, h2, h3⟩ := hE
    refine run_buildSlice w 86 119 1 _ cs.toArray i _ Tryd.underlying86 hi h1 (by rw [h2]; decide) (by rw [h2]; decide) ?_
    exact fill_one7 (n := 65) (by rw [h2]; simp) hc _ (by rw [h2])

theorem step_wp7 {P : Program} {ops : Array Oper} {o : Oper} {a : Act} {w : World} {K : Act → World → Prop} {Q : Exit → Act → World → Prop} {E : Prop} (hgd : o.guard = none) (h : Oper.wp P o a w K Q) :
    if Region.wanted o (yielded ops a.tmps) = true then Oper.wp P o a w K Q else E := by
  rw [if_pos (by simp [Region.wanted, hgd])]; exact h
theorem wp_slice_wait {o : Oper} {a : Act} {w : World} {K : Act → World → Prop} {Q : Exit → Act → World → Prop} (x : Operand) (ho : o.op = .buildSlice 86 1 #[(0, x)]) (cs : List Value) (hx : a.eval x = .agg cs.toArray) (hc : cs.length = 65)
    (h : K (a.put o.dst (.slice (some ⟨w.heap.size, 0, none⟩) 1 1)) (w.alloc (.cells cs.toArray 119))) : o.wp Tryd.prog a w K Q := by
  unfold Oper.wp execOp
  have hm : (#[((0 : Nat), x)] : Array (Nat × Operand)).map (fun x => (x.1, a.eval x.2)) = #[(0, a.eval x)] := by simp
  simp only [ho, Sem.run_bind, hm, hx, run_slice_wait w cs hc, Result.andThen_ok]
  exact h

theorem take_any7 {P : Program} {md : Region.Mode} {ops : Array Oper} {Q : Exit → Act → World → Prop} {i : Nat} {oi : Oper} {d : Option Tmp} {v : Value} {fuel : Nat} {listed : Array Bool} {a : Act} {w : World} (hi : ops[i]? = some oi) (hd : oi.dst = d)
    (hs : Region.noSelect ops = true) (hf : Region.free md ops listed i = true) (hr : (Region.ready md ops listed).contains i = true)
    (hQ : ∀ c a w, Q (.panic c) (a.put d v) w → Q (.panic c) a w) (hy : Yields P ops oi v a)
    (h : wpAny P md ops Q fuel (listed.setIfInBounds i true) (a.put d v) w) : wpAny P md ops Q (fuel + 1) listed a w := by
  subst hd; exact wpAny_take hi hs hf hr hQ hy h
theorem one_any7 {P : Program} {md : Region.Mode} {ops : Array Oper} {Q : Exit → Act → World → Prop} {i : Nat} {oi : Oper} {d : Option Tmp} {fuel : Nat} {listed : Array Bool} {a : Act} {w : World} (hi : ops[i]? = some oi) (hd : oi.dst = d) (hg : oi.guard = none) (hr : Region.ready md ops listed = [i])
    (h : ∀ K' : Act → World → Prop, (∀ v w', wpAny P md ops Q fuel (listed.setIfInBounds i true) (a.put d v) w' → K' (a.put oi.dst v) w') → Oper.wp P oi a w K' Q) : wpAny P md ops Q (fuel + 1) listed a w := by
  subst hd
  exact wpAny_ready hr (by simp) (AllReady.cons hi (fun K hK => step_wp7 hg (h K (fun v w' => hK _ w'))) AllReady.nil)
theorem one_H7 {P : Program} {md : Region.Mode} {ops : Array Oper} {Q : Exit → Act → World → Prop} {S : World → Prop} {i : Nat} {oi : Oper} {d : Option Tmp} {fuel : Nat} {listed : Array Bool} {a : Act} {w : World} (hi : ops[i]? = some oi) (hd : oi.dst = d) (hg : oi.guard = none) (hr : Region.ready md ops listed = [i])
    (h : ∀ K' : Act → World → Prop, Shut (∀ v w', S w' → (S w' → wpAnyH P md ops Q S fuel (listed.setIfInBounds i true) (a.put d v) w') → K' (a.put oi.dst v) w') → Oper.wp P oi a w K' Q) : wpAnyH P md ops Q S (fuel + 1) listed a w := by
  subst hd
  exact wpAnyH_ready hr (by simp) (AllReadyH.cons hi (fun K hK => step_wp7 hg (h K (fun v w' => hK _ w'))) AllReadyH.nil)
theorem load_any7 {P : Program} {ops : Array Oper} {Q : Exit → Act → World → Prop} {S : World → Prop} {K : Act → World → Prop} {i : Nat} {oi : Oper} {d : Option Tmp} {v : Value} {a : Act} {w : World} (hi : ops[i]? = some oi) (hd : oi.dst = d) (hy : YieldsIf P ops S oi v a) (hS : S w) (h : K (a.put d v) w) : wpOp P ops Q i K a w := by
  subst hd; exact hy.wpOp hi hS h
theorem wp_map_put7 {P : Program} {w : World} {o : Oper} {a : Act} {K : Act → World → Prop} {Q : Exit → Act → World → Prop} (m x v : Operand) (t : TypeId) (hop : o.op = Op.mapUpdate t m x v)
    {k e : TypeId} {b c : Nat} {f : Int → Option Value} (hm : a.eval m = .map (some b)) (h : MapAt P k w b c f) (hk : P.underlying k = some (.int .i64)) (ht : P.underlying t = some (.map k e)) (hn : c < maxLen) (i : Int) (hi : -9223372036854775808 ≤ i ∧ i ≤ 9223372036854775807) (u : Value)
    (hx : a.eval x = .int .i64 i) (hv : a.eval v = u)
    (hK : ∀ w', MapAt P k w' b (if (f i).isSome then c else c + 1) (upd f i (some u)) → Fr (fun j => j = b) w w' → K (a.put o.dst undef) w') : Oper.wp P o a w K Q := by
  obtain ⟨w', hrun, r1, r2⟩ := h.put hk ht hn i hi u
  unfold Oper.wp
  simp [execOp, hop, hm, hx, hv, hrun, Result.andThen]
  exact hK w' r1 r2
theorem wp_append_sl7 {P : Program} {w : World} {o : Oper} {a : Act} {K : Act → World → Prop} {Q : Exit → Act → World → Prop} {t e : TypeId} {z : Value} {size bytes : Nat} (hE : Elem P t e z size bytes)
    (hgd : o.guard = none) (s x : Operand) (ho : o.op = .call { callee := .builtin .append, args := #[s, x], argTypes := #[t, t] })
    (base : Nat) (v : Value) (k : Nat) (xs : List Value) (hs : a.eval s = v) (hown : w.ownsRow base e size v k xs) {y : Value} {m : Nat} {cs : List Value} (hx : a.eval x = y) (hsl : Sl w y m cs) (hn : cs.length = m * size)
    (h1c : ∀ u ∈ cs, u.oneCell' = true) (b1 : k + m ≤ maxLen) (b2 : (k + m) * bytes ≤ 140737488355328) (b3 : base ≤ w.heap.size)
    (h : ∀ a' n' c' w', w'.ownsRow base e size (.slice a' n' c') (k + m) (xs ++ cs) → w.grownBy w' v.ownBlock → ((Value.slice a' n' c').ownBlock = v.ownBlock ∨ (Value.slice a' n' c').ownBlock = some w.heap.size) → K (a.put o.dst (.slice a' n' c')) w') : Oper.wp P o a w K Q := by
  have := step_append_sl (E := False) (ops := #[o]) (Q := Q) hE hgd s x ho base v k xs hs hown hx hsl hn h1c b1 b2 b3 h
  split at this
  · exact this
  · exact this.elim
set_option maxHeartbeats 4000000 in
set_option maxRecDepth 1000000 in
theorem dput_calls {w : World} {db lb cb : Nat} {wv : Value} {acts n : Nat} {A : Nat → Prop} (h : DkIn w db lb cb wv acts n A) (hn : n < 100) (cs : List Value) (hc : cs.length = 65) (h1c : ∀ u ∈ cs, u.oneCell' = true) :
    Calls Tryd.prog 90 #[.pointer (some ⟨db, 2, none⟩), .agg cs.toArray] w fun e w' => e = .returned (.tuple #[]) ∧ ∃ (wv' : Value) (A' : Nat → Prop), DkIn w' db lb cb wv' acts (n + 1) A' ∧ Fr A w w' ∧ Gr7 w A A' := by
  have H := Lib.hid h
  obtain ⟨m, ws, hrow, hm⟩ := h.row
  have HRW := Lib.hid hrow
  obtain ⟨av, cv, rfl⟩ := (Sl.of_owns hrow).form
  have hF0 : Fr No w (w.alloc (Obj.cells cs.toArray 119)) := (Fr.refl _ _).alloc _
  have hb0 := heap_new w (Obj.cells cs.toArray 119)
  have HB := Lib.hid (hF0.heap h.box (fun h => h))
  have HF0 := Lib.hid hF0
  have HB0x := Lib.hid h.box
  have HB0 := Lib.hid hb0
  have HC := Lib.hid hc
  have H1 := Lib.hid h1c
  have hmn := h.actsn
  clear h hrow hF0 hb0 hc h1c
  go_enter Tryd.func90, Tryd.ntmps90
  go_upto_region 1 with fail
  generalize w.alloc (Obj.cells cs.toArray 119) = W at *
  generalize hb9 : w.heap.size = b9 at *
  have HB9 := Lib.hid hb9
  have hrg : W.drew.rangeAt b9 0 cs := fun j v hj => by rw [Nat.zero_add]; exact heap_cell (w := W) HB0.out (by simpa using hj)
  have HRG := Lib.hid hrg
  have k2 : W.drew.cell? ⟨db, 2, none⟩ = some (.slice av m cv) := heap_cell (w := W) HB.out rfl
  have HK2 := Lib.hid k2
  have HSZ := Lib.hid (show (Tryd.prog.info? 119).map (·.size) = some cs.length by rw [size_wait, HC.out])
  have q2 : (W.drew.alloc (Obj.cells cs.toArray 119)).cell? ⟨db, 2, none⟩ = some (.slice av m cv) := heap_cell (w := W.alloc (Obj.cells cs.toArray 119)) (heap_alloc _ HB.out) rfl
  have HQ2 := Lib.hid q2
  have hFW : Fr No w (W.drew.alloc (Obj.cells cs.toArray 119)) := HF0.out.drew.alloc _
  have HRWW := Lib.hid (ownsRow_fr7 HRW.out hFW (fun _ _ h => h))
  have HSLN := Lib.hid (sl_new7 W.drew cs 119 1 (by intro e; have := HC.out; rw [e] at this; cases this) (by omega))
  have HBW := Lib.hid (show (W.drew.alloc (Obj.cells cs.toArray 119)).heap[db]? = some (.cells (DkC lb cb (.slice av m cv) (acts : Int)).toArray 90 (0, 0)) from heap_alloc (w := W) _ HB.out)
  have HFW := Lib.hid hFW
  have hsl1 : cs.length = 1 * 65 := by rw [HC.out]
  clear hrg k2 q2 hFW
  refine wp_region_any (by kernel_rfl) ?_
  change wpAny _ _ _ _ _ _ _ (World.drew _)
  refine take_any7 (i := 0) (d := some 4) (v := ?_) rfl rfl (by kernel_rfl) (by kernel_rfl) (by kernel_rfl) (fun _ _ _ h => h) (Or.inl ⟨by rfl, ?_⟩) ?_
  rotate_left
  · intro w; go_simp; try (with_reducible rfl)
  try simp only [Act.put, List.setIfInBounds_toArray, List.set_cons_zero, List.set_cons_succ]
  refine take_any7 (i := 1) (d := some 5) (v := ?_) rfl rfl (by kernel_rfl) (by kernel_rfl) (by kernel_rfl) (fun _ _ _ h => h) (Or.inl ⟨by rfl, ?_⟩) ?_
  rotate_left
  · intro w; go_simp; try (with_reducible rfl)
  try simp only [Act.put, List.setIfInBounds_toArray, List.set_cons_zero, List.set_cons_succ]
  refine take_any7 (i := 2) (d := some 6) (v := ?_) rfl rfl (by kernel_rfl) (by kernel_rfl) (by kernel_rfl) (fun _ _ _ h => h) (Or.inl ⟨by rfl, ?_⟩) ?_
  rotate_left
  · intro w; go_simp; try (with_reducible rfl)
  try simp only [Act.put, List.setIfInBounds_toArray, List.set_cons_zero, List.set_cons_succ]
  refine take_any7 (i := 3) (d := some 7) (v := ?_) rfl rfl (by kernel_rfl) (by kernel_rfl) (by kernel_rfl) (fun _ _ _ h => h) (Or.inl ⟨by rfl, ?_⟩) ?_
  rotate_left
  · intro w; go_simp; try (with_reducible rfl)
  try simp only [Act.put, List.setIfInBounds_toArray, List.set_cons_zero, List.set_cons_succ]
  refine wpAny_all (rs := [4, 5]) (by kernel_rfl) (by simp) ?_
  intro i hi
  simp only [List.mem_cons, List.not_mem_nil, or_false] at hi
  rcases hi with rfl | rfl
  · refine load_any7 (d := some 8) (v := .slice av m cv) (S := fun w' => w'.cell? ⟨db, 2, none⟩ = some (.slice av m cv)) rfl rfl (Or.inl ⟨by rfl, by intro w hSw; go_simp; try (with_reducible rfl)⟩) HK2.out ?_
    try simp only [Act.put, List.setIfInBounds_toArray, List.set_cons_zero, List.set_cons_succ]
    refine wpAny_all (rs := [5]) (by kernel_rfl) (by simp) ?_
    intro i hi
    simp only [List.mem_cons, List.not_mem_nil, or_false] at hi
    subst hi
    refine load_any7 (d := some 9) (v := .agg cs.toArray) (S := fun w' => w' = W.drew) rfl rfl (yieldsIf_load_mid (by rfl) _ _ rfl b9 0 rfl cs _ (fun _ h => by rw [h]; exact HRG.out) Tryd.underlying119 rfl HSZ.out) rfl ?_
    try simp only [Act.put, List.setIfInBounds_toArray, List.set_cons_zero, List.set_cons_succ]
    refine one_any7 (i := 6) (d := some 10) rfl rfl rfl (by kernel_rfl) (fun K hK => ?_)
    refine wp_slice_wait _ rfl cs rfl HC.out ?_
    refine hK _ _ ?_
    clear hK K
    try simp only [Act.put, List.setIfInBounds_toArray, List.set_cons_zero, List.set_cons_succ]
    generalize W.drew.alloc (Obj.cells cs.toArray 119) = W1 at *
    refine one_any7 (i := 7) (d := some 11) rfl rfl rfl (by kernel_rfl) (fun K hK => ?_)
    refine wp_append_sl7 el_wait rfl _ _ rfl 0 (.slice av m cv) m ws rfl HRWW.out rfl HSLN.out hsl1 H1.out (by unfold maxLen; omega) (by omega) (Nat.zero_le _) ?_
    intro a4 n4 c4 w4 hown4 hgrow4 hlie4
    refine hK _ _ ?_
    clear hK K
    try simp only [Act.put, List.setIfInBounds_toArray, List.set_cons_zero, List.set_cons_succ]
    have hgr := fr_grown7 hgrow4
    have hb4 := hgr.heap HBW.out (fun e => not_row7 HBW.out (fun cs f e3 => by injection e3 with _ e3; exact absurd e3 (by decide)) HRWW.out _ e rfl)
    have HB4 := Lib.hid hb4
    have HO4 := Lib.hid hown4
    have HG4 := Lib.hid hgr
    have HL4 := Lib.hid hlie4
    have k4 := heap_cell (o := 2) hb4 rfl
    have f4 := heap_frozen (o := 2) hb4
    clear hb4 hown4 hgrow4 hlie4 hgr
    refine take_any7 (i := 8) (d := some 12) (v := ?_) rfl rfl (by kernel_rfl) (by kernel_rfl) (by kernel_rfl) (fun _ _ _ h => h) (Or.inl ⟨by rfl, ?_⟩) ?_
    rotate_left
    · intro w; go_simp; try (with_reducible rfl)
    try simp only [Act.put, List.setIfInBounds_toArray, List.set_cons_zero, List.set_cons_succ]
    refine take_any7 (i := 9) (d := some 13) (v := ?_) rfl rfl (by kernel_rfl) (by kernel_rfl) (by kernel_rfl) (fun _ _ _ h => h) (Or.inl ⟨by rfl, ?_⟩) ?_
    rotate_left
    · intro w; go_simp; try (with_reducible rfl)
    try simp only [Act.put, List.setIfInBounds_toArray, List.set_cons_zero, List.set_cons_succ]
    refine wpAny_ready (rs := [10]) (by kernel_rfl) (by simp) (AllReady.cons rfl (fun K hK => ?_) AllReady.nil)
    go_simp
    refine hK _ _ ?_
    clear hK K
    refine wpAny_done (by kernel_rfl) ?_ _
    go_end0
    have hb5 := heap_setAt7 HB4.out 2 (.slice a4 n4 c4)
    have hF5 : Fr (fun k => k = db) w4 (w4.setCell ⟨db, 2, none⟩ (.slice a4 n4 c4)) := (Fr.refl (fun k => k = db) w4).setCell (p := ⟨db, 2, none⟩) (fun _ => rfl) _
    have hFall : Fr (fun k => k = db ∨ (Value.slice av m cv).ownBlock = some k) w (w4.setCell ⟨db, 2, none⟩ (.slice a4 n4 c4)) := ((HFW.out.no).trans (HG4.out.mono (fun _ _ h => .inr h))).trans' hF5 (fun _ _ h => .inl h)
    have hO5 := ownsRow_fr7 HO4.out hF5 (fun q hq e => not_row7 HB4.out (fun cs f e3 => by injection e3 with _ e3; exact absurd e3 (by decide)) HO4.out q hq e)
    obtain ⟨c, f, hmap, hc⟩ := H.out.map
    have hmd : cb ≠ db := by
      intro e
      obtain ⟨D, ⟨es, clock, hb2, -⟩, -⟩ := hmap
      rw [e, HB0x.out] at hb2; cases hb2
    refine ⟨rfl, .slice a4 n4 c4, fun k => A k ∨ (Value.slice a4 n4 c4).ownBlock = some k, ⟨hb5, ⟨c, f, hmap.fr hFall (fun e => e.elim hmd (fun e => map_apart7 hmap HRW.out e)), by omega⟩, ⟨m + 1, _, hO5, by omega⟩, by omega, H.out.acts1, .inl H.out.a0, .inl H.out.a1, fun k e => .inr e, fun k hk => ?_⟩, hFall.mono (fun k _ h => h.elim (fun e => e ▸ H.out.a0) (fun e => H.out.a2 k e)), fun k hk => ?_⟩
    · rcases hk with hk | hk
      · exact Nat.lt_of_lt_of_le (H.out.low k hk) hFall.size
      · exact (hO5.lt k hk).2
    · rcases hk with hk | hk
      · exact .inl hk
      · rcases HL4.out with e | e
        · exact .inl (H.out.a2 k (by rw [← e]; exact hk))
        · rw [e] at hk
          injection hk with hk
          exact .inr (by rw [← hk]; exact HFW.out.size)
  · refine load_any7 (d := some 9) (v := .agg cs.toArray) (S := fun w' => w' = W.drew) rfl rfl (yieldsIf_load_mid (by rfl) _ _ rfl b9 0 rfl cs _ (fun _ h => by rw [h]; exact HRG.out) Tryd.underlying119 rfl HSZ.out) rfl ?_
    try simp only [Act.put, List.setIfInBounds_toArray, List.set_cons_zero, List.set_cons_succ]
    refine wpAny_all (rs := [4, 6]) (by kernel_rfl) (by simp) ?_
    intro i hi
    simp only [List.mem_cons, List.not_mem_nil, or_false] at hi
    rcases hi with rfl | rfl
    · refine load_any7 (d := some 8) (v := .slice av m cv) (S := fun w' => w'.cell? ⟨db, 2, none⟩ = some (.slice av m cv)) rfl rfl (Or.inl ⟨by rfl, by intro w hSw; go_simp; try (with_reducible rfl)⟩) HK2.out ?_
      try simp only [Act.put, List.setIfInBounds_toArray, List.set_cons_zero, List.set_cons_succ]
      refine one_any7 (i := 6) (d := some 10) rfl rfl rfl (by kernel_rfl) (fun K hK => ?_)
      refine wp_slice_wait _ rfl cs rfl HC.out ?_
      refine hK _ _ ?_
      clear hK K
      try simp only [Act.put, List.setIfInBounds_toArray, List.set_cons_zero, List.set_cons_succ]
      generalize W.drew.alloc (Obj.cells cs.toArray 119) = W1 at *
      refine one_any7 (i := 7) (d := some 11) rfl rfl rfl (by kernel_rfl) (fun K hK => ?_)
      refine wp_append_sl7 el_wait rfl _ _ rfl 0 (.slice av m cv) m ws rfl HRWW.out rfl HSLN.out hsl1 H1.out (by unfold maxLen; omega) (by omega) (Nat.zero_le _) ?_
      intro a4 n4 c4 w4 hown4 hgrow4 hlie4
      refine hK _ _ ?_
      clear hK K
      try simp only [Act.put, List.setIfInBounds_toArray, List.set_cons_zero, List.set_cons_succ]
      have hgr := fr_grown7 hgrow4
      have hb4 := hgr.heap HBW.out (fun e => not_row7 HBW.out (fun cs f e3 => by injection e3 with _ e3; exact absurd e3 (by decide)) HRWW.out _ e rfl)
      have HB4 := Lib.hid hb4
      have HO4 := Lib.hid hown4
      have HG4 := Lib.hid hgr
      have HL4 := Lib.hid hlie4
      have k4 := heap_cell (o := 2) hb4 rfl
      have f4 := heap_frozen (o := 2) hb4
      clear hb4 hown4 hgrow4 hlie4 hgr
      refine take_any7 (i := 8) (d := some 12) (v := ?_) rfl rfl (by kernel_rfl) (by kernel_rfl) (by kernel_rfl) (fun _ _ _ h => h) (Or.inl ⟨by rfl, ?_⟩) ?_
      rotate_left
      · intro w; go_simp; try (with_reducible rfl)
      try simp only [Act.put, List.setIfInBounds_toArray, List.set_cons_zero, List.set_cons_succ]
      refine take_any7 (i := 9) (d := some 13) (v := ?_) rfl rfl (by kernel_rfl) (by kernel_rfl) (by kernel_rfl) (fun _ _ _ h => h) (Or.inl ⟨by rfl, ?_⟩) ?_
      rotate_left
      · intro w; go_simp; try (with_reducible rfl)
      try simp only [Act.put, List.setIfInBounds_toArray, List.set_cons_zero, List.set_cons_succ]
      refine wpAny_ready (rs := [10]) (by kernel_rfl) (by simp) (AllReady.cons rfl (fun K hK => ?_) AllReady.nil)
      go_simp
      refine hK _ _ ?_
      clear hK K
      refine wpAny_done (by kernel_rfl) ?_ _
      go_end0
      have hb5 := heap_setAt7 HB4.out 2 (.slice a4 n4 c4)
      have hF5 : Fr (fun k => k = db) w4 (w4.setCell ⟨db, 2, none⟩ (.slice a4 n4 c4)) := (Fr.refl (fun k => k = db) w4).setCell (p := ⟨db, 2, none⟩) (fun _ => rfl) _
      have hFall : Fr (fun k => k = db ∨ (Value.slice av m cv).ownBlock = some k) w (w4.setCell ⟨db, 2, none⟩ (.slice a4 n4 c4)) := ((HFW.out.no).trans (HG4.out.mono (fun _ _ h => .inr h))).trans' hF5 (fun _ _ h => .inl h)
      have hO5 := ownsRow_fr7 HO4.out hF5 (fun q hq e => not_row7 HB4.out (fun cs f e3 => by injection e3 with _ e3; exact absurd e3 (by decide)) HO4.out q hq e)
      obtain ⟨c, f, hmap, hc⟩ := H.out.map
      have hmd : cb ≠ db := by
        intro e
        obtain ⟨D, ⟨es, clock, hb2, -⟩, -⟩ := hmap
        rw [e, HB0x.out] at hb2; cases hb2
      refine ⟨rfl, .slice a4 n4 c4, fun k => A k ∨ (Value.slice a4 n4 c4).ownBlock = some k, ⟨hb5, ⟨c, f, hmap.fr hFall (fun e => e.elim hmd (fun e => map_apart7 hmap HRW.out e)), by omega⟩, ⟨m + 1, _, hO5, by omega⟩, by omega, H.out.acts1, .inl H.out.a0, .inl H.out.a1, fun k e => .inr e, fun k hk => ?_⟩, hFall.mono (fun k _ h => h.elim (fun e => e ▸ H.out.a0) (fun e => H.out.a2 k e)), fun k hk => ?_⟩
      · rcases hk with hk | hk
        · exact Nat.lt_of_lt_of_le (H.out.low k hk) hFall.size
        · exact (hO5.lt k hk).2
      · rcases hk with hk | hk
        · exact .inl hk
        · rcases HL4.out with e | e
          · exact .inl (H.out.a2 k (by rw [← e]; exact hk))
          · rw [e] at hk
            injection hk with hk
            exact .inr (by rw [← hk]; exact HFW.out.size)
    · refine wpOp_step rfl (fun K hK => ?_)
      refine step_wp7 rfl (wp_slice_wait _ rfl cs rfl HC.out ?_)
      refine hK _ _ ?_
      clear hK K
      try simp only [Act.put, List.setIfInBounds_toArray, List.set_cons_zero, List.set_cons_succ]
      refine wpAny_all (rs := [4]) (by kernel_rfl) (by simp) ?_
      intro i hi
      simp only [List.mem_cons, List.not_mem_nil, or_false] at hi
      subst hi
      refine load_any7 (d := some 8) (v := .slice av m cv) (S := fun w' => w'.cell? ⟨db, 2, none⟩ = some (.slice av m cv)) rfl rfl (Or.inl ⟨by rfl, by intro w hSw; go_simp; try (with_reducible rfl)⟩) HQ2.out ?_ 
      try simp only [Act.put, List.setIfInBounds_toArray, List.set_cons_zero, List.set_cons_succ]
      generalize W.drew.alloc (Obj.cells cs.toArray 119) = W1 at *
      refine one_any7 (i := 7) (d := some 11) rfl rfl rfl (by kernel_rfl) (fun K hK => ?_)
      refine wp_append_sl7 el_wait rfl _ _ rfl 0 (.slice av m cv) m ws rfl HRWW.out rfl HSLN.out hsl1 H1.out (by unfold maxLen; omega) (by omega) (Nat.zero_le _) ?_
      intro a4 n4 c4 w4 hown4 hgrow4 hlie4
      refine hK _ _ ?_
      clear hK K
      try simp only [Act.put, List.setIfInBounds_toArray, List.set_cons_zero, List.set_cons_succ]
      have hgr := fr_grown7 hgrow4
      have hb4 := hgr.heap HBW.out (fun e => not_row7 HBW.out (fun cs f e3 => by injection e3 with _ e3; exact absurd e3 (by decide)) HRWW.out _ e rfl)
      have HB4 := Lib.hid hb4
      have HO4 := Lib.hid hown4
      have HG4 := Lib.hid hgr
      have HL4 := Lib.hid hlie4
      have k4 := heap_cell (o := 2) hb4 rfl
      have f4 := heap_frozen (o := 2) hb4
      clear hb4 hown4 hgrow4 hlie4 hgr
      refine take_any7 (i := 8) (d := some 12) (v := ?_) rfl rfl (by kernel_rfl) (by kernel_rfl) (by kernel_rfl) (fun _ _ _ h => h) (Or.inl ⟨by rfl, ?_⟩) ?_
      rotate_left
      · intro w; go_simp; try (with_reducible rfl)
      try simp only [Act.put, List.setIfInBounds_toArray, List.set_cons_zero, List.set_cons_succ]
      refine take_any7 (i := 9) (d := some 13) (v := ?_) rfl rfl (by kernel_rfl) (by kernel_rfl) (by kernel_rfl) (fun _ _ _ h => h) (Or.inl ⟨by rfl, ?_⟩) ?_
      rotate_left
      · intro w; go_simp; try (with_reducible rfl)
      try simp only [Act.put, List.setIfInBounds_toArray, List.set_cons_zero, List.set_cons_succ]
      refine wpAny_ready (rs := [10]) (by kernel_rfl) (by simp) (AllReady.cons rfl (fun K hK => ?_) AllReady.nil)
      go_simp
      refine hK _ _ ?_
      clear hK K
      refine wpAny_done (by kernel_rfl) ?_ _
      go_end0
      have hb5 := heap_setAt7 HB4.out 2 (.slice a4 n4 c4)
      have hF5 : Fr (fun k => k = db) w4 (w4.setCell ⟨db, 2, none⟩ (.slice a4 n4 c4)) := (Fr.refl (fun k => k = db) w4).setCell (p := ⟨db, 2, none⟩) (fun _ => rfl) _
      have hFall : Fr (fun k => k = db ∨ (Value.slice av m cv).ownBlock = some k) w (w4.setCell ⟨db, 2, none⟩ (.slice a4 n4 c4)) := ((HFW.out.no).trans (HG4.out.mono (fun _ _ h => .inr h))).trans' hF5 (fun _ _ h => .inl h)
      have hO5 := ownsRow_fr7 HO4.out hF5 (fun q hq e => not_row7 HB4.out (fun cs f e3 => by injection e3 with _ e3; exact absurd e3 (by decide)) HO4.out q hq e)
      obtain ⟨c, f, hmap, hc⟩ := H.out.map
      have hmd : cb ≠ db := by
        intro e
        obtain ⟨D, ⟨es, clock, hb2, -⟩, -⟩ := hmap
        rw [e, HB0x.out] at hb2; cases hb2
      refine ⟨rfl, .slice a4 n4 c4, fun k => A k ∨ (Value.slice a4 n4 c4).ownBlock = some k, ⟨hb5, ⟨c, f, hmap.fr hFall (fun e => e.elim hmd (fun e => map_apart7 hmap HRW.out e)), by omega⟩, ⟨m + 1, _, hO5, by omega⟩, by omega, H.out.acts1, .inl H.out.a0, .inl H.out.a1, fun k e => .inr e, fun k hk => ?_⟩, hFall.mono (fun k _ h => h.elim (fun e => e ▸ H.out.a0) (fun e => H.out.a2 k e)), fun k hk => ?_⟩
      · rcases hk with hk | hk
        · exact Nat.lt_of_lt_of_le (H.out.low k hk) hFall.size
        · exact (hO5.lt k hk).2
      · rcases hk with hk | hk
        · exact .inl hk
        · rcases HL4.out with e | e
          · exact .inl (H.out.a2 k (by rw [← e]; exact hk))
          · rw [e] at hk
            injection hk with hk
            exact .inr (by rw [← hk]; exact HFW.out.size)
end Go.Proofs.YtpcikbloflpahaaDoor
