/-
  Chapter 7: a disk of ten sectors: New, Down, act.
-/
import Derived.Test.YtpcikbloflpahaaDoorSh5
import Derived.Laws.Cover3
import Derived.Great.BuildSlice
import Derived.Laws.Tables
namespace Go.Proofs.YtpcikbloflpahaaDoor
set_option linter.unusedVariables false
set_option linter.unusedSimpArgs false
open Go.RowKit Go.Shelf Go.Maps

theorem set_take7 (L : List Value) (i : Nat) (x : Value) (h : i < L.length) : (L.set i x).take (i + 1) = L.take i ++ [x] := by
  rw [List.take_succ_eq_append_getElem (by rw [List.length_set]; exact h), List.getElem_set_self, List.take_set_of_le (Nat.le_refl _)]
theorem fold_set7 : ∀ (l : List Value) (base : Array Value) (o k : Nat), o + k + l.length ≤ base.size →
    (l.zipIdx k).foldl (fun (cs : Array Value) (x : Value × Nat) => cs.setIfInBounds (o + x.2) x.1) base = (base.toList.take (o + k) ++ l ++ base.toList.drop (o + k + l.length)).toArray
  | [], base, o, k, h => by simp
  | x :: l, base, o, k, h => by
    rw [List.zipIdx_cons, List.foldl_cons, fold_set7 l _ o (k + 1) (by simp at h ⊢; omega)]
    congr 1
    simp only [List.length_cons] at h ⊢
    have hl : o + k < base.toList.length := by simp; omega
    rw [Array.toList_setIfInBounds, show o + (k + 1) = o + k + 1 by omega, set_take7 _ _ _ hl, List.drop_set_of_lt (by omega)]
    simp [Nat.add_assoc, Nat.add_comm 1]
theorem fill_one7 {n : Nat} {base : Array Value} {cs : List Value} (hb : base.size = n) (hc : cs.length = n) (pl : Nat → Option (Nat × Nat)) (hp : pl 0 = some (0, n)) :
    Instr.fill pl base [(0, .agg cs.toArray)] = some cs.toArray := by
  have := fold_set7 cs base 0 0 (by omega)
  simp only [Nat.zero_add, List.take_zero, List.nil_append] at this
  unfold Instr.fill Instr.fill
  rw [hp]
  simp only [Value.cells, List.size_toArray, Nat.zero_add]
  rw [if_neg (by simp; omega), ← Array.foldl_toList]
  rw [Array.toList_zipIdx]
  rw [this, List.drop_of_length_le (by simp; omega), List.append_nil]
theorem fill_two7 {n : Nat} {base : Array Value} {x : Value} {cs : List Value} (hx : x.cells = #[x]) (hb : base.size = n + 1) (hc : cs.length = n) (pl : Nat → Option (Nat × Nat)) (hp : pl 0 = some (0, 1)) (hq : pl 1 = some (1, n)) :
    Instr.fill pl base [(0, x), (1, .agg cs.toArray)] = some (x :: cs).toArray := by
  have := fold_set7 cs (base.setIfInBounds 0 x) 1 0 (by simp; omega)
  have hb0 : 0 < base.toList.length := by simp; omega
  simp only [Nat.add_zero, Array.toList_setIfInBounds] at this
  rw [set_take7 _ 0 _ hb0, List.drop_of_length_le (by simp; omega)] at this
  unfold Instr.fill
  rw [hp]
  simp only [hx]
  rw [if_neg (by simp; rintro rfl; simp at hb)]
  unfold Instr.fill Instr.fill
  rw [hq]
  simp only [Value.cells, List.size_toArray]
  have e1 : Array.foldl (fun (cs : Array Value) (x : Value × Nat) => cs.setIfInBounds (0 + x.snd) x.fst) base #[x].zipIdx = base.setIfInBounds 0 x := by rw [← Array.foldl_toList, Array.toList_zipIdx]; simp
  rw [e1, if_neg (by simp; omega), ← Array.foldl_toList, Array.toList_zipIdx]
  simp at this ⊢
  exact this
/-- A disk's block: what was written last, what waits, how many acts. -/
def DkC (lb cb : Nat) (wv : Value) (acts : Int) : List Value := [.slice (some ⟨lb, 0, none⟩) 10 10, .map (some cb), wv, .int .i64 (-1), .int .i64 acts, .bool false]
/-- A disk of ten sectors that is up and not armed: its block, its blocks A. -/
structure DkIn (w : World) (db lb cb : Nat) (wv : Value) (acts n : Nat) (A : Nat → Prop) : Prop where
  box : w.heap[db]? = some (.cells (DkC lb cb wv (acts : Int)).toArray 90 (0, 0))
  map : ∃ c f, MapAt Tryd.prog 3 w cb c f ∧ c ≤ n
  row : ∃ m ws, w.ownsRow 0 119 65 wv m ws ∧ m ≤ n
  actsn : n ≤ 100
  acts1 : acts ≤ 10
  a0 : A db
  a1 : A cb
  a2 : ∀ k, wv.ownBlock = some k → A k
  low : ∀ k, A k → k < w.heap.size
def DkAt (w : World) (db : Nat) (A : Nat → Prop) (acts : Nat) : Prop := ∃ lb cb wv n, n ≤ 2 * acts ∧ DkIn w db lb cb wv acts n A
theorem DkAt.low {w : World} {db : Nat} {A : Nat → Prop} {acts : Nat} (h : DkAt w db A acts) : ∀ k, A k → k < w.heap.size := by obtain ⟨_, _, _, _, _, h⟩ := h; exact h.low
theorem DkIn.fr {S : Nat → Prop} {w w' : World} {db lb cb : Nat} {wv : Value} {acts n : Nat} {A : Nat → Prop} (h : DkIn w db lb cb wv acts n A) (hF : Fr S w w') (hn : ∀ k, A k → ¬ S k) : DkIn w' db lb cb wv acts n A := by
  obtain ⟨c, f, h1, h2⟩ := h.map
  obtain ⟨m, ws, h3, h4⟩ := h.row
  exact ⟨hF.heap h.box (hn _ h.a0), ⟨c, f, h1.fr hF (hn _ h.a1), h2⟩, ⟨m, ws, ownsRow_fr7 h3 hF (fun k e => hn _ (h.a2 k e)), h4⟩, h.actsn, h.acts1, h.a0, h.a1, h.a2, fun k hk => Nat.lt_of_lt_of_le (h.low k hk) hF.size⟩
theorem DkAt.fr {S : Nat → Prop} {w w' : World} {db : Nat} {A : Nat → Prop} {acts : Nat} (h : DkAt w db A acts) (hF : Fr S w w') (hn : ∀ k, A k → ¬ S k) : DkAt w' db A acts := by
  obtain ⟨lb, cb, wv, n, hn2, h⟩ := h; exact ⟨lb, cb, wv, n, hn2, h.fr hF hn⟩
theorem DkAt.fr0 {w w' : World} {db : Nat} {A : Nat → Prop} {acts : Nat} (h : DkAt w db A acts) (hF : Fr No w w') : DkAt w' db A acts := h.fr hF (fun _ _ h => h)

def lst10 : Array Value := madeCells (Value.agg (bys (zs 64)).toArray).cells (10 * 64)
theorem mk_sec (w : World) : (Instr.makeSlice 84 (.int .i64 10) (.int .i64 10)).run Tryd.prog w = .ok (.slice (some ⟨w.heap.size, 0, none⟩) 10 10) (w.alloc (.cells lst10 92)) := by
  have hE : (Tryd.prog.info? 92).map (fun i => (i.zero, i.size, i.bytes)) = some (some (.agg (bys (zs 64)).toArray), 64, 64) := by kernel_rfl
  cases hi : Tryd.prog.info? 92 with
  | none => rw [hi] at hE; simp at hE
  | some i =>
    rw [hi] at hE
    simp only [Option.map_some, Option.some.injEq, Prod.mk.injEq] at hE
    obtain ⟨h1, h2, h3⟩ := hE
    have := run_make (P := Tryd.prog) w 84 92 i _ Tryd.underlying84 hi h1 .i64 .i64 10 10 (by omega) (by omega) (by rw [h3]; omega) (by omega)
    rw [this, h2]; rfl

set_option maxHeartbeats 1000000 in
set_option maxRecDepth 1000000 in
theorem dnew_calls (w : World) : Calls Tryd.prog 31 #[.int .i64 10] w fun e w' => ∃ db A, e = .returned (.pointer (some ⟨db, 0, none⟩)) ∧ DkAt w' db A 0 ∧ Fr No w w' ∧ ∀ k, A k → w.heap.size ≤ k := by
  have hmm : ∀ w : World, (Instr.makeMap 85 none).run Tryd.prog w = .ok (.map (some w.heap.size)) (w.alloc (.map #[] 0)) := fun _ => rfl
  have hmk := mk_sec
  go_enter Tryd.func31, Tryd.ntmps31
  go_wp2
  go_ret
  generalize lst10 = ls
  have s1 : (w.alloc (.cells ls 92)).heap.size = w.heap.size + 1 := by simp
  have hmap := MapAt.made Tryd.prog 3 (w.alloc (.cells ls 92))
  rw [s1] at hmap
  have hb := heap_new ((w.alloc (.cells ls 92)).alloc (.map #[] 0)) (Obj.cells #[.slice (some ⟨w.heap.size, 0, none⟩) 10 10, .map (some (w.heap.size + 1)), .slice none 0 0, .int .i64 (-1), .int .i64 0, .bool false] 90)
  have s2 : ((w.alloc (.cells ls 92)).alloc (.map #[] 0)).heap.size = w.heap.size + 2 := by simp
  rw [s2] at hb
  refine ⟨w.heap.size + 2, fun k => k = w.heap.size + 2 ∨ k = w.heap.size + 1, rfl, ⟨w.heap.size, w.heap.size + 1, .slice none 0 0, 0, by omega, ⟨hb, ⟨0, _, hmap.fr ((Fr.refl No _).alloc _) (fun h => h), by omega⟩, ⟨0, [], World.ownsRow_nil _ _ _ _, by omega⟩, by omega, by omega, .inl rfl, .inr rfl, fun k e => by simp [Value.ownBlock] at e, fun k hk => by simp; omega⟩⟩, (((Fr.refl No w).alloc _).alloc _).alloc _, fun k hk => by omega⟩

set_option maxHeartbeats 1000000 in
set_option maxRecDepth 1000000 in
theorem dup_calls {w : World} {db : Nat} {A : Nat → Prop} {acts : Nat} (h : DkAt w db A acts) : Calls Tryd.prog 51 #[.pointer (some ⟨db, 0, none⟩)] w fun e w' => e = .returned (.bool true) ∧ w = w' := by
  obtain ⟨lb, cb, wv, n, hn2, h⟩ := h
  have c1 : w.cell? ⟨db, 1, none⟩ = some (.map (some cb)) := heap_cell (o := 1) h.box rfl
  have c5 : w.cell? ⟨db, 5, none⟩ = some (.bool false) := heap_cell (o := 5) h.box rfl
  have hnn : ∀ w : World, (binOp .neq 85 (.map (some cb)) (.map none)).run Tryd.prog w = .ok (.bool true) w := fun w => run_neq_map_nil (P := Tryd.prog) w _ _ _ (some cb) Tryd.underlying85
  clear h
  go_enter Tryd.func51, Tryd.ntmps51
  go_wp2
  go_ret
  exact ⟨rfl, rfl⟩
theorem ddown_calls {w : World} {db : Nat} {A : Nat → Prop} {acts : Nat} (h : DkAt w db A acts) : Calls Tryd.prog 82 #[.pointer (some ⟨db, 0, none⟩)] w fun e w' => e = .returned (.bool false) ∧ w = w' := by
  have HU := Lib.hid (dup_calls h)
  clear h
  go_enter Tryd.func82, Tryd.ntmps82
  go_wp2_with fail
  refine HU.out.mono ?_
  rintro e w1 ⟨rfl, rfl⟩
  go_wp2
  go_ret
  exact ⟨rfl, rfl⟩

set_option maxHeartbeats 1000000 in
set_option maxRecDepth 1000000 in
theorem dact_calls {w : World} {db lb cb : Nat} {wv : Value} {acts n : Nat} {A : Nat → Prop} (h : DkIn w db lb cb wv acts n A) (ha : acts < 10) :
    Calls Tryd.prog 89 #[.pointer (some ⟨db, 0, none⟩)] w fun e w' => e = .returned (.bool true) ∧ DkIn w' db lb cb wv (acts + 1) n A ∧ Fr (fun k => k = db) w w' := by
  have H := Lib.hid h
  have c3 : w.cell? ⟨db, 3, none⟩ = some (.int .i64 (-1)) := heap_cell (o := 3) h.box rfl
  have c4 : w.cell? ⟨db, 4, none⟩ = some (.int .i64 (acts : Int)) := heap_cell (o := 4) h.box rfl
  have f3 := heap_frozen (o := 3) h.box
  have f4 := heap_frozen (o := 4) h.box
  have hw : IntKind.i64.wrap ((acts : Int) + 1) = (acts : Int) + 1 := IntWalk.i64_in _ (by omega)
  clear h
  go_enter Tryd.func89, Tryd.ntmps89
  go_wp2
  go_ret
  have hb := heap_setAt7 (heap_setAt7 H.out.box 3 (.int .i64 (-1))) 4 (.int .i64 ((acts : Int) + 1))
  have hF : Fr (fun k => k = db) w ((w.setCell ⟨db, 3, none⟩ (.int .i64 (-1))).setCell ⟨db, 4, none⟩ (.int .i64 ((acts : Int) + 1))) := ((Fr.refl (fun k => k = db) w).setCell (p := ⟨db, 3, none⟩) (fun _ => rfl) _).setCell (p := ⟨db, 4, none⟩) (fun _ => rfl) _
  obtain ⟨c, f, h1, h2⟩ := H.out.map
  obtain ⟨m, ws, h3, h4⟩ := H.out.row
  refine ⟨rfl, ⟨hb, ⟨c, f, h1.fr hF (fun e => ?_), h2⟩, ⟨m, ws, ownsRow_fr7 h3 hF (fun k e e2 => ?_), h4⟩, H.out.actsn, by omega, H.out.a0, H.out.a1, H.out.a2, fun k hk => Nat.lt_of_lt_of_le (H.out.low k hk) hF.size⟩, hF⟩
  · obtain ⟨D, ⟨es, clock, hb2, -⟩, -⟩ := h1
    rw [e, H.out.box] at hb2; cases hb2
  · exact not_row7 H.out.box (fun cs f e3 => by injection e3 with _ e3; exact absurd e3 (by decide)) h3 k e e2
end Go.Proofs.YtpcikbloflpahaaDoor
