/-
  Chapter 12: the files' table in a block of the program's.
-/
import Derived.Test.YtoajnmbbgbpbgaaGreatZF
import Derived.Deep.MidRow
import Derived.Deep.RegionHeld3
import Derived.Maps.OwnSet
import Derived.Laws.ResultCell
namespace Go.Proofs.YtoajnmbbgbpbgaaGreat
set_option linter.unusedVariables false
set_option linter.unusedSimpArgs false
open Go.RowKit Go.Shelf Go.Maps

/-- An inode, and its extents' value. -/
abbrev TE := Nd × Value
def nodC (T : List TE) : List Value := T.flatMap fun p => [.string p.1.name, .int .i64 p.1.size, p.2]
def tabC (T : List TE) (u : Nat) : List Value := nodC T ++ [.int .u32 (u : Int)]
theorem nodC_length (T : List TE) : (nodC T).length = T.length * 3 := by
  induction T with
  | nil => rfl
  | cons p T ih => rw [nodC, List.flatMap_cons, List.length_append]; have := ih; rw [nodC] at this; rw [this]; simp; omega
theorem tabC_length (T : List TE) (u : Nat) : (tabC T u).length = T.length * 3 + 1 := by rw [tabC, List.length_append, nodC_length]; rfl
theorem nodC_get (T : List TE) (j : Nat) (hj : j < T.length) : (nodC T)[j * 3]? = some (.string T[j].1.name) ∧ (nodC T)[j * 3 + 1]? = some (.int .i64 T[j].1.size) ∧ (nodC T)[j * 3 + 2]? = some T[j].2 := by
  induction T generalizing j with
  | nil => simp at hj
  | cons p T ih =>
    cases j with
    | zero => exact ⟨rfl, rfl, rfl⟩
    | succ j =>
      have := ih j (by simpa using hj)
      rw [show (j + 1) * 3 = j * 3 + 1 + 1 + 1 by omega]
      exact this
theorem tabC_get (T : List TE) (u : Nat) (j : Nat) (hj : j < T.length) : (tabC T u)[j * 3]? = some (.string T[j].1.name) ∧ (tabC T u)[j * 3 + 1]? = some (.int .i64 T[j].1.size) ∧ (tabC T u)[j * 3 + 2]? = some T[j].2 := by
  have hl := nodC_length T
  obtain ⟨h1, h2, h3⟩ := nodC_get T j hj
  refine ⟨?_, ?_, ?_⟩ <;> rw [tabC, List.getElem?_append_left (by omega)] <;> assumption
theorem tabC_used (T : List TE) (u : Nat) : (tabC T u)[T.length * 3]? = some (.int .u32 (u : Int)) := by
  rw [tabC, List.getElem?_append_right (by rw [nodC_length]; exact Nat.le_refl _), nodC_length, Nat.sub_self]; rfl
theorem nodC_set (T : List TE) (j : Nat) (hj : j < T.length) (x : Nd) (v : Value) : nodC (T.set j (x, v)) = (((nodC T).set (j * 3) (.string x.name)).set (j * 3 + 1) (.int .i64 x.size)).set (j * 3 + 2) v := by
  induction T generalizing j with
  | nil => simp at hj
  | cons p T ih =>
    cases j with
    | zero => rfl
    | succ j =>
      have := ih j (by simpa using hj)
      rw [show (j + 1) * 3 = j * 3 + 1 + 1 + 1 by omega, List.set_cons_succ]
      simp only [nodC, List.flatMap_cons, List.cons_append, List.nil_append, List.set_cons_succ] at this ⊢
      rw [this]
theorem tabC_set (T : List TE) (u : Nat) (j : Nat) (hj : j < T.length) (x : Nd) (v : Value) : tabC (T.set j (x, v)) u = (((tabC T u).set (j * 3) (.string x.name)).set (j * 3 + 1) (.int .i64 x.size)).set (j * 3 + 2) v := by
  have hl := nodC_length T
  rw [tabC, nodC_set T j hj, tabC, List.set_append_left _ _ (by omega), List.set_append_left _ _ (by simp; omega), List.set_append_left _ _ (by simp; omega)]
theorem tabC_put (T : List TE) (u u' : Nat) : tabC T u' = (tabC T u).set (T.length * 3) (.int .u32 (u' : Int)) := by
  rw [tabC, tabC, List.set_append_right _ _ (by rw [nodC_length]; exact Nat.le_refl _), nodC_length, Nat.sub_self]; rfl
theorem set_noop {α : Type} {l : List α} {i : Nat} {x : α} (h : l[i]? = some x) : l.set i x = l := by
  obtain ⟨h1, rfl⟩ := List.getElem?_eq_some_iff.1 h
  exact List.set_getElem_self h1
theorem tabC_name (T : List TE) (u : Nat) (j : Nat) (hj : j < T.length) (s : ByteArray) : tabC (T.set j (⟨s, T[j].1.size, T[j].1.ext⟩, T[j].2)) u = (tabC T u).set (j * 3) (.string s) := by
  obtain ⟨h1, h2, h3⟩ := tabC_get T u j hj
  rw [tabC_set T u j hj, set_noop (i := j * 3 + 1), set_noop]
  · rw [List.getElem?_set_ne (by omega)]; exact h3
  · rw [List.getElem?_set_ne (by omega)]; exact h2
theorem tabC_size (T : List TE) (u : Nat) (j : Nat) (hj : j < T.length) (n : Int) : tabC (T.set j (⟨T[j].1.name, n, T[j].1.ext⟩, T[j].2)) u = (tabC T u).set (j * 3 + 1) (.int .i64 n) := by
  obtain ⟨h1, h2, h3⟩ := tabC_get T u j hj
  rw [tabC_set T u j hj, set_noop h1, set_noop]
  rw [List.getElem?_set_ne (by omega)]; exact h3
theorem tabC_ext (T : List TE) (u : Nat) (j : Nat) (hj : j < T.length) (xs : List (Int × Int)) (v : Value) : tabC (T.set j (⟨T[j].1.name, T[j].1.size, xs⟩, v)) u = (tabC T u).set (j * 3 + 2) v := by
  obtain ⟨h1, h2, h3⟩ := tabC_get T u j hj
  rw [tabC_set T u j hj, set_noop h1, set_noop h2]

theorem heap_setAt {w : World} {b : Nat} {cs : List Value} {t : TypeId} (h : w.heap[b]? = some (.cells cs.toArray t (0, 0))) (o : Nat) (v : Value) : (w.setCell ⟨b, o, none⟩ v).heap[b]? = some (.cells (cs.set o v).toArray t (0, 0)) := by
  simp [World.setCell, Array.getElem?_modify, h]
theorem heap_setCells {w : World} {b : Nat} {cs : List Value} {t : TypeId} (h : w.heap[b]? = some (.cells cs.toArray t (0, 0))) (vs : List Value) (hl : cs.length = vs.length) : (w.setCells b 0 vs).heap[b]? = some (.cells vs.toArray t (0, 0)) := by
  have : ∀ (vs pre cs : List Value) (w : World), w.heap[b]? = some (.cells (pre ++ cs).toArray t (0, 0)) → cs.length = vs.length → (w.setCells b pre.length vs).heap[b]? = some (.cells (pre ++ vs).toArray t (0, 0)) := by
    intro vs
    induction vs with
    | nil => intro pre cs w h hl; obtain rfl := List.length_eq_zero_iff.1 hl; exact h
    | cons v vs ih =>
      intro pre cs w h hl
      cases cs with
      | nil => simp at hl
      | cons c cs =>
        have h1 := heap_setAt h pre.length v
        rw [List.set_append_right _ _ (Nat.le_refl _), Nat.sub_self, List.set_cons_zero] at h1
        have h2 := ih (pre ++ [v]) cs (w.setCell ⟨b, pre.length, none⟩ v) (by rw [List.append_assoc]; exact h1) (by simpa using hl)
        rw [List.length_append, List.append_assoc] at h2
        exact h2
  exact this vs [] cs w h hl
theorem fr_setCells (w : World) (b o : Nat) (vs : List Value) : Fr (fun k => k = b) w (w.setCells b o vs) := by
  induction vs generalizing w o with
  | nil => exact Fr.refl _ _
  | cons v vs ih => exact ((Fr.refl (fun k => k = b) w).setCell (p := ⟨b, o, none⟩) (fun _ => rfl) v).trans (ih _ _)

/-- Block b holds the table. -/
def TbAt (w : World) (b : Nat) (T : List TE) (u : Nat) : Prop := w.heap[b]? = some (.cells (tabC T u).toArray 98 (0, 0)) ∧ T.length = 8
theorem TbAt.fr {S : Nat → Prop} {w w' : World} {b : Nat} {T : List TE} {u : Nat} (h : TbAt w b T u) (hF : Fr S w w') (hn : ¬ S b) : TbAt w' b T u := ⟨hF.heap h.1 hn, h.2⟩
theorem TbAt.lt {w : World} {b : Nat} {T : List TE} {u : Nat} (h : TbAt w b T u) : b < w.heap.size := heap_lt h.1
theorem TbAt.cells {w : World} {b : Nat} {T : List TE} {u : Nat} (h : TbAt w b T u) (j : Nat) (hj : j < T.length) : w.cell? ⟨b, j * 3, none⟩ = some (.string T[j].1.name) ∧ w.cell? ⟨b, j * 3 + 1, none⟩ = some (.int .i64 T[j].1.size) ∧ w.cell? ⟨b, j * 3 + 2, none⟩ = some T[j].2 := by
  obtain ⟨h1, h2, h3⟩ := tabC_get T u j hj
  exact ⟨heap_cell h.1 (by simpa using h1), heap_cell h.1 (by simpa using h2), heap_cell h.1 (by simpa using h3)⟩
theorem TbAt.used {w : World} {b : Nat} {T : List TE} {u : Nat} (h : TbAt w b T u) : w.cell? ⟨b, 24, none⟩ = some (.int .u32 (u : Int)) := by
  have := tabC_used T u
  rw [h.2] at this
  exact heap_cell h.1 (by simpa using this)
theorem TbAt.frozen {w : World} {b : Nat} {T : List TE} {u : Nat} (h : TbAt w b T u) (o : Nat) : w.frozen? ⟨b, o, none⟩ = false := heap_frozen h.1
theorem TbAt.setName {w : World} {b : Nat} {T : List TE} {u : Nat} (h : TbAt w b T u) (j : Nat) (hj : j < T.length) (s : ByteArray) : TbAt (w.setCell ⟨b, j * 3, none⟩ (.string s)) b (T.set j (⟨s, T[j].1.size, T[j].1.ext⟩, T[j].2)) u :=
  ⟨by rw [tabC_name T u j hj]; exact heap_setAt h.1 _ _, by rw [List.length_set]; exact h.2⟩
theorem TbAt.setSize {w : World} {b : Nat} {T : List TE} {u : Nat} (h : TbAt w b T u) (j : Nat) (hj : j < T.length) (n : Int) : TbAt (w.setCell ⟨b, j * 3 + 1, none⟩ (.int .i64 n)) b (T.set j (⟨T[j].1.name, n, T[j].1.ext⟩, T[j].2)) u :=
  ⟨by rw [tabC_size T u j hj]; exact heap_setAt h.1 _ _, by rw [List.length_set]; exact h.2⟩
theorem TbAt.setExt {w : World} {b : Nat} {T : List TE} {u : Nat} (h : TbAt w b T u) (j : Nat) (hj : j < T.length) (xs : List (Int × Int)) (v : Value) : TbAt (w.setCell ⟨b, j * 3 + 2, none⟩ v) b (T.set j (⟨T[j].1.name, T[j].1.size, xs⟩, v)) u :=
  ⟨by rw [tabC_ext T u j hj]; exact heap_setAt h.1 _ _, by rw [List.length_set]; exact h.2⟩
theorem TbAt.setNode {w : World} {b : Nat} {T : List TE} {u : Nat} (h : TbAt w b T u) (j : Nat) (hj : j < T.length) (x : Nd) (v : Value) : TbAt (((w.setCell ⟨b, j * 3, none⟩ (.string x.name)).setCell ⟨b, j * 3 + 1, none⟩ (.int .i64 x.size)).setCell ⟨b, j * 3 + 2, none⟩ v) b (T.set j (x, v)) u :=
  ⟨by rw [tabC_set T u j hj]; exact heap_setAt (heap_setAt (heap_setAt h.1 _ _) _ _) _ _, by rw [List.length_set]; exact h.2⟩
theorem TbAt.setUsed {w : World} {b : Nat} {T : List TE} {u : Nat} (h : TbAt w b T u) (u' : Nat) : TbAt (w.setCell ⟨b, 24, none⟩ (.int .u32 (u' : Int))) b T u' :=
  ⟨by rw [tabC_put T u u', h.2]; exact heap_setAt h.1 _ _, h.2⟩

/-- The values of the table's extents read as they should, and lie in no block of X. -/
def TV (X : Nat → Prop) (w : World) (T : List TE) : Prop := ∀ p ∈ T, Sl w p.2 p.1.ext.length (extCells p.1.ext) ∧ ∀ k, p.2.ownBlock = some k → p.1.ext ≠ [] → ¬ X k
theorem extCells_ne {xs : List (Int × Int)} (h : extCells xs ≠ []) : xs ≠ [] := by rintro rfl; exact h rfl
theorem ne_extCells {xs : List (Int × Int)} (h : xs ≠ []) : extCells xs ≠ [] := by cases xs with | nil => exact absurd rfl h | cons x xs => simp [extCells]
theorem TV.fr {X S : Nat → Prop} {w w' : World} {T : List TE} (h : TV X w T) (hF : Fr S w w') (hS : ∀ k, k < w.heap.size → S k → X k) : TV X w' T := fun p hp => by
  obtain ⟨h1, h2⟩ := h p hp
  exact ⟨h1.fr hF (fun k e hne hs => h2 k e (extCells_ne hne) (hS k (h1.lt e hne) hs)), h2⟩
theorem TV.fr0 {X : Nat → Prop} {w w' : World} {T : List TE} (h : TV X w T) (hF : Fr No w w') : TV X w' T := h.fr hF (fun _ _ h => h.elim)
theorem TV.mono {X Y : Nat → Prop} {w : World} {T : List TE} (h : TV X w T) (hY : ∀ k, k < w.heap.size → Y k → X k) : TV Y w T := fun p hp => by
  obtain ⟨h1, h2⟩ := h p hp
  exact ⟨h1, fun k e hne hy => h2 k e hne (hY k (h1.lt e (ne_extCells hne)) hy)⟩
/-- .. nor in one that is made later. -/
theorem TV.up {X : Nat → Prop} {w : World} {T : List TE} (h : TV X w T) : TV (fun k => X k ∨ w.heap.size ≤ k) w T := h.mono (fun k hk hy => by rcases hy with h | h; exact h; omega)
theorem TV.nil (X : Nat → Prop) (w : World) (n : Nat) : TV X w (List.replicate n (Nd.free, .slice none 0 0)) := fun p hp => by
  rw [List.eq_of_mem_replicate hp]; exact ⟨Sl.nil w, fun k e hne => absurd rfl hne⟩
theorem TV.set {X : Nat → Prop} {w : World} {T : List TE} (h : TV X w T) (j : Nat) (x : Nd) (v : Value) (h1 : Sl w v x.ext.length (extCells x.ext)) (h2 : ∀ k, v.ownBlock = some k → x.ext ≠ [] → ¬ X k) : TV X w (T.set j (x, v)) := fun p hp => by
  rcases List.mem_or_eq_of_mem_set hp with hp | rfl
  · exact h p hp
  · exact ⟨h1, h2⟩
theorem TV.one {X : Nat → Prop} {w : World} {T : List TE} (h : TV X w T) : ∀ v ∈ nodC T, v.oneCell' = true := fun v hv => by
  simp only [nodC, List.mem_flatMap, List.mem_cons, List.not_mem_nil, or_false] at hv
  obtain ⟨p, hp, rfl | rfl | rfl⟩ := hv
  · rfl
  · rfl
  · obtain ⟨a, cap, e⟩ := (h p hp).1.form; rw [e]; rfl
theorem TV.one' {X : Nat → Prop} {w : World} {T : List TE} (h : TV X w T) (u : Nat) : ∀ v ∈ tabC T u, v.oneCell' = true := fun v hv => by
  rcases List.mem_append.1 hv with h1 | h1
  · exact h.one v h1
  · obtain rfl : v = _ := by simpa using h1
    rfl

theorem size_tab : (Tryz.prog.info? 98).map (·.size) = some 25 := by kernel_rfl
theorem size_nodes : (Tryz.prog.info? 96).map (·.size) = some 24 := by kernel_rfl
/-- A whole table stored into a block. -/
theorem store_tab {ops : Array Oper} {rest : List Oper} {o : Oper} {a : Act} {w : World} {Q : Exit → Act → World → Prop} (hg : o.guard = none) (x y : Operand) (ho : o.op = .store 98 x y)
    (b : Nat) (cs old : List Value) (hx : a.eval x = .pointer (some ⟨b, 0, none⟩)) (hy : a.eval y = .agg cs.toArray) (hb : w.heap[b]? = some (.cells old.toArray 98 (0, 0))) (hl : old.length = 25) (hc : cs.length = 25) (h1 : ∀ v ∈ cs, v.oneCell' = true)
    (hK : ∀ w', w'.heap[b]? = some (.cells cs.toArray 98 (0, 0)) → Fr (fun k => k = b) w w' → wpList Tryz.prog ops Q rest (a.put o.dst undef) w') : wpList Tryz.prog ops Q (o :: rest) a w := by
  refine wpList_store_mid hg _ x y ho b 0 cs.toArray hx hy (fun j hj => ?_) (by rw [size_tab, List.size_toArray, hc]) (all_oneCell_toArray h1) (hK _ ?_ (fr_setCells _ _ _ _))
  · have hj' : j < old.length := by simpa [hl, hc] using hj
    rw [Nat.zero_add]
    exact ⟨by rw [heap_cell hb (v := old[j]) (by simp [hj'])]; rfl, heap_frozen hb⟩
  · exact heap_setCells hb cs (by rw [hl, hc])
/-- An empty table made, as a block and as a value. -/
def noT : List TE := List.replicate 8 (Nd.free, .slice none 0 0)
theorem noT_len : (tabC noT 0).length = 25 := by rw [tabC_length]; rfl
theorem noT_one : ∀ v ∈ tabC noT 0, v.oneCell' = true := (TV.nil (fun _ => False) default 8).one' 0
theorem heap_new2 (w : World) (o o' : Obj) : ((w.alloc o).alloc o').heap[w.heap.size + 1]? = some o' := by simpa using heap_new (w.alloc o) o'
theorem alloc_tab {ops : Array Oper} {rest : List Oper} {o : Oper} {a : Act} {w : World} {Q : Exit → Act → World → Prop} (hg : o.guard = none) (ho : o.op = .alloc 98)
    (hK : wpList Tryz.prog ops Q rest (a.put o.dst (.pointer (some ⟨w.heap.size, 0, none⟩))) (w.alloc (.cells (tabC noT 0).toArray 98))) : wpList Tryz.prog ops Q (o :: rest) a w := by
  have hr : (Instr.alloc 98 true (.tuple #[])).run Tryz.prog w = .ok (.pointer (some ⟨w.heap.size, 0, none⟩)) (w.alloc (.cells (tabC noT 0).toArray 98)) := by kernel_rfl
  refine wpList_plain hg fun K' hK' => ?_
  unfold Oper.wp
  simp only [execOp, ho, Sem.run_bind, hr, Result.andThen]
  exact hK' _ _ hK
theorem build_tab {ops : Array Oper} {rest : List Oper} {o : Oper} {a : Act} {w : World} {Q : Exit → Act → World → Prop} (hg : o.guard = none) (ho : o.op = .build 98 #[])
    (hK : wpList Tryz.prog ops Q rest (a.put o.dst (.agg (tabC noT 0).toArray)) w) : wpList Tryz.prog ops Q (o :: rest) a w := by
  have hr : (Instr.build 98 #[]).run Tryz.prog w = .ok (.agg (tabC noT 0).toArray) w := by kernel_rfl
  refine wpList_plain hg fun K' hK' => ?_
  unfold Oper.wp
  have hm : (#[] : Array (Nat × Operand)).map (fun x => (x.1, a.eval x.2)) = #[] := by simp
  simp only [execOp, ho, Sem.run_bind, hm, hr, Result.andThen]
  exact hK' _ _ hK
/-- A whole table read. -/
theorem load_tab {ops : Array Oper} {rest : List Oper} {o : Oper} {a : Act} {w : World} {Q : Exit → Act → World → Prop} (hg : o.guard = none) (x : Operand) (ho : o.op = .load 98 x)
    (b : Nat) (cs : List Value) (hx : a.eval x = .pointer (some ⟨b, 0, none⟩)) (hb : w.heap[b]? = some (.cells cs.toArray 98 (0, 0))) (hc : cs.length = 25)
    (hK : wpList Tryz.prog ops Q rest (a.put o.dst (.agg cs.toArray)) w) : wpList Tryz.prog ops Q (o :: rest) a w := by
  refine wpList_load_mid hg _ x ho b 0 hx cs _ (fun j v hj => ?_) Tryz.underlying98 rfl (by rw [size_tab, hc]) hK
  rw [Nat.zero_add]; exact heap_cell hb (by simpa using hj)
/-- The inodes of a table read at once; one of them. -/
theorem load_nodes {ops : Array Oper} {rest : List Oper} {o : Oper} {a : Act} {w : World} {Q : Exit → Act → World → Prop} (hg : o.guard = none) (x : Operand) (ho : o.op = .load 96 x)
    (b : Nat) (T : List TE) (u : Nat) (hx : a.eval x = .pointer (some ⟨b, 0, none⟩)) (h : TbAt w b T u)
    (hK : wpList Tryz.prog ops Q rest (a.put o.dst (.agg (nodC T).toArray)) w) : wpList Tryz.prog ops Q (o :: rest) a w := by
  refine wpList_load_mid hg _ x ho b 0 hx (nodC T) _ (fun j v hj => ?_) Tryz.underlying96 rfl (by rw [size_nodes, nodC_length, h.2]) hK
  have hl : j < (nodC T).length := (List.getElem?_eq_some_iff.1 hj).1
  rw [Nat.zero_add]
  exact heap_cell h.1 (by rw [tabC]; simpa [List.getElem?_append_left hl] using hj)
theorem run_node (w : World) {T : List TE} (hT : T.length = 8) (j : Nat) (hj : j < T.length) : (Instr.index 96 (.agg (nodC T).toArray) (.int .i64 (j : Int))).run Tryz.prog w = .ok (.agg #[.string T[j].1.name, .int .i64 T[j].1.size, T[j].2]) w := by
  have hi : (Tryz.prog.info? 95).map (·.size) = some 3 := by kernel_rfl
  cases hq : Tryz.prog.info? 95 with
  | none => rw [hq] at hi; cases hi
  | some i =>
    have hs : i.size = 3 := by simpa [hq] using hi
    obtain ⟨h1, h2, h3⟩ := nodC_get T j hj
    have hl := nodC_length T
    have he : ((nodC T).drop (j * 3)).take 3 = [.string T[j].1.name, .int .i64 T[j].1.size, T[j].2] := by
      apply List.ext_getElem?
      intro k
      simp only [List.getElem?_take, List.getElem?_drop]
      match k with
      | 0 => simpa using h1
      | 1 => simpa using h2
      | 2 => simpa using h3
      | k + 3 => rw [if_neg (by omega)]; rfl
    have hag : (isAgg 95).run Tryz.prog w = .ok true w := by
      unfold isAgg
      rw [Sem.run_bind, run_underlying Tryz.underlying95 w]; rfl
    unfold Instr.index
    simp [Sem.run_bind, asIntOf, run_underlying Tryz.underlying96 w, part, sizeOf, typeInfo, hq, hs, hag, he]
    intro h8; omega
end Go.Proofs.YtoajnmbbgbpbgaaGreat
namespace Go.Proofs.YtoajnmbbgbpbgaaGreat
set_option linter.unusedVariables false
set_option linter.unusedSimpArgs false
open Go.RowKit Go.Shelf Go.Maps

theorem eq_str (a b : ByteArray) : (a.toList == b.toList) = decide (a = b) := by
  rw [Bool.eq_iff_iff, beq_iff_eq, decide_eq_true_eq]
  exact ⟨fun h => by rw [ByteArray.toList_eq, ByteArray.toList_eq] at h; exact WideShapes.bytes_inj h, fun h => by rw [h]⟩

theorem emp_str (a : ByteArray) : a.toList.isEmpty = decide (a = noName) := by
  have := eq_str a noName
  rw [← this, show noName.toList = [] by rw [ByteArray.toList_eq]; rfl]
  cases a.toList <;> rfl

theorem place_calls (n : Int) (w : World) (h0 : -1000 ≤ n) (h1 : n ≤ 1000) : Calls Tryz.prog 42 #[.int .i64 n] w fun e w' => e = .returned (.int .i64 (6144 + n * 64)) ∧ w = w' := by
  go_enter Tryz.func42, Tryz.ntmps42
  go_wp2
  go_ret
  exact ⟨rfl, rfl⟩

set_option maxRecDepth 1000000 in
theorem fhead_calls (u : Nat) (hu : u < 2 ^ 32) (w : World) : Calls Tryz.prog 43 #[.int .u32 (u : Int)] w fun e w' => ∃ r, e = .returned r ∧ Fr No w w' ∧ w'.ownsRow w.heap.size 5 1 r 64 (bys (headF u)) := by
  have hmk : ∀ w : World, (Instr.makeSlice 22 (.int .i64 64) (.int .i64 64)).run Tryz.prog w = .ok (.slice (some ⟨w.heap.size, 0, none⟩) 64 64) (w.alloc (.cells (bys (zs 64)).toArray 5)) := fun w => mk_bytes w 64 (by omega)
  have hR0 : Row (w.alloc (.cells (bys (zs 64)).toArray 5)) w.heap.size 5 (zs 64) := Row.new _ _ _
  have hF0 : Fr No w (w.alloc (.cells (bys (zs 64)).toArray 5)) := (Fr.refl _ _).alloc _
  have HC : Calls Tryz.prog 90 #[.slice (some ⟨w.heap.size, 0, none⟩) 64 64, .int .i64 0, .int .i64 4, .int .u64 1398362950] (w.alloc (.cells (bys (zs 64)).toArray 5)) _ := put_calls _ (zs 64) 0 4 1398362950 _ (by omega) (by rw [zs_length]; omega) (by rw [zs_length]; omega) (by omega) (by rw [zs_length]; omega) (by have := hR0.sl; rw [zs_length] at this ⊢; exact this)
  have HC' := Lib.hid HC
  have hl1 : (putL (zs 64) 0 1398362950 4).length = 64 := by rw [putL_length, zs_length]
  have HD := Lib.hid (fun (v : Value) (w1 : World) (h : Sl w1 v 64 (bys (putL (zs 64) 0 1398362950 4))) => (put_calls v (putL (zs 64) 0 1398362950 4) 4 4 u w1 (by omega) (by omega) (by omega) (by omega) (by omega) (by rw [hl1]; exact h) :
    Calls Tryz.prog 90 #[v, .int .i64 4, .int .i64 4, .int .u64 (u : Int)] w1 _))
  have HL1 := Lib.hid hl1
  have hu0 : (0 : Int) ≤ u := by omega
  have hu1 : (u : Int) < 4294967296 := by omega
  clear HC hl1 hR0 hu
  generalize (bys (zs 64)).toArray = cs at *
  rw [show headF u = putL (putL (zs 64) 0 1398362950 4) 4 u 4 from rfl]
  have hzl : (zs 64).length = 64 := zs_length 64
  have HZL := Lib.hid hzl
  clear hzl
  go_enter Tryz.func43, Tryz.ntmps43
  go_wp2_with fail
  refine HC'.out.mono ?_
  rintro e w1 ⟨r, rfl, hF1, hr1⟩
  rw [HZL.out] at hr1
  have hs1 := Sl.of_owns hr1
  obtain ⟨a1, c1, rfl⟩ := hs1.form
  go_wp2_with fail
  refine (HD.out _ _ hs1).mono ?_
  rintro e w2 ⟨r2, rfl, hF2, hr2⟩
  rw [HL1.out] at hr2
  obtain ⟨a2, c2, rfl⟩ := (Sl.of_owns hr2).form
  go_wp2
  go_ret
  exact ⟨_, rfl, (hF0.trans hF1).trans hF2, ownsRow_base hr2 (by have := hF0.size; have := hF1.size; omega)⟩

theorem findI_at {L : List Nd} {s : ByteArray} {j : Nat} (hj : j < L.length) (h : L[j].name = s) (h2 : ∀ k (hk : k < L.length), k < j → L[k].name ≠ s) : findI L s = (j : Int) := by
  rcases findI_spec L s with ⟨-, h3⟩ | ⟨k, hk, h3, h4, h5⟩
  · exact absurd h (h3 _ (List.getElem_mem hj))
  · rw [h3]
    rcases Nat.lt_trichotomy k j with h6 | h6 | h6
    · exact absurd h4 (h2 k hk h6)
    · rw [h6]
    · exact absurd h (h5 j h6)
theorem findI_no {L : List Nd} {s : ByteArray} (h : ∀ k (hk : k < L.length), L[k].name ≠ s) : findI L s = -1 := by
  rcases findI_spec L s with ⟨h1, -⟩ | ⟨k, hk, -, h4, -⟩
  · exact h1
  · exact absurd h4 (h k hk)

set_option maxRecDepth 1000000 in
theorem tfind_calls {X : Nat → Prop} {w : World} {b : Nat} {T : List TE} {u : Nat} (h : TbAt w b T u) (hv : TV X w T) (s : ByteArray) :
    Calls Tryz.prog 82 #[.pointer (some ⟨b, 0, none⟩), .string s] w fun e w' => e = .returned (.int .i64 (findI (T.map Prod.fst) s)) ∧ Fr No w w' := by
  have hT := h.2
  have H := Lib.hid h
  have HQ := Lib.hid (fun (w : World) (j : Nat) (hj : j < T.length) => run_node w hT j hj)
  have HV := Lib.hid hv
  have HT := Lib.hid hT
  clear h hv hT
  go_enter Tryz.func82, Tryz.ntmps82
  go_wp2_with (refine load_nodes rfl _ rfl b T u rfl H.out ?_; generalize (nodC T).toArray = ns at *)
  go_loopw [11] (fun i wr => ∃ j : Nat, j ≤ 8 ∧ i = .int .i64 j ∧ Fr No w wr ∧ ∀ k (hk : k < T.length), k < j → T[k].1.name ≠ s) (fun i _ => 8 - (intOf i).toNat)
  case atStart => exact ⟨0, Nat.zero_le _, rfl, Fr.refl _ _, fun k _ h => absurd h (Nat.not_lt_zero k)⟩
  case round =>
    obtain ⟨j, hj, rfl, hF, hne⟩ := hrel
    have HN := Lib.hid hne
    clear hne
    by_cases hlt : j < 8
    · have hjT : j < T.length := by have := HT.out; omega
      have q := HQ.out wr j hjT
      obtain ⟨av, cv, ev⟩ := (HV.out _ (List.getElem_mem hjT)).1.form
      rw [ev] at q
      have qe := eq_str T[j].1.name s
      clear ev
      generalize T[j].1.ext.length = xl at *
      generalize T[j].1.size = sz at *
      obtain ⟨nm, hnm⟩ : ∃ nm, T[j].1.name = nm := ⟨_, rfl⟩
      rw [hnm] at q qe
      have HNM := Lib.hid hnm
      have HJT := Lib.hid hjT
      clear hnm
      by_cases hs : nm = s
      · rw [decide_eq_true hs] at qe
        have HS := Lib.hid hs
        clear hs
        go_wp2
        go_ret
        refine ⟨by rw [findI_at (j := j) (by simpa using HJT.out) (by simp [HNM.out, HS.out]) (fun k hk hkj => by simpa using HN.out k (by simpa using hk) hkj)]; rfl, ?_⟩
        first | exact hF.alloc _ | fail "frame"
      · rw [decide_eq_false hs] at qe
        have HS := Lib.hid hs
        clear hs
        go_wp2
        go_roundw
        case rel =>
          refine ⟨j + 1, by omega, by go_num, ?_, fun k hk hkj => ?_⟩
          · first | exact hF.alloc _ | fail "frame"
          · by_cases e : k = j
            · subst e; rw [HNM.out]; exact HS.out
            · exact HN.out k hk (by omega)
        case measure => simp [intOf]; omega
    · go_wp2
      go_ret
      refine ⟨by rw [findI_no (fun k hk => by have := HT.out; simp at hk; simpa using HN.out k hk (by omega))]; rfl, hF⟩

def namedN (ss : List ByteArray) : Int := if ss.all nameF = true then 0 else 121
theorem namedN_bad {ss : List ByteArray} {k : Nat} (hk : k < ss.length) (h : nameF ss[k] = false) : namedN ss = 121 := by
  rw [namedN, if_neg]
  intro h2
  have := List.all_eq_true.1 h2 _ (List.getElem_mem hk)
  rw [h] at this; cases this
theorem namedN_good {ss : List ByteArray} (h : ∀ k (hk : k < ss.length), nameF ss[k] = true) : namedN ss = 0 := by
  rw [namedN, if_pos]
  rw [List.all_eq_true]
  intro x hx
  obtain ⟨k, hk, rfl⟩ := List.mem_iff_getElem.1 hx
  exact h k hk
set_option maxRecDepth 1000000 in
theorem named_calls (v : Value) (ss : List ByteArray) (w : World) (hlen : ss.length ≤ 2) (hsz : ∀ s ∈ ss, s.size ≤ 140737488355328) (hv : Sl w v ss.length (ss.map Value.string)) :
    Calls Tryz.prog 81 #[v] w fun e w' => e = .returned (.int .i64 (namedN ss)) ∧ Fr No w w' := by
  obtain ⟨a, cap, rfl⟩ := hv.form
  have HC := Lib.hid (fun (s : ByteArray) (w1 : World) (hs : s ∈ ss) => name_calls s w1 (hsz s hs))
  have HV := Lib.hid hv
  clear hsz hv
  go_enter Tryz.func81, Tryz.ntmps81
  go_wp2
  go_loopw [7] (fun i wr => ∃ j : Nat, j ≤ ss.length ∧ i = .int .i64 j ∧ Fr No w wr ∧ ∀ k (hk : k < ss.length), k < j → nameF ss[k] = true) (fun i _ => ss.length - (intOf i).toNat)
  case atStart => exact ⟨0, Nat.zero_le _, rfl, Fr.refl _ _, fun k _ h => absurd h (Nat.not_lt_zero k)⟩
  case round =>
    obtain ⟨j, hj, rfl, hF, hne⟩ := hrel
    have HN := Lib.hid hne
    clear hne
    by_cases hlt : j < ss.length
    · have hv' := HV.out
      obtain ⟨b, off, rfl, hb, hc⟩ := hv'.at (by intro e; have h := congrArg List.length e; simp at h; rw [h] at hlt; simp at hlt)
      have c1 := hF.cell (hc j (.string ss[j]) (by simp [hlt])) (fun h => h)
      have C1 := Lib.hid (HC.out ss[j] wr (List.getElem_mem hlt))
      have HX : RowKit.Hid (nameF ss[j] = false → namedN ss = 121) := Lib.hid (namedN_bad hlt)
      have HY : RowKit.Hid (nameF ss[j] = true → ∀ k (hk : k < ss.length), k < j + 1 → nameF ss[k] = true) := Lib.hid (fun h k hk hkj => by
        by_cases e : k = j
        · subst e; exact h
        · exact HN.out k hk (by omega))
      clear hc hv'
      revert c1 C1 HX HY
      generalize ss[j] = s
      intro c1 C1 HX HY
      cases hq : nameF s
      · have HZ := Lib.hid (HX.out hq)
        have C2 := C1.out
        rw [hq] at C2
        have C3 := Lib.hid C2
        clear C2 hq
        go_wp2_with (go_at_call 50; ((with_reducible refine C3.out.mono ?_); rintro e w2 ⟨rfl, hF2⟩))
        go_ret
        exact ⟨by rw [HZ.out]; rfl, hF.trans hF2⟩
      · have HZ := Lib.hid (HY.out hq)
        have C2 := C1.out
        rw [hq] at C2
        have C3 := Lib.hid C2
        clear C2 hq
        go_wp2_with (go_at_call 50; ((with_reducible refine C3.out.mono ?_); rintro e w2 ⟨rfl, hF2⟩))
        go_roundw
        case rel => exact ⟨j + 1, by omega, by go_num, hF.trans hF2, HZ.out⟩
        case measure => simp [intOf]; omega
    · go_wp2
      go_ret
      exact ⟨by rw [namedN_good (fun k hk => HN.out k hk (by omega))]; rfl, hF⟩
end Go.Proofs.YtoajnmbbgbpbgaaGreat
namespace Go.Proofs.YtoajnmbbgbpbgaaGreat
set_option linter.unusedVariables false
set_option linter.unusedSimpArgs false
open Go.RowKit Go.Shelf Go.Maps

theorem ndB_range {x : Nd} (h : x.good) : ∀ b ∈ ndB x, 0 ≤ b ∧ b < 256 := by
  rcases h with rfl | h
  · rw [ndB, if_pos (show Nd.free.name = noName from rfl)]; exact zs_range 64
  · rw [ndB, if_neg (good_name h)]; exact encF_range _ _ _ (inoOk_small h).2.1
/-- An inode's bytes, made. -/
def LayB (w W0 : World) (x : Nd) (v : Value) (wx : World) : Prop := ∃ a6 c6, v = .slice a6 64 c6 ∧ Sl wx v 64 (bys (ndB x)) ∧ (∀ k, v.ownBlock = some k → w.heap.size ≤ k) ∧ Fr No W0 wx

set_option maxHeartbeats 200000 in
set_option maxRecDepth 1000000 in
theorem tlay_calls {w : World} {mb b : Nat} {A : Nat → Prop} {F B : List Int} {T : List TE} {u : Nat} (hM : MemAt w mb A F B) (h : TbAt w b T u) (hbA : ¬ A b) {X : Nat → Prop} (hv : TV X w T) (n : Nat) (hn : n < T.length) (hg : T[n].1.good) (hu : u < 2 ^ 32) :
    Calls Tryz.prog 83 #[.pointer (some ⟨b, 0, none⟩), .pointer (some ⟨mb, 0, none⟩), .int .i64 n] w fun e w' => ∃ A', e = .returned (.tuple #[]) ∧ Mp w mb A F (layT B n (T.map Prod.fst) u) w' A' := by
  have hmk : ∀ w : World, (Instr.makeSlice 22 (.int .i64 64) (.int .i64 64)).run Tryz.prog w = .ok (.slice (some ⟨w.heap.size, 0, none⟩) 64 64) (w.alloc (.cells (bys (zs 64)).toArray 5)) := fun w => mk_bytes w 64 (by omega)
  have hF0 : Fr No w (w.alloc (.cells (bys (zs 64)).toArray 5)) := (Fr.refl _ _).alloc _
  have hR0 : Row (w.alloc (.cells (bys (zs 64)).toArray 5)) w.heap.size 5 (zs 64) := Row.new _ _ _
  obtain ⟨c0, c1, c2⟩ := (h.fr hF0 (fun h => h)).cells n hn
  obtain ⟨hsl, hsb⟩ := hv _ (List.getElem_mem hn)
  have hlen : T.length = 8 := h.2
  have hLT : layT B n (T.map Prod.fst) u = layF (layF B (6144 + 64 * ((n + 1 : Nat) : Int)) (ndB T[n].1)) 6144 (headF u) := by
    rw [layT, getD_get (by simpa using hn), List.getElem_map]
  have hg' := id hg
  obtain ⟨nm, sz, xs, v, hx⟩ : ∃ nm sz xs v, T[n] = (⟨nm, sz, xs⟩, v) := ⟨_, _, _, _, rfl⟩
  rw [hx] at c0 c1 c2 hsl hsb hLT hg hg'
  dsimp only at c0 c1 c2 hsl hsb hLT hg hg'
  obtain ⟨av, cv, rfl⟩ := hsl.form
  have HM0 := Lib.hid (hM.fr0 hF0)
  have HTB0 := Lib.hid (h.fr hF0 (fun h => h))
  have HSL0 := Lib.hid (hsl.fr0 hF0)
  have HLT := Lib.hid hLT
  have HLOW := Lib.hid hM.low
  have HN8 := Lib.hid (show n < 8 by omega)
  have HR0 := Lib.hid hR0
  have HBA := Lib.hid hbA
  have HG := Lib.hid hg
  have HU := Lib.hid hu
  have QE := Lib.hid (emp_str nm)
  have HNB := Lib.hid (ndB_length hg)
  have HNR := Lib.hid (ndB_range hg)
  clear hx hsb hLT hM h hbA hR0 hg hg' hv hsl hu
  generalize hcs : (bys (zs 64)).toArray = cs at *
  have HCS := Lib.hid hcs
  clear hcs
  go_enter Tryz.func83, Tryz.ntmps83
  go_upto_if 15 with fail
  go_cut [6] (fun s6 wx => LayB w (w.alloc (.cells cs 5)) ⟨nm, sz, xs⟩ s6 wx)
  case first =>
    cases hem : nm.toList.isEmpty
    rotate_left
    · have HS : RowKit.Hid (nm = noName) := Lib.hid (by have := QE.out; rw [hem] at this; exact of_decide_eq_true this.symm)
      clear hem
      simp only [Bool.not_true]
      go_wp2_with fail
      go_meet
      refine ⟨_, _, rfl, ?_, fun k e => by cases e; exact Nat.le_refl _, Fr.refl _ _⟩
      rw [ndB, if_pos (show nm = noName from HS.out)]
      have := HR0.out.sl; rw [zs_length] at this; exact this
    · have hs : nm ≠ noName := by have := QE.out; rw [hem] at this; exact of_decide_eq_false this.symm
      have HE : RowKit.Hid (inoOk nm sz xs = true) := Lib.hid (by
        rcases HG.out with e | e
        · exact absurd (congrArg Nd.name e) hs
        · exact e)
      have hsm := inoOk_small HE.out
      have CE := Lib.hid (encode_calls nm sz (.slice av xs.length cv) xs (w.alloc (.cells cs 5)) (by omega) (by omega) (by omega) (by omega) HSL0.out)
      have HS := Lib.hid hs
      clear hs hsm hem
      simp only [Bool.not_false]
      go_wp2_with (go_at_call 110; ((with_reducible refine CE.out.mono ?_); rintro e w1 ⟨hF1, ⟨ho, r, rfl, hr⟩ | ⟨ho, rfl⟩⟩))
      · obtain ⟨a6, c6, rfl⟩ := hr.1.form
        go_wp2
        go_meet
        refine ⟨a6, c6, rfl, ?_, fun k e => ?_, hF1⟩
        · rw [ndB, if_neg (show nm ≠ noName from HS.out)]; exact hr.1
        · have := hr.2 k e (bys_ne (encF nm sz xs) 0 (by rw [encF_length _ _ _ (inoOk_small HE.out).2.1]; omega)); simp at this; omega
      · rw [HE.out] at ho; cases ho
  case rest =>
  obtain ⟨a6, c6, rfl, hs6, hb6, hF6⟩ := hcut
  have HF6 := Lib.hid (hF0.trans hF6)
  have HM6 := Lib.hid (HM0.out.fr0 hF6)
  have HTB6 := Lib.hid (HTB0.out.fr hF6 (fun h => h))
  have hnl := HNB.out
  have HY := Lib.hid (lay_calls HM6.out (6144 + (1 + (n : Int)) * 64) (.slice a6 64 c6) (ndB ⟨nm, sz, xs⟩) (by rw [hnl]; exact hs6) (fun k e _ hA => by have := hb6 k e; have := HLOW.out k hA; omega) HNR.out (by omega) (by have := HN8.out; omega))
  have hw1 : 1 + (n : Int) ≤ 9 := by have := HN8.out; omega
  clear hs6 hb6 hF6 hF0 hmk c0 c1 c2 hnl
  go_wp2_with fail
  refine (place_calls _ _ (by omega) (by omega)).mono ?_
  rintro e w1 ⟨rfl, rfl⟩
  go_wp2_with fail
  refine HY.out.mono ?_
  rintro e w2 ⟨A2, rfl, hp2⟩
  rw [show 6144 + (1 + (n : Int)) * 64 = 6144 + 64 * ((n + 1 : Nat) : Int) by omega] at hp2
  have hb2 : ¬ A2 b := fun hA => by
    rcases hp2.2.2 b hA with h1 | h1
    · exact HBA.out h1
    · have := HTB6.out.lt; omega
  have ht2 := HTB6.out.fr hp2.2.1 HBA.out
  have hu2 := ht2.used
  have HP2 := Lib.hid hp2
  have HB2 := Lib.hid hb2
  have HT2 := Lib.hid ht2
  have HH := Lib.hid (fun w1 => fhead_calls u HU.out w1)
  have HYY := Lib.hid (fun (w1 w3 : World) (r : Value) (hF : Fr No w2 w1) (hF3 : Fr No w1 w3) (hr : w3.ownsRow w1.heap.size 5 1 r 64 (bys (headF u))) =>
    lay_calls ((hp2.1.fr0 hF).fr0 hF3) 6144 r (headF u) (by rw [headF_length]; exact Sl.of_owns hr) (fun k e _ hA => by have := (hr.lt k e).1; have := hp2.1.low k hA; have := hF.size; omega) (headF_range u) (by rw [headF_length]; omega) (by omega))
  have HSS := Lib.hid (fun (w' : World) (h : Fr A2 w2 w') => (⟨h.cell hu2 hb2, h⟩ : w'.cell? ⟨b, 24, none⟩ = some (.int .u32 (u : Int)) ∧ Fr A2 w2 w'))
  clear hb2 ht2 hp2 HY hw1
  go_upto_region 4 with fail
  go_region_held3 (fun w' => w'.cell? ⟨b, 24, none⟩ = some (.int .u32 (u : Int)) ∧ Fr A2 w2 w') (first | exact HSS.out _ (Fr.refl _ _).drew | exact HSS.out _ ((Fr.refl _ _).drew.trans hF3.no) | exact HSS.out _ (((Fr.refl _ _).drew.trans hF3.no).trans hp4.2.1)) (first
    | (go_at_call 42; ((with_reducible refine (place_calls _ _ (by omega) (by omega)).mono ?_); rintro e w3 ⟨rfl, rfl⟩))
    | (go_at_call 43; ((with_reducible refine (HH.out _).mono ?_); rintro e w3 ⟨r, rfl, hF3, hr3⟩))
    | (go_at_call 41; ((with_reducible refine (HYY.out _ _ _ (Fr.refl _ _).drew hF3 hr3).mono ?_); rintro e w4 ⟨A4, rfl, hp4⟩))
    | fail "arm")
  all_goals
    go_wp2_with fail
    go_end0
    refine ⟨A4, rfl, ?_⟩
    rw [HLT.out]
    exact (((show Mp w mb A F B _ A from ⟨HM6.out, HF6.out.no, Gr.refl _ _⟩).trans HP2.out).thenFr ((Fr.refl No w2).drew.trans hF3)).trans hp4
end Go.Proofs.YtoajnmbbgbpbgaaGreat
namespace Go.Proofs.YtoajnmbbgbpbgaaGreat
set_option linter.unusedVariables false
set_option linter.unusedSimpArgs false
open Go.RowKit Go.Shelf Go.Maps

/-- What the map of names says, of the inodes read so far. -/
def NM (D : DataW Unit) (L : List Nd) : Prop := ∀ s : ByteArray, s ≠ noName → D.atKey (.string s.data.toList) (.lit (.int .i64 0)) = .lit (.int .i64 (if L.any (fun y => decide (y.name = s)) = true then 1 else 0))
theorem NM.nil : NM (.map []) [] := fun s _ => by simp [DataW.atKey]
theorem NM.free {D : DataW Unit} {L : List Nd} (h : NM D L) : NM D (L ++ [Nd.free]) := fun s hs => by
  rw [h s hs, List.any_append]
  have : ([Nd.free].any fun y => decide (y.name = s)) = false := by simp [Nd.free]; exact fun e => hs e.symm
  rw [this, Bool.or_false]
theorem NM.put {D : DataW Unit} {L : List Nd} (h : NM D L) (hD : IsMap D) (x : Nd) : NM (D.put (.string x.name.data.toList) (.lit (.int .i64 1))) (L ++ [x]) := fun s hs => by
  rw [List.any_append]
  by_cases e : x.name = s
  · subst e
    rw [atKey_put_same hD (by simp [WideAt.IsKeyLit])]
    simp
  · rw [atKey_put_other (fun e2 => e (by injection e2 with e2; exact (WideShapes.bytes_inj e2).symm)), h s hs]
    simp [e]

/-- What reading the table comes to. -/
def ReadPost (w : World) (mb : Nat) (A : Nat → Prop) (F B : List Int) (e : Ending) (w' : World) : Prop :=
  ∃ A' cs, e = .returned (.tuple #[.agg cs.toArray, .int .i64 (checkE B)]) ∧ Mp w mb A F B w' A' ∧ cs.length = 25 ∧ (∀ v ∈ cs, v.oneCell' = true) ∧
    ∀ L u, tableF B = some (L, u) → ∃ T, T.map Prod.fst = L ∧ cs = tabC T u ∧ TV (fun k => k < w.heap.size ∨ A' k) w' T

/-- The loop's state: j inodes read. -/
def RdI (W1 : World) (mb : Nat) (A : Nat → Prop) (F B : List Int) (b4 nm : Nat) (j : Nat) (wr : World) : Prop :=
  ∃ A' T u D, readT B j = some (T.map Prod.fst, u) ∧ T.length = j ∧ TbAt wr b4 (T ++ List.replicate (8 - j) (Nd.free, .slice none 0 0)) u ∧ MemAt wr mb A' F B ∧ Fr (fun k => A k ∨ k = b4 ∨ k = nm) W1 wr ∧ Gr W1 A A' ∧
    TV (fun k => k < W1.heap.size ∨ A' k) wr T ∧ wr.ownsMap Tryz.prog 9 (plainElem Tryz.prog 3) nm j D ∧ NM D (T.map Prod.fst)

theorem readT_none {B : List Int} {k : Nat} (h : readT B k = none) (m : Nat) (hm : k ≤ m) : readT B m = none := by
  induction m with
  | zero => obtain rfl : k = 0 := by omega
            exact h
  | succ m ih =>
    by_cases e : k = m + 1
    · rw [← e]; exact h
    · rw [readT, ih (by omega)]; rfl
theorem checkE_none {B : List Int} (h : tableF B = none) : checkE B = 120 := by
  unfold checkE; generalize tableF B = t at *; subst h; rfl
theorem checkE_some {B : List Int} {p : List Nd × Nat} (h : tableF B = some p) : checkE B = 0 := by
  unfold checkE; generalize tableF B = t at *; subst h; rfl
theorem tableF_none {B : List Int} {k : Nat} (h : readT B k = none) (hk : k ≤ 8) : tableF B = none := by
  rw [tableF, readT_none h 8 hk]; rfl
theorem ReadPost.bad {w w' : World} {mb : Nat} {A A' : Nat → Prop} {F B : List Int} {cs : List Value} (hn : tableF B = none) (hp : Mp w mb A F B w' A') (hl : cs.length = 25) (h1 : ∀ v ∈ cs, v.oneCell' = true) :
    ReadPost w mb A F B (.returned (.tuple #[.agg cs.toArray, .int .i64 120])) w' :=
  ⟨A', cs, by rw [checkE_none hn], hp, hl, h1, fun L u h => by rw [hn] at h; cases h⟩
theorem res_tab {w : World} {b : Nat} {cs : List Value} (hb : w.heap[b]? = some (.cells cs.toArray 98 (0, 0))) (hc : cs.length = 25) : (loadVar 98 ⟨b, 0, none⟩).run Tryz.prog w = .ok (.agg cs.toArray) w :=
  run_loadVar_mid (P := Tryz.prog) w b 0 _ cs _ (fun j v hj => by rw [Nat.zero_add]; exact heap_cell hb (by simpa using hj)) Tryz.underlying98 rfl (by rw [size_tab, hc])
/-- A table and a number handed back. -/
theorem ret_tab {fn : Func} {p q : Tmp} (hfn : fn.results = #[.cell p 98, .tmp q]) {R : Ending → World → Prop} {a : Act} {w : World} {b : Nat} {cs : List Value} {v : Value} (hp : a.tmps.getD p undef = .pointer (some ⟨b, 0, none⟩)) (hq : a.tmps.getD q undef = v)
    (hb : w.heap[b]? = some (.cells cs.toArray 98 (0, 0))) (hc : cs.length = 25) (hd : a.defers = []) (hR : R (.returned (.tuple #[.agg cs.toArray, v])) w) : bodyPost Tryz.prog fn R .ret a w := by
  refine bodyPost_ret ?_ hd hR
  rw [results_cell_tmp hfn, hp, hq]
  simp only [asAddr, Sem.run_pure, Result.andThen_ok, res_tab hb hc]
theorem rep_split (T : List TE) (j : Nat) (hj : j < 8) : T ++ List.replicate (8 - j) (Nd.free, Value.slice none 0 0) = (T ++ [(Nd.free, .slice none 0 0)]) ++ List.replicate (8 - (j + 1)) (Nd.free, .slice none 0 0) := by
  rw [show 8 - j = (8 - (j + 1)) + 1 by omega, List.replicate_succ, List.append_assoc, List.singleton_append]
theorem rep_set (T : List TE) (j : Nat) (hT : T.length = j) (hj : j < 8) (x : TE) : (T ++ List.replicate (8 - j) (Nd.free, Value.slice none 0 0)).set j x = (T ++ [x]) ++ List.replicate (8 - (j + 1)) (Nd.free, .slice none 0 0) := by
  rw [List.set_append_right _ _ (by omega), hT, Nat.sub_self, show 8 - j = (8 - (j + 1)) + 1 by omega, List.replicate_succ, List.set_cons_zero, List.append_assoc, List.singleton_append]
theorem ownsMap_fr' {H : Type} {P : Program} {kt : TypeId} {Rd : Value → Option (DataW H × List MemPlace)} {S : Nat → Prop} {w w' : World} {pm n : Nat} {D : DataW H} (h : w.ownsMap P kt Rd pm n D) (hF : Fr S w w') (hn : ¬ S pm) : w'.ownsMap P kt Rd pm n D := by
  obtain ⟨es, clock, hb, r⟩ := h
  exact ⟨es, clock, hF.heap hb hn, r⟩
/-- The memory behind the loop's rounds. -/
theorem RdI.mp {w W1 wr : World} {mb b4 nm : Nat} {A A' : Nat → Prop} {F B : List Int} (hF0 : Fr No w W1) (hb : w.heap.size ≤ b4) (hn : w.heap.size ≤ nm) (g4 : MemAt wr mb A' F B) (g5 : Fr (fun k => A k ∨ k = b4 ∨ k = nm) W1 wr) (g6 : Gr W1 A A') : Mp w mb A F B wr A' :=
  ⟨g4, (hF0.no (S := A)).trans' g5 (fun i hi h => by rcases h with h | h | h; exact h; omega; omega), fun j hj => by rcases g6 j hj with h | h; exact .inl h; exact .inr (Nat.le_trans hF0.size h)⟩

theorem place0_calls (w : World) : Calls Tryz.prog 42 #[.int .i64 0] w fun e w' => e = .returned (.int .i64 6144) ∧ w = w' := place_calls 0 w (by omega) (by omega)
theorem blk0 (B : List Int) : blk B 0 = loadF B 6144 64 := rfl
set_option maxHeartbeats 400000 in
set_option maxRecDepth 1000000 in
theorem fread_calls {w : World} {mb : Nat} {A : Nat → Prop} {F B : List Int} (h : MemAt w mb A F B) :
    Calls Tryz.prog 80 #[.pointer (some ⟨mb, 0, none⟩)] w (ReadPost w mb A F B) := by
  have HM := Lib.hid h
  clear h
  go_enter Tryz.func80, Tryz.ntmps80
  have hmm : ∀ w : World, (Instr.makeMap 130 none).run Tryz.prog w = .ok (.map (some w.heap.size)) (w.alloc (.map #[] 0)) := fun w => run_makeMap _ w
  go_upto_block 0 with (first | (refine alloc_tab rfl rfl ?_) | (refine build_tab rfl rfl ?_) | (refine store_tab rfl _ _ rfl (w.alloc (.cells (tabC noT 0).toArray 98)).heap.size (tabC noT 0) (tabC noT 0) rfl rfl (heap_new _ _) noT_len noT_len noT_one ?_; intro w1 hb1 hF1; rw [World.size_alloc] at hb1 hF1) | fail "arm")
  have hF01 : Fr No w w1 := (((Fr.refl _ _).alloc _).alloc _).trans' hF1 (fun i hi e => by omega)
  have hF0 : Fr No w (w1.alloc (.map #[] 0)) := hF01.alloc _
  have hb2 : (w1.alloc (.map #[] 0)).heap[w.heap.size]? = some (.cells (tabC noT 0).toArray 98 (0, 0)) := heap_alloc _ (hF1.heap (heap_alloc _ (heap_new w _)) (by omega))
  have ht4 : TbAt (w1.alloc (.map #[] 0)) (w.heap.size + 1) noT 0 := ⟨heap_alloc _ hb1, rfl⟩
  have hm0 : (w1.alloc (.map #[] 0)).ownsMap Tryz.prog 9 (plainElem Tryz.prog 3) w1.heap.size 0 (.map [] : DataW Unit) := World.ownsMap_made w1 _ _ _
  have hnm1 : w.heap.size + 1 < w1.heap.size := heap_lt hb1
  have hnm2 : w1.heap.size < (w1.alloc (.map #[] 0)).heap.size := by simp
  generalize w1.heap.size = nm at *
  generalize w1.alloc (.map #[] 0) = W1 at *
  have HF0 := Lib.hid hF0
  have HB2 := Lib.hid hb2
  have HRD0 : RowKit.Hid (RdI W1 mb A F B (w.heap.size + 1) nm 0 W1) := Lib.hid ⟨A, [], 0, .map [], rfl, rfl, ht4, HM.out.fr0 hF0, Fr.refl _ _, Gr.refl _ _, fun p hp => by simp at hp, hm0, NM.nil⟩
  clear hmm hF1 hF01 hF0 hb2 ht4 hm0 hb1
  go_wp2_with fail
  go_loopw [16] (fun i wr => ∃ j : Nat, j ≤ 8 ∧ i = .int .i64 j ∧ RdI W1 mb A F B (w.heap.size + 1) nm j wr) (fun i _ => 8 - (intOf i).toNat)
  case atStart => exact ⟨0, Nat.zero_le _, rfl, HRD0.out⟩
  case round =>
    obtain ⟨j, hj, rfl, hR⟩ := hrel
    by_cases hlt : j < 8
    · obtain ⟨A', T, u, D, g1, g2, g3, g4, g5, g6, g7, g8, g9⟩ := hR
      have HL := Lib.hid (load_calls g4 (6144 + (1 + (j : Int)) * 64) 64 64 (by decide) (by omega))
      have G1 := Lib.hid g1
      have G2 := Lib.hid g2
      have G3 := Lib.hid g3
      have G4 := Lib.hid g4
      have G5 := Lib.hid g5
      have G6 := Lib.hid g6
      have G7 := Lib.hid g7
      have G8 := Lib.hid g8
      have G9 := Lib.hid g9
      clear g1 g2 g3 g4 g5 g6 g7 g8 g9
      go_wp2_with fail
      refine (place_calls _ _ (by omega) (by omega)).mono ?_
      rintro e w2 ⟨rfl, rfl⟩
      go_wp2_with fail
      refine HL.out.mono ?_
      rintro e w2 ⟨bl, A2, rfl, hp2, hr2, hnA2, hbl⟩
      rw [show 6144 + (1 + (j : Int)) * 64 = 6144 + 64 * ((j + 1 : Nat) : Int) by omega] at hr2
      obtain ⟨l, hl⟩ : ∃ l, blk B (j + 1) = l := ⟨_, rfl⟩
      have hll : l.length = 64 := by rw [← hl, blk_length]
      have hlr : ∀ b ∈ l, 0 ≤ b ∧ b < 256 := by rw [← hl]; exact blk_range B G4.out.brange _
      have HST : RowKit.Hid (readT B (j + 1) = stepT (T.map Prod.fst) u l) := Lib.hid (by rw [readT, G1.out, hl]; rfl)
      have hr2' : Row w2 bl 5 l := by rw [← hl]; exact hr2
      have HDC := Lib.hid (decode_calls (.slice (some ⟨bl, 0, none⟩) 64 64) l w2 (by omega) hlr (by have := hr2'.sl; rw [hll] at this ⊢; exact this))
      have HP2 := Lib.hid hp2
      clear hr2 hr2' hl hlr hll hnA2 hbl hp2
      go_wp2_with fail
      refine HDC.out.mono ?_
      intro e w3 hdec
      obtain ⟨hF3, r, rfl, hr3⟩ := dec_new hdec
      obtain ⟨ar, cr, rfl⟩ := hr3.1.form
      have hS : decS l = (nd l).name := rfl
      have hN : decN l = (nd l).size := rfl
      have hX : decX l = (nd l).ext := rfl
      have hnA1 : ∀ k, k < W1.heap.size → w.heap.size ≤ k → ¬ A' k := fun k h1 h2 hA => by
        rcases G6.out k hA with h3 | h3
        · have := HM.out.low k h3; omega
        · omega
      have hFA3 : Fr A' wr w3 := HP2.out.2.1.trans hF3.no
      have HT3 := Lib.hid (G3.out.fr hFA3 (hnA1 _ (by omega) (by omega)))
      have HM3 := Lib.hid (ownsMap_fr' G8.out hFA3 (hnA1 _ (by omega) (by omega)))
      have HV3 : RowKit.Hid (TV (fun k => k < W1.heap.size ∨ A2 k) w3 T) := Lib.hid (by
        have h1 := (G7.out.up.fr hFA3 (fun k _ h => .inl (.inr h)))
        refine h1.mono (fun k _ h => ?_)
        rcases h with h | h
        · exact .inl (.inl h)
        · rcases HP2.out.2.2 k h with h2 | h2
          · exact .inl (.inr h2)
          · exact .inr h2)
      have HMP3 : RowKit.Hid (Mp w mb A F B w3 A2) := Lib.hid (((RdI.mp HF0.out (by omega) (by omega) G4.out G5.out G6.out).trans HP2.out).thenFr hF3)
      have HFW3 : RowKit.Hid (Fr (fun k => A k ∨ k = w.heap.size + 1 ∨ k = nm) W1 w3) := Lib.hid (G5.out.trans' hFA3 (fun i hi h => by
        rcases G6.out i h with h2 | h2
        · exact .inl h2
        · omega))
      have HGR3 : RowKit.Hid (Gr W1 A A2) := Lib.hid (G6.out.trans HP2.out.2.2 G5.out.size)
      have HR3 : RowKit.Hid (Sl w3 (.slice ar (decX l).length cr) (decX l).length (extCells (decX l)) ∧ ∀ k, (Value.slice ar (decX l).length cr).ownBlock = some k → (nd l).ext ≠ [] → ¬ (k < W1.heap.size ∨ A2 k)) := Lib.hid ⟨hr3.1, fun k e hne h => by
        have h1 := hr3.2 k e (ne_extCells hne)
        rcases h with h | h
        · have := HP2.out.2.1.size; have := G5.out.size; omega
        · have := HP2.out.1.low k h; omega⟩
      have HB23 : RowKit.Hid (w3.heap[w.heap.size]? = some (.cells (tabC noT 0).toArray 98 (0, 0))) := Lib.hid (HFW3.out.heap HB2.out (fun h => by
        rcases h with h | h | h
        · have := HM.out.low _ h; omega
        · omega
        · omega))
      have hwu : u < 2 ^ 32 := by
        have := (readT_iff B j _ u).1 G1.out
        rw [this.2.2.2.2]; exact usedN_lt _
      have HMK := Lib.hid (maskL_nat (listF (decX l)) (fun b hb => (listF_range _ b hb).2))
      have HXL := Lib.hid (decX_length l)
      have HU := Lib.hid hwu
      clear hr3 hdec HDC HL G3 G4 G5 G6 G7 G8 hFA3 hF3 HP2 hwu
      rw [hX] at HMK HR3 HXL
      rw [hS, hN, hX]
      have HKN : RowKit.Hid (decKind l = 0 → nd l = Nd.free) := Lib.hid nd_zero
      have HKM : RowKit.Hid (decKind l = 1 → (nd l).name ≠ noName ∧ (nd l).name.size ≤ 15) := Lib.hid (fun h => ⟨nd_named h, by
        have := (inoOk_small (decKind_one h).2.2.1).2.1; simpa [nd, decS, h] using this⟩)
      rw [stepT, hS] at HST
      rw [decB, decE]
      clear hS hN hX
      generalize nd l = x at *
      obtain ⟨s, sz, xs⟩ := x
      dsimp only at HMK HR3 HXL HKM HST ⊢
      have HBI := Lib.hid (fun w1 (h : Fr No w3 w1) => bits_calls (.slice ar xs.length cr) xs w1 (by have := HXL.out; omega) (HR3.out.1.fr0 h))
      obtain ⟨m, hm⟩ : ∃ m, maskN (listF xs) = m := ⟨_, rfl⟩
      have hmx : maskX ⟨s, sz, xs⟩ = m := hm
      rw [hmx] at HST
      have HMX := Lib.hid hmx
      have hml : maskL (listF xs) = (m : Int) := by rw [← hm]; exact HMK.out.1
      have hmk2 : m < 2 ^ 32 := by rw [← hm]; exact HMK.out.2
      rw [hml] at HBI
      clear hm hmx hml HMK
      have HB3 := Lib.hid (fun (w6 : World) (h : Fr No (w3.alloc (Obj.cells #[.string s, .int .i64 sz, .slice ar xs.length cr] 95)) w6) => (((Fr.refl No w3).alloc _).trans h : Fr No w3 w6))
      have hum := and_u32 u m HU.out hmk2
      have HMK2 := Lib.hid hmk2
      have HUM := Lib.hid hum
      clear hum hmk2
      have HTL : RowKit.Hid ((tabC (T ++ List.replicate (8 - j) (Nd.free, .slice none 0 0)) u).length = 25) := Lib.hid (by rw [tabC_length, HT3.out.2])
      have HTV : RowKit.Hid (TV (fun k => k < W1.heap.size ∨ A2 k) w3 (T ++ List.replicate (8 - j) (Nd.free, .slice none 0 0))) := Lib.hid (fun p hp => by
        rcases List.mem_append.1 hp with h | h
        · exact HV3.out p h
        · exact TV.nil _ _ _ p h)
      have HTO : RowKit.Hid (∀ v ∈ tabC (T ++ List.replicate (8 - j) (Nd.free, .slice none 0 0)) u, v.oneCell' = true) := Lib.hid (HTV.out.one' u)
      have HMPE : RowKit.Hid (∀ w7 w8, Fr (fun k => k = nm) w3 w7 → Fr (fun k => k = w.heap.size) w7 w8 → Mp w mb A F B w8 A2) := Lib.hid (fun w7 w8 h7 h8 => by
        have hM := HMP3.out
        have q1 : ¬ A2 nm := fun h => by
          rcases HGR3.out _ h with h | h
          · have := HM.out.low _ h; omega
          · omega
        have q2 : ¬ A2 w.heap.size := fun h => by
          rcases HGR3.out _ h with h | h
          · have := HM.out.low _ h; omega
          · omega
        exact ⟨(hM.1.fr h7 (fun k e => by subst e; exact q1)).fr h8 (fun k e => by subst e; exact q2), (hM.2.1.trans' h7 (fun i hi e => by omega)).trans' h8 (fun i hi e => by omega), hM.2.2⟩)
      have HERR : RowKit.Hid (readT B (j + 1) = none → tableF B = none) := Lib.hid (fun h => tableF_none h (by omega))
      by_cases hbad : decKind l = 2 ∨ u &&& m ≠ 0
      · have HN := Lib.hid (HERR.out (by rw [HST.out, if_pos hbad]))
        obtain ⟨bv, hbv⟩ : ∃ bv, decide (decKind l = 1) = bv := ⟨_, rfl⟩
        rw [hbv]
        clear hbv
        by_cases h2 : decKind l = 2
        · rw [if_pos h2]
          clear hbad h2 HST
          generalize T ++ List.replicate (8 - j) (Nd.free, Value.slice none 0 0) = TT at *
          go_wp2_with (first
            | (go_at_call 106; ((with_reducible refine (HBI.out _ ((Fr.refl No w3).alloc _)).mono ?_); rintro e w6 ⟨rfl, hF6⟩; have hF36 := HB3.out _ hF6; have hT6 := HT3.out.fr hF36 (fun h => h); have hb6 := hF36.heap HB23.out (fun h => h)))
            | (refine load_tab rfl _ rfl (w.heap.size + 1) (tabC TT u) rfl hT6.1 HTL.out ?_)
            | (refine store_tab rfl _ _ rfl w.heap.size (tabC TT u) (tabC noT 0) rfl rfl hb6 noT_len HTL.out HTO.out ?_; intro w7 hb7 hF7)
            | fail "arm")
          refine ret_tab rfl rfl rfl hb7 HTL.out rfl ?_
          exact ReadPost.bad HN.out (HMPE.out _ _ hF36.no hF7) HTL.out HTO.out
        · rw [if_neg h2]
          have hq0 : u &&& m ≠ 0 := by rcases hbad with h | h; exact absurd h h2; exact h
          obtain ⟨q, hq⟩ : ∃ q, u &&& m = q := ⟨_, rfl⟩
          have hum := HUM.out
          rw [hq] at hum hq0
          clear hbad h2 hq HST
          generalize T ++ List.replicate (8 - j) (Nd.free, Value.slice none 0 0) = TT at *
          have hqn : ((q : Int) != 0) = true := by simp; omega
          clear hq0
          go_wp2_with (first
            | (go_at_call 106; ((with_reducible refine (HBI.out _ ((Fr.refl No w3).alloc _)).mono ?_); rintro e w6 ⟨rfl, hF6⟩; have hF36 := HB3.out _ hF6; have hT6 := HT3.out.fr hF36 (fun h => h); have hu6 := hT6.used; have hb6 := hF36.heap HB23.out (fun h => h)))
            | (refine load_tab rfl _ rfl (w.heap.size + 1) (tabC TT u) rfl hT6.1 HTL.out ?_)
            | (refine store_tab rfl _ _ rfl w.heap.size (tabC TT u) (tabC noT 0) rfl rfl hb6 noT_len HTL.out HTO.out ?_; intro w7 hb7 hF7)
            | fail "arm")
          refine ret_tab rfl rfl rfl hb7 HTL.out rfl ?_
          exact ReadPost.bad HN.out (HMPE.out _ _ hF36.no hF7) HTL.out HTO.out
      · have hk2 : decKind l ≠ 2 := fun h => hbad (.inl h)
        have hum0 : u &&& m = 0 := Decidable.byContradiction fun h => hbad (.inr h)
        have hum : bits .and .u32 (u : Int) (m : Int) = 0 := by rw [HUM.out, hum0]; rfl
        rw [if_neg hbad] at HST
        rw [if_neg hk2]
        clear hbad hum0 HUM
        by_cases hk0 : decKind l = 0
        · rw [if_pos hk0] at HST
          rw [show decide (decKind l = 1) = false from by rw [hk0]; rfl]
          have hfree := HKN.out hk0
          have HFR := Lib.hid hfree
          clear hk0 hk2 hfree
          go_wp2_with (first
            | (go_at_call 106; ((with_reducible refine (HBI.out _ ((Fr.refl No w3).alloc _)).mono ?_); rintro e w6 ⟨rfl, hF6⟩; have hF36 := HB3.out _ hF6; have hu6 := (HT3.out.fr hF36 (fun h => h)).used))
            | fail "arm")
          go_roundw
          case rel =>
            refine ⟨j + 1, by omega, by go_num, A2, T ++ [(Nd.free, .slice none 0 0)], u, D, ?_, ?_, ?_, ?_, ?_, ?_, ?_, ?_, ?_⟩
            · rw [HST.out, List.map_append]; rfl
            · rw [List.length_append, G2.out]; rfl
            · rw [← rep_split T j hlt]; exact HT3.out.fr hF36 (fun h => h)
            · exact HMP3.out.1.fr0 hF36
            · exact HFW3.out.trans hF36.no
            · exact HGR3.out
            · intro p hp
              rcases List.mem_append.1 hp with h | h
              · exact HV3.out.fr0 hF36 p h
              · exact TV.nil _ _ 1 p h
            · exact (ownsMap_fr' HM3.out hF36 (fun h => h)).mono (by omega)
            · rw [List.map_append]; exact G9.out.free
          case measure => simp [intOf]; omega
        · have hk1 : decKind l = 1 := by rcases decKind_cases l with h | h | h <;> omega
          rw [if_neg hk0] at HST
          rw [show decide (decKind l = 1) = true from by rw [hk1]; rfl]
          obtain ⟨hs0, hs15⟩ := HKM.out hk1
          have HS0 := Lib.hid hs0
          have hkey : keyOf Tryz.prog 9 (.string s) = some (.string s.data.toList) := WideMaps.keyOf_string_mk Tryz.underlying9 (by unfold maxLen; omega)
          have HKEY := Lib.hid hkey
          clear hk0 hk1 hk2 hs0 hkey HKM HKN
          go_upto_region 13 with (first
            | (go_at_call 106; ((with_reducible refine (HBI.out _ ((Fr.refl No w3).alloc _)).mono ?_); rintro e w6 ⟨rfl, hF6⟩; have hF36 := HB3.out _ hF6; have hu6 := (HT3.out.fr hF36 (fun h => h)).used))
            | fail "arm")
          have hm6 := ownsMap_fr' HM3.out hF36 (fun h => h)
          have hK : Keyed Tryz.prog 9 := string_keyed Tryz.underlying9
          obtain ⟨c, hlk, hat, -⟩ := hm6.lookup_int hK Tryz.underlying130 Tryz.underlying3 (by kernel_rfl) HKEY.out
          rw [G9.out s HS0.out] at hat
          have hcv : c = if (T.map Prod.fst).any (fun y => decide (y.name = s)) = true then 1 else 0 := by
            injection hat with h1; injection h1 with h2 h3; exact h3.symm
          have hc0 : 0 ≤ c := by rw [hcv]; split <;> omega
          have hc1 : c ≤ 1 := by rw [hcv]; split <;> omega
          have HCV := Lib.hid hcv
          have HM6 := Lib.hid hm6
          have hbx := hF6.heap (heap_new w3 (Obj.cells #[.string s, .int .i64 sz, .slice ar xs.length cr] 95)) (fun h => h)
          have k0 := heap_cell (o := 0) hbx rfl
          have hW13 : W1.heap.size ≤ w3.heap.size := HFW3.out.size
          have HBX := Lib.hid hbx
          have HF36 := Lib.hid hF36
          have HK := Lib.hid hK
          have hjm : j < maxLen := by unfold maxLen; omega
          have HJM := Lib.hid hjm
          have hpe : plainElem (H := Unit) Tryz.prog 3 (.int .i64 (c + 1)) = some (.lit (.int .i64 (c + 1)), []) := plainElem_int Tryz.underlying3 (WalkArith.wf_i64 (by omega))
          have HPE := Lib.hid hpe
          clear hat hcv hm6 hbx hF36 hK hjm hpe hF6 hu6
          go_upto_region 14 with (at_mapUpdate; refine wpList_mapUpdate_own w6 rfl _ _ _ 130 rfl 9 3 HK.out Tryz.underlying130 (plainElem Tryz.prog 3) nm j D rfl HM6.out HJM.out _ _ _ rfl rfl HKEY.out (.lit (.int .i64 (c + 1))) [] HPE.out ?_; intro w7 hown7 hgrow7)
          have hF67 : Fr (fun k => k = nm) w6 w7 := (Fr.refl (fun k => k = nm) w6).grown hgrow7 (fun k e _ => by cases e; rfl)
          obtain ⟨c2, hlk2, hat2, -⟩ := hown7.lookup_int HK.out Tryz.underlying130 Tryz.underlying3 (by kernel_rfl) HKEY.out
          have hc2 : c2 = c + 1 := by
            rw [atKey_put_same HM6.out.isMap (by simp [WideAt.IsKeyLit])] at hat2
            injection hat2 with h1; injection h1 with h2 h3; exact h3.symm
          subst hc2
          have HF67 := Lib.hid hF67
          have hbx7 := hF67.heap HBX.out (by omega)
          have k7 := heap_cell (o := 0) hbx7 rfl
          have k71 := heap_cell (o := 1) hbx7 rfl
          have k72 := heap_cell (o := 2) hbx7 rfl
          have HOWN7 := Lib.hid hown7
          have HF37 : RowKit.Hid (Fr (fun k => k = nm) w3 w7) := Lib.hid (HF36.out.no.trans hF67)
          have HT7 := Lib.hid (HT3.out.fr HF37.out (by omega))
          have HB7 := Lib.hid (HF37.out.heap HB23.out (by omega))
          clear hlk k0 hat2 hown7 hgrow7 hF67 hbx7
          by_cases hc : c = 1
          · have hany : (T.map Prod.fst).any (fun y => decide (y.name = s)) = true := by
              by_cases h : (T.map Prod.fst).any (fun y => decide (y.name = s)) = true
              · exact h
              · have := HCV.out; rw [if_neg h] at this; omega
            have HN := Lib.hid (HERR.out (by rw [HST.out, if_pos hany]))
            subst hc
            clear hany HST hc0 hc1
            generalize T ++ List.replicate (8 - j) (Nd.free, Value.slice none 0 0) = TT at *
            go_wp2_with (first
              | (refine load_tab rfl _ rfl (w.heap.size + 1) (tabC TT u) rfl HT7.out.1 HTL.out ?_)
              | (refine store_tab rfl _ _ rfl w.heap.size (tabC TT u) (tabC noT 0) rfl rfl HB7.out noT_len HTL.out HTO.out ?_; intro w8 hb8 hF8)
              | fail "arm")
            refine ret_tab rfl rfl rfl hb8 HTL.out rfl ?_
            exact ReadPost.bad HN.out (HMPE.out _ _ HF37.out hF8) HTL.out HTO.out
          · obtain rfl : c = 0 := by omega
            have hany : ¬ (T.map Prod.fst).any (fun y => decide (y.name = s)) = true := fun h => by
              have := HCV.out; rw [if_pos h] at this; omega
            have HRJ : RowKit.Hid (readT B (j + 1) = some (T.map Prod.fst ++ [⟨s, sz, xs⟩], u ||| m)) := Lib.hid (by rw [HST.out, if_neg hany])
            have HTS : RowKit.Hid (TbAt (((w7.setCell ⟨w.heap.size + 1, j * 3, none⟩ (.string s)).setCell ⟨w.heap.size + 1, j * 3 + 1, none⟩ (.int .i64 sz)).setCell ⟨w.heap.size + 1, j * 3 + 2, none⟩ (.slice ar xs.length cr)) (w.heap.size + 1) ((T ++ [(⟨s, sz, xs⟩, .slice ar xs.length cr)]) ++ List.replicate (8 - (j + 1)) (Nd.free, .slice none 0 0)) u) := Lib.hid (by
              have := HT7.out.setNode j (by rw [HT7.out.2]; exact hlt) ⟨s, sz, xs⟩ (.slice ar xs.length cr)
              rw [rep_set T j G2.out hlt] at this
              exact this)
            have hjl : j < (T ++ List.replicate (8 - j) (Nd.free, Value.slice none 0 0)).length := by rw [HT7.out.2]; exact hlt
            obtain ⟨d0, d1, d2⟩ := HT7.out.cells j hjl
            have f0 := HT7.out.frozen (j * 3)
            have f1 := HT7.out.frozen (j * 3 + 1)
            have f2 := HT7.out.frozen (j * 3 + 2)
            have FB4 : RowKit.Hid (Fr (fun k => k = w.heap.size + 1) w7 (((w7.setCell ⟨w.heap.size + 1, j * 3, none⟩ (.string s)).setCell ⟨w.heap.size + 1, j * 3 + 1, none⟩ (.int .i64 sz)).setCell ⟨w.heap.size + 1, j * 3 + 2, none⟩ (.slice ar xs.length cr))) :=
              Lib.hid ((((Fr.refl (fun k => k = w.heap.size + 1) w7).setCell (p := ⟨w.heap.size + 1, j * 3, none⟩) (fun _ => rfl) _).setCell (p := ⟨w.heap.size + 1, j * 3 + 1, none⟩) (fun _ => rfl) _).setCell (p := ⟨w.heap.size + 1, j * 3 + 2, none⟩) (fun _ => rfl) _)
            have HOR := Lib.hid (or_u32 u m HU.out HMK2.out)
            clear hany HST hc0 hc1
            revert d0 d1 d2
            generalize (T ++ List.replicate (8 - j) (Nd.free, Value.slice none 0 0))[j] = y
            obtain ⟨⟨y0, y1, y2⟩, y3⟩ := y
            dsimp only
            intro d0 d1 d2
            go_upto_region 17 with fail
            generalize World.setCell _ _ _ = W8 at *
            have e0 := HTS.out.used
            have e1 := HTS.out.frozen 24
            have hor := HOR.out
            have HW9 := Lib.hid (HTS.out.setUsed (u ||| m))
            have HF9 := Lib.hid ((Fr.refl (fun k => k = w.heap.size + 1) W8).setCell (p := ⟨w.heap.size + 1, 24, none⟩) (fun _ => rfl) (.int .u32 ((u ||| m : Nat) : Int)))
            clear d0 d1 d2 f0 f1 f2 k7 k71 k72
            go_wp2_with fail
            go_roundw
            case rel =>
              have hF39 : Fr (fun k => k = w.heap.size + 1 ∨ k = nm) w3 _ := ((HF37.out.mono (fun _ _ h => .inr h)).trans (FB4.out.mono (fun _ _ h => .inl h))).trans (HF9.out.mono (fun _ _ h => .inl h))
              have hb4 : ¬ A2 (w.heap.size + 1) := fun h => by
                rcases HGR3.out _ h with h | h
                · have := HM.out.low _ h; omega
                · omega
              have hbn : ¬ A2 nm := fun h => by
                rcases HGR3.out _ h with h | h
                · have := HM.out.low _ h; omega
                · omega
              have hX : ∀ k, k < w3.heap.size → (k = w.heap.size + 1 ∨ k = nm) → (k < W1.heap.size ∨ A2 k) := fun k _ h => .inl (by omega)
              refine ⟨j + 1, by omega, by go_num, A2, T ++ [(⟨s, sz, xs⟩, .slice ar xs.length cr)], u ||| m, D.put (.string s.data.toList) (.lit (.int .i64 1)), ?_, ?_, ?_, ?_, ?_, ?_, ?_, ?_, ?_⟩
              · rw [HRJ.out, List.map_append]; rfl
              · rw [List.length_append, G2.out]; rfl
              · exact HW9.out
              · exact HMP3.out.1.fr hF39 (fun k e => by rcases e with e | e <;> (subst e; assumption))
              · exact HFW3.out.trans (hF39.mono (fun _ _ h => .inr h))
              · exact HGR3.out
              · intro p hp
                rcases List.mem_append.1 hp with h | h
                · exact HV3.out.fr hF39 hX p h
                · obtain rfl := List.mem_singleton.1 h
                  refine ⟨HR3.out.1.fr hF39 (fun k e hne hs => HR3.out.2 k e (extCells_ne hne) (hX k (HR3.out.1.lt e hne) hs)), HR3.out.2⟩
              · have h1 := ownsMap_fr' HOWN7.out (FB4.out.trans HF9.out) (by omega)
                exact h1
              · rw [List.map_append]; exact G9.out.put HM6.out.isMap ⟨s, sz, xs⟩
            case measure => simp [intOf]; omega
    · obtain rfl : j = 8 := by omega
      obtain ⟨A', T, u, D, g1, g2, g3, g4, g5, g6, g7, -, -⟩ := hR
      rw [Nat.sub_self, List.replicate_zero, List.append_nil] at g3
      have hul : u < 2 ^ 32 := by
        have := (readT_iff B 8 _ u).1 g1
        rw [this.2.2.2.2]; exact usedN_lt _
      have hnA : ∀ k, k < W1.heap.size → w.heap.size ≤ k → ¬ A' k := fun k h1 h2 hA => by
        rcases g6 k hA with h3 | h3
        · have := HM.out.low k h3; omega
        · omega
      have hu0 := g3.used
      have HLL := Lib.hid (fun w1 (h : Fr No wr w1) => load_calls (g4.fr0 h) 6144 64 64 (by decide) (by omega))
      have HH := Lib.hid (fun w1 => fhead_calls u hul w1)
      obtain ⟨bv, hbv⟩ : ∃ bv, decide (blk B 0 = headF u) = bv := ⟨_, rfl⟩
      have HEQ := Lib.hid (fun (w1 : World) (va vb : Value) (h1 : Sl w1 va 64 (bys (blk B 0))) (h2 : Sl w1 vb 64 (bys (headF u))) => (by
        have := equal_calls va vb (blk B 0) (headF u) w1 (blk_range B g4.brange 0) (headF_range u) (by rw [blk_length]; exact h1) (by rw [headF_length]; exact h2)
        rw [hbv] at this; exact this : Calls Tryz.prog 109 #[va, vb] w1 fun e w' => e = .returned (.bool bv) ∧ w1 = w'))
      have HNB : RowKit.Hid (bv = false → tableF B = none) := Lib.hid (fun e => by
        rw [tableF, g1, Option.bind_some, if_neg (of_decide_eq_false (hbv.trans e))])
      have HNG : RowKit.Hid (bv = true → tableF B = some (T.map Prod.fst, u)) := Lib.hid (fun e => by
        rw [tableF, g1, Option.bind_some, if_pos (of_decide_eq_true (hbv.trans e))])
      have hMr := Mp.refl g4
      have HSS := Lib.hid (fun (w' : World) (h : Fr A' wr w') => (⟨h.cell hu0 (hnA _ (by omega) (by omega)), h⟩ : w'.cell? ⟨w.heap.size + 1, 24, none⟩ = some (.int .u32 (u : Int)) ∧ Fr A' wr w'))
      have HB0 := Lib.hid (blk0 B)
      have HLOW := Lib.hid g4.low
      have G1 := Lib.hid g1
      have G2 := Lib.hid g2
      have G3 := Lib.hid g3
      have G4 := Lib.hid g4
      have G5 := Lib.hid g5
      have G6 := Lib.hid g6
      have G7 := Lib.hid g7
      have HMR := Lib.hid hMr
      have HLD : RowKit.Hid (∀ (w1 : World) (b : Nat), Row w1 b 5 (blk B 0) → Sl w1 (.slice (some ⟨b, 0, none⟩) 64 64) 64 (bys (blk B 0))) := Lib.hid (fun w1 b h => by have := h.sl; rw [blk_length] at this; exact this)
      clear g1 g2 g3 g4 g5 g6 g7 hbv hMr
      generalize headF u = hd at *
      generalize blk B 0 = bl0 at *
      go_upto_region 19 with fail
      go_cut [72] (fun s72 wx => s72 = .bool (!bv) ∧ ∃ A2, Mp wr mb A' F B wx A2)
      case first =>
        go_region_held3 (fun w' => w'.cell? ⟨w.heap.size + 1, 24, none⟩ = some (.int .u32 (u : Int)) ∧ Fr A' wr w') (first | exact HSS.out _ (Fr.refl _ _).drew | exact HSS.out _ ((Fr.refl _ _).drew.trans hFh.no) | exact HSS.out _ ((Fr.refl _ _).drew.trans hpl.2.1) | exact HSS.out _ (((Fr.refl _ _).drew.trans hpl.2.1).trans hFh.no) | exact HSS.out _ (((Fr.refl _ _).drew.trans hFh.no).trans hpl.2.1)) (first
          | (go_at_call 42; ((with_reducible refine (place0_calls _).mono ?_); rintro e w3 ⟨rfl, rfl⟩))
          | (go_at_call 47; ((with_reducible refine (HLL.out _ (by first | exact (Fr.refl _ _).drew | exact (Fr.refl _ _).drew.trans hFh)).mono ?_); rintro e wl ⟨bl, A2, rfl, hpl, hrl, hnl, hbl⟩; rw [← HB0.out] at hrl))
          | (go_at_call 43; ((with_reducible refine (HH.out _).mono ?_); rintro e wh ⟨rh, rfl, hFh, hrh⟩; obtain ⟨ah, ch, rfl⟩ := (Sl.of_owns hrh).form))
          | (go_at_call 109; ((with_reducible refine (HEQ.out _ _ _ (by first | exact HLD.out _ _ (hrl.fr hFh (fun h => h)) | exact HLD.out _ _ hrl) (by first | exact Sl.of_owns hrh | exact (Sl.of_owns hrh).fr hpl.2.1 (fun k e _ hA => Nat.lt_irrefl _ (Nat.lt_of_lt_of_le (HLOW.out k hA) (hrh.lt k e).1)))).mono ?_); rintro e we ⟨rfl, rfl⟩))
          | fail "arm")
        all_goals (
          go_wp2_with fail
          go_meet
          refine ⟨rfl, A2, ?_⟩
          first
            | exact ((HMR.out.thenFr (Fr.refl No wr).drew).trans hpl).thenFr hFh
            | exact (HMR.out.thenFr ((Fr.refl No wr).drew.trans hFh)).trans hpl)
      case rest =>
        obtain ⟨rfl, A2, hp2⟩ := hcut
        have hT2 := G3.out.fr hp2.2.1 (hnA _ (by omega) (by omega))
        have hb2 : wc.heap[w.heap.size]? = some (.cells (tabC noT 0).toArray 98 (0, 0)) := (G5.out.trans' hp2.2.1 (fun i hi h => by
          rcases G6.out i h with h | h
          · exact .inl h
          · omega)).heap HB2.out (fun h => by
            rcases h with h | h | h
            · have := HM.out.low _ h; omega
            · omega
            · omega)
        have HP2 := Lib.hid ((RdI.mp HF0.out (by omega) (by omega) G4.out G5.out G6.out).trans hp2)
        have HV2 : RowKit.Hid (TV (fun k => k < W1.heap.size ∨ A2 k) wc T) := Lib.hid ((G7.out.up.fr hp2.2.1 (fun k _ h => .inl (.inr h))).mono (fun k _ h => by
          rcases h with h | h
          · exact .inl (.inl h)
          · rcases hp2.2.2 k h with h | h
            · exact .inl (.inr h)
            · exact .inr h))
        have HTL : RowKit.Hid ((tabC T u).length = 25) := Lib.hid (by rw [tabC_length, G2.out])
        have HTO : RowKit.Hid (∀ v ∈ tabC T u, v.oneCell' = true) := Lib.hid (G7.out.one' u)
        have HQ2 : RowKit.Hid (∀ w8, Fr (fun k => k = w.heap.size) wc w8 → Mp w mb A F B w8 A2) := Lib.hid (fun w8 h8 => by
          have hM := HP2.out
          have q2 : ¬ A2 w.heap.size := fun h => by
            rcases hM.2.2 _ h with h | h
            · have := HM.out.low _ h; omega
            · rcases hp2.2.2 _ ‹A2 w.heap.size› with h5 | h5
              · exact hnA _ (by omega) (Nat.le_refl _) h5
              · have := G5.out.size; omega
          exact ⟨hM.1.fr h8 (fun k e => by subst e; exact q2), hM.2.1.trans' h8 (fun i hi e => by omega), hM.2.2⟩)
        cases bv
        · have HN := Lib.hid (HNB.out rfl)
          simp only [Bool.not_false]
          go_wp2_with (first
            | (refine load_tab rfl _ rfl (w.heap.size + 1) (tabC T u) rfl hT2.1 HTL.out ?_)
            | (refine store_tab rfl _ _ rfl w.heap.size (tabC T u) (tabC noT 0) rfl rfl hb2 noT_len HTL.out HTO.out ?_; intro w8 hb8 hF8)
            | fail "arm")
          refine ret_tab rfl rfl rfl hb8 HTL.out rfl ?_
          exact ReadPost.bad HN.out (HQ2.out _ hF8) HTL.out HTO.out
        · have HN := Lib.hid (HNG.out rfl)
          simp only [Bool.not_true]
          go_wp2_with (first
            | (refine load_tab rfl _ rfl (w.heap.size + 1) (tabC T u) rfl hT2.1 HTL.out ?_)
            | (refine store_tab rfl _ _ rfl w.heap.size (tabC T u) (tabC noT 0) rfl rfl hb2 noT_len HTL.out HTO.out ?_; intro w8 hb8 hF8)
            | fail "arm")
          refine ret_tab rfl rfl rfl hb8 HTL.out rfl ?_
          refine ⟨A2, tabC T u, by rw [checkE_some HN.out]; rfl, HQ2.out _ hF8, HTL.out, HTO.out, fun L u' h => ?_⟩
          rw [HN.out] at h
          cases h
          refine ⟨T, rfl, rfl, ?_⟩
          exact (HV2.out.fr hF8 (fun k _ e => .inl (by omega))).mono (fun k _ h => by
            rcases h with h | h
            · exact .inl (Nat.lt_of_lt_of_le h HF0.out.size)
            · exact .inr h)
end Go.Proofs.YtoajnmbbgbpbgaaGreat
