/-
  Maps of the call's own, keyed by ints, as functions.
-/
import Derived.Test.YtpcikbloflpahaaDoorYA
import Derived.Maps.OwnSet
import Derived.Maps.Range
import Derived.Deep.DeepCutAuto
import Derived.Deep.CutBlock
import Derived.Deep.RegionHeld3
import Derived.Deep.RegionWith
import Derived.Laws.Cover3
import Derived.Great.BuildSlice
import Derived.Laws.Tables
namespace Go.Proofs.YtpcikbloflpahaaDoor
set_option linter.unusedVariables false
set_option linter.unusedSimpArgs false
open Go.RowKit Go.Shelf Go.Maps

/-- An element reads as itself. -/
def Rv (v : Value) : Option (DataW Value × List MemPlace) := some (.held v, [])
def kI (i : Int) : Lit := .int .i64 i
theorem kI_key (i : Int) : WideAt.IsKeyLit (kI i) := by simp [kI, WideAt.IsKeyLit]
theorem kI_ne {i j : Int} (h : i ≠ j) : kI i ≠ kI j := fun e => h (by unfold kI at e; injection e)
def upd (f : Int → Option Value) (i : Int) (v : Option Value) : Int → Option Value := fun j => if j = i then v else f j
theorem upd_same (f : Int → Option Value) (i : Int) (v : Option Value) : upd f i v i = v := if_pos rfl
theorem upd_ne (f : Int → Option Value) {i j : Int} (v : Option Value) (h : j ≠ i) : upd f i v j = f j := if_neg h
def Agr (D : DataW Value) (f : Int → Option Value) : Prop := ∀ i, Maps.has D (kI i) = (f i).isSome ∧ ∀ zd, D.atKey (kI i) zd = (match f i with | some v => .held v | none => zd)

/-- Block b is a map of c entries: f. -/
def MapAt (P : Program) (k : TypeId) (w : World) (b c : Nat) (f : Int → Option Value) : Prop :=
  ∃ D, w.ownsMap P k Rv b c D ∧ Maps.size D = c ∧ Agr D f

section
variable {P : Program} {k : TypeId} {w : World} {b c : Nat} {f : Int → Option Value}

theorem ownsMap_size {n : Nat} {D : DataW Value} (h : w.ownsMap P k Rv b n D) : w.ownsMap P k Rv b (Maps.size D) D := by
  obtain ⟨es, clock, hb, F, hs, rfl⟩ := h
  exact ⟨es, clock, hb, F, by simp [Maps.size, length_sorted], rfl⟩
theorem MapAt.made (P : Program) (k : TypeId) (w : World) : MapAt P k (w.alloc (.map #[] 0)) w.heap.size 0 (fun _ => none) :=
  ⟨_, World.ownsMap_made w P k Rv, rfl, fun i => ⟨rfl, fun zd => rfl⟩⟩
theorem MapAt.lt (h : MapAt P k w b c f) : b < w.heap.size := by obtain ⟨D, h, -⟩ := h; exact h.lt
theorem MapAt.fr {S : Nat → Prop} {w' : World} (h : MapAt P k w b c f) (hF : Fr S w w') (hn : ¬ S b) : MapAt P k w' b c f := by
  have hlt := h.lt
  obtain ⟨D, ⟨es, clock, hb, F, hs, hD⟩, h1, h2⟩ := h
  exact ⟨D, ⟨es, clock, (hF.blk b hlt hn).trans hb, F, hs, hD⟩, h1, h2⟩

theorem MapAt.look {t e : TypeId} (h : MapAt P k w b c f) (hk : P.underlying k = some (.int .i64)) (ht : P.underlying t = some (.map k e)) {z : Value} (hz : (zeroValue e).run P w = .ok z w) (i : Int) (hi : -9223372036854775808 ≤ i ∧ i ≤ 9223372036854775807) :
    (Instr.lookup t (.map (some b)) (.int .i64 i) true).run P w = .ok (.tuple #[(f i).getD z, .bool (f i).isSome]) w ∧ (Instr.lookup t (.map (some b)) (.int .i64 i) false).run P w = .ok ((f i).getD z) w := by
  obtain ⟨D, hD, hc, ha⟩ := h
  have hw : (Lit.int .i64 i).wf = true := by simp only [Lit.wf, Bool.and_eq_true, decide_eq_true_eq]; exact hi
  have hkey := keyOf_int_mk (P := P) hk hw
  obtain ⟨v, ps, hrun, hv⟩ := hD.look_ok (int_keyed hk) ht hz (zd := .held z) (zp := []) rfl hkey
  obtain ⟨v2, ps2, hrun2, hv2⟩ := hD.lookup (int_keyed hk) ht hz (zd := .held z) (zp := []) rfl hkey
  obtain ⟨a1, a2⟩ := ha i
  have e1 : v = (f i).getD z := by
    have := a2 (.held z)
    unfold kI at this
    rw [this] at hv
    unfold Rv at hv
    cases hf : f i with
    | none => rw [hf] at hv; simp at hv; exact hv.1
    | some u => rw [hf] at hv; simp at hv; exact hv.1
  have e2 : v2 = (f i).getD z := by
    have := a2 (.held z)
    unfold kI at this
    rw [this] at hv2
    unfold Rv at hv2
    cases hf : f i with
    | none => rw [hf] at hv2; simp at hv2; exact hv2.1
    | some u => rw [hf] at hv2; simp at hv2; exact hv2.1
  unfold kI at a1
  rw [a1, e1] at hrun
  rw [e2] at hrun2
  exact ⟨hrun, hrun2⟩
theorem MapAt.len {t e : TypeId} (h : MapAt P k w b c f) (ht : P.underlying t = some (.map k e)) (ty : TypeId) : (Builtin.len_ #[t] ty #[.map (some b)]).run P w = .ok (.int .i64 (c : Nat)) w := by
  obtain ⟨D, hD, hc, ha⟩ := h
  rw [← hc]
  exact hD.len ht ty
theorem turned_fr {w' : World} (h : w.mapTurned w' b) : Fr (fun j => j = b) w w' := (Fr.refl _ _).grown h.grown (fun j e _ => by injection e with e; exact e.symm)
theorem MapAt.put {t e : TypeId} (h : MapAt P k w b c f) (hk : P.underlying k = some (.int .i64)) (ht : P.underlying t = some (.map k e)) (hn : c < maxLen) (i : Int) (hi : -9223372036854775808 ≤ i ∧ i ≤ 9223372036854775807) (v : Value) :
    ∃ w', (Instr.mapUpdate t (.map (some b)) (.int .i64 i) v).run P w = .ok () w' ∧ MapAt P k w' b (if (f i).isSome then c else c + 1) (upd f i (some v)) ∧ Fr (fun j => j = b) w w' := by
  obtain ⟨D, hD, hc, ha⟩ := h
  have hw : (Lit.int .i64 i).wf = true := by simp only [Lit.wf, Bool.and_eq_true, decide_eq_true_eq]; exact hi
  have hkey := keyOf_int_mk (P := P) hk hw
  obtain ⟨w', hrun, h1, h2⟩ := hD.store (int_keyed hk) ht hn hkey (val := v) (d := .held v) (ps := []) rfl
  have hT := hD.tidy (int_keyed hk)
  have hM := hD.isMap
  refine ⟨w', hrun, ⟨D.put (kI i) (.held v), ?_, ?_, fun j => ?_⟩, turned_fr h2⟩
  · have := ownsMap_size h1
    rw [size_put hT] at this
    have a := (ha i).1
    unfold kI at a
    rw [a, hc] at this
    exact this
  · rw [size_put hT, hc, (ha i).1]
  · by_cases e : j = i
    · subst e
      rw [upd_same]
      exact ⟨has_put_same hM (kI_key j) _, fun zd => atKey_put_same hM (kI_key j) _ zd⟩
    · rw [upd_ne f _ e]
      exact ⟨(has_put_other (kI_ne e) _).trans (ha j).1, fun zd => (atKey_put_other (kI_ne e) _ zd).trans ((ha j).2 zd)⟩
theorem MapAt.del {t e : TypeId} (h : MapAt P k w b c f) (hk : P.underlying k = some (.int .i64)) (ht : P.underlying t = some (.map k e)) (i : Int) (hi : -9223372036854775808 ≤ i ∧ i ≤ 9223372036854775807) (ty : TypeId) :
    ∃ w', (Builtin.delete_ #[t, k] ty #[.map (some b), .int .i64 i]).run P w = .ok (.tuple #[]) w' ∧ MapAt P k w' b (if (f i).isSome then c - 1 else c) (upd f i none) ∧ Fr (fun j => j = b) w w' := by
  obtain ⟨D, hD, hc, ha⟩ := h
  have hw : (Lit.int .i64 i).wf = true := by simp only [Lit.wf, Bool.and_eq_true, decide_eq_true_eq]; exact hi
  have hkey := keyOf_int_mk (P := P) hk hw
  obtain ⟨w', hrun, h1, h2⟩ := hD.drop (int_keyed hk) ht hkey ty
  have hT := hD.tidy (int_keyed hk)
  have hM := hD.isMap
  have hsz := size_del (k := kI i) hT
  have a := (ha i).1
  rw [a, hc] at hsz
  have hs2 : Maps.size (D.del (kI i)) = if (f i).isSome then c - 1 else c := by
    cases hf : (f i).isSome <;> rw [hf] at hsz <;> simp at hsz ⊢ <;> omega
  refine ⟨w', hrun, ⟨D.del (kI i), ?_, hs2, fun j => ?_⟩, turned_fr h2⟩
  · have := ownsMap_size h1
    unfold kI at hs2
    rw [hs2] at this
    exact this
  · by_cases e : j = i
    · subst e
      rw [upd_same]
      exact ⟨has_del_same, fun zd => atKey_del_same zd⟩
    · rw [upd_ne f _ e]
      exact ⟨(has_del_other (kI_ne e)).trans (ha j).1, fun zd => (atKey_del_other (kI_ne e) zd).trans ((ha j).2 zd)⟩
end

/-- A store at the operation. -/
theorem map_put {P : Program} {w : World} {ops : Array Oper} {rest : List Oper} {o : Oper} {a : Act} {Q : Exit → Act → World → Prop} (hg : o.guard = none) (m x v : Operand) (t : TypeId) (hop : o.op = Op.mapUpdate t m x v)
    {k e : TypeId} {b c : Nat} {f : Int → Option Value} (hm : a.eval m = .map (some b)) (h : MapAt P k w b c f) (hk : P.underlying k = some (.int .i64)) (ht : P.underlying t = some (.map k e)) (hn : c < maxLen) (i : Int) (hi : -9223372036854775808 ≤ i ∧ i ≤ 9223372036854775807) (u : Value)
    (hx : a.eval x = .int .i64 i) (hv : a.eval v = u)
    (hK : ∀ w', MapAt P k w' b (if (f i).isSome then c else c + 1) (upd f i (some u)) → Fr (fun j => j = b) w w' → wpList P ops Q rest (a.put o.dst undef) w') :
    wpList P ops Q (o :: rest) a w := by
  refine wpList_plain hg fun K' hK' => ?_
  obtain ⟨w', hrun, r1, r2⟩ := h.put hk ht hn i hi u
  unfold Oper.wp
  simp [execOp, hop, hm, hx, hv, hrun, Result.andThen]
  exact hK' _ _ (hK w' r1 r2)
theorem map_del {P : Program} {w : World} {ops : Array Oper} {rest : List Oper} {o : Oper} {a : Act} {Q : Exit → Act → World → Prop} (hg : o.guard = none) (m x : Operand) (t k : TypeId) (hop : o.op = Op.call { callee := Callee.builtin Builtin.delete, args := #[m, x], argTypes := #[t, k] })
    {e : TypeId} {b c : Nat} {f : Int → Option Value} (hm : a.eval m = .map (some b)) (h : MapAt P k w b c f) (hk : P.underlying k = some (.int .i64)) (ht : P.underlying t = some (.map k e)) (i : Int) (hi : -9223372036854775808 ≤ i ∧ i ≤ 9223372036854775807)
    (hx : a.eval x = .int .i64 i)
    (hK : ∀ w', MapAt P k w' b (if (f i).isSome then c - 1 else c) (upd f i none) → Fr (fun j => j = b) w w' → wpList P ops Q rest (a.put o.dst (.tuple #[])) w') :
    wpList P ops Q (o :: rest) a w := by
  refine wpList_plain hg fun K' hK' => ?_
  obtain ⟨w', hrun, r1, r2⟩ := h.del hk ht i hi o.type
  unfold Oper.wp
  simp [execOp, hop, resolve, invoke, builtin, hm, hx, hrun, Result.andThen]
  exact hK' _ _ (hK w' r1 r2)
end Go.Proofs.YtpcikbloflpahaaDoor
namespace Go.Proofs.YtpcikbloflpahaaDoor
set_option linter.unusedVariables false
set_option linter.unusedSimpArgs false
open Go.RowKit Go.Shelf Go.Maps

theorem append_at7 {P : Program} {w : World} {ops : Array Oper} {rest : List Oper} {o : Oper} {a : Act} {Q : Exit → Act → World → Prop}
    {t e : TypeId} {z : Value} {size bytes : Nat} (hE : Elem P t e z size bytes)
    (hg : o.guard = none) (s x : Operand) (hop : o.op = Op.call { callee := Callee.builtin Builtin.append, args := #[s, x], argTypes := #[t, t] })
    (base : Nat) (v : Value) (k : Nat) (xs : List Value) (hs : a.eval s = v) (hown : w.ownsRow base e size v k xs) {y : Value} {m : Nat} {cs : List Value} (hx : a.eval x = y) (hsl : Sl w y m cs) (hn : cs.length = m * size)
    (h1c : ∀ u ∈ cs, u.oneCell' = true) (b1 : k + m ≤ maxLen) (b2 : (k + m) * bytes ≤ 140737488355328) (b3 : base ≤ w.heap.size)
    (hK : ∀ a' n' c' w', w'.ownsRow base e size (.slice a' n' c') (k + m) (xs ++ cs) → w.grownBy w' v.ownBlock → ((Value.slice a' n' c').ownBlock = v.ownBlock ∨ (Value.slice a' n' c').ownBlock = some w.heap.size) → wpList P ops Q rest (a.put o.dst (.slice a' n' c')) w') :
    wpList P ops Q (o :: rest) a w := by
  refine wpList_plain hg fun K' hK' => ?_
  obtain ⟨v', w', hr, h2, h3, h4⟩ := run_append_sl (P := P) t o.type base hE v k xs hown hsl hn h1c b1 b2 b3
  unfold Oper.wp execOp
  simp only [hop, resolve, invoke, builtin, Sem.run_bind, Sem.run_pure, Result.andThen_ok, List.map_toArray, List.map_cons, List.map_nil, hs, hx, hr]
  obtain ⟨a', c', e'⟩ := (Sl.of_owns h2).form
  subst e'
  exact hK' _ _ (hK _ _ _ w' h2 h3 h4)
/-- One operation of a drawn region, taken first: its slot is named. -/
theorem take_at7 {P : Program} {md : Region.Mode} {ops : Array Oper} {Q : Exit → Act → World → Prop} {S : World → Prop} {i : Nat} {oi : Oper} {d : Option Tmp} {v : Value} {fuel : Nat} {listed : Array Bool} {a : Act} {w : World} (hi : ops[i]? = some oi) (hd : oi.dst = d)
    (hs : Region.noSelect ops = true) (hf : Region.free md ops listed i = true) (hr : (Region.ready md ops listed).contains i = true)
    (hQ : ∀ c a w, Q (.panic c) (a.put d v) w → Q (.panic c) a w) (hy : YieldsIf P ops S oi v a) (hS : S w)
    (h : wpAnyH P md ops Q S fuel (listed.setIfInBounds i true) (a.put d v) w) : wpAnyH P md ops Q S (fuel + 1) listed a w := by
  subst hd; exact wpAnyH_take hi hs hf hr hQ hy hS h
theorem heap_setAt7 {w : World} {b : Nat} {cs : List Value} {t : TypeId} (h : w.heap[b]? = some (.cells cs.toArray t (0, 0))) (o : Nat) (v : Value) : (w.setCell ⟨b, o, none⟩ v).heap[b]? = some (.cells (cs.set o v).toArray t (0, 0)) := by
  simp [World.setCell, Array.getElem?_modify, h]
theorem heap_setCells7 {w : World} {b : Nat} {cs : List Value} {t : TypeId} (h : w.heap[b]? = some (.cells cs.toArray t (0, 0))) (vs : List Value) (hl : cs.length = vs.length) : (w.setCells b 0 vs).heap[b]? = some (.cells vs.toArray t (0, 0)) := by
  have : ∀ (vs pre cs : List Value) (w : World), w.heap[b]? = some (.cells (pre ++ cs).toArray t (0, 0)) → cs.length = vs.length → (w.setCells b pre.length vs).heap[b]? = some (.cells (pre ++ vs).toArray t (0, 0)) := by
    intro vs
    induction vs with
    | nil => intro pre cs w h hl; obtain rfl := List.length_eq_zero_iff.1 hl; exact h
    | cons v vs ih =>
      intro pre cs w h hl
      cases cs with
      | nil => simp at hl
      | cons c cs =>
        have h1 := heap_setAt7 h pre.length v
        rw [List.set_append_right _ _ (Nat.le_refl _), Nat.sub_self, List.set_cons_zero] at h1
        have h2 := ih (pre ++ [v]) cs (w.setCell ⟨b, pre.length, none⟩ v) (by rw [List.append_assoc]; exact h1) (by simpa using hl)
        rw [List.length_append, List.append_assoc] at h2
        exact h2
  exact this vs [] cs w h hl
theorem fr_setCells7 (w : World) (b o : Nat) (vs : List Value) : Fr (fun k => k = b) w (w.setCells b o vs) := by
  induction vs generalizing w o with
  | nil => exact Fr.refl _ _
  | cons v vs ih => exact ((Fr.refl (fun k => k = b) w).setCell (p := ⟨b, o, none⟩) (fun _ => rfl) v).trans (ih _ _)
theorem fr_grown7 {w w' : World} {row : Option Nat} (h : w.grownBy w' row) : Fr (fun k => row = some k) w w' := (Fr.refl _ _).grown h (fun k e _ => e)
theorem sl_new7 (w : World) (cs : List Value) (t : TypeId) (n : Nat) (hne : cs ≠ []) (hn : 0 < n) : Sl (w.alloc (.cells cs.toArray t)) (.slice (some ⟨w.heap.size, 0, none⟩) n n) n cs := by
  refine ⟨_, _, rfl, ⟨by simp, Nat.le_refl _⟩, fun _ => ⟨_, _, rfl⟩, ?_⟩
  rintro b off j u ⟨rfl, rfl⟩ hj
  rw [Nat.zero_add]
  exact heap_cell (heap_new w _) (by simpa using hj)
theorem ownsRow_fr7 {W W' : World} {S : Nat → Prop} {base e size n : Nat} {v : Value} {xs : List Value} (h : W.ownsRow base e size v n xs) (hF : Fr S W W') (hn : ∀ k, v.ownBlock = some k → ¬ S k) : W'.ownsRow base e size v n xs := by
  obtain ⟨h1, h2 | ⟨g, cap, cur, rfl, hg, hh, r⟩⟩ := h
  · exact ⟨h1, .inl h2⟩
  · exact ⟨h1, .inr ⟨g, cap, cur, rfl, hg, hF.heap hh (hn g rfl), r⟩⟩
theorem not_row7 {w : World} {b1 : Nat} {o : Obj} (hb : w.heap[b1]? = some o) {e : TypeId} (hne : ∀ cs f, o ≠ .cells cs e f) {base size k : Nat} {v : Value} {xs : List Value} (hv : w.ownsRow base e size v k xs) : ∀ q, v.ownBlock = some q → q ≠ b1 := by
  intro q hq he
  subst he
  obtain ⟨_, ⟨rfl, _⟩ | ⟨g, cap, cur, rfl, hg, hh, _⟩⟩ := hv
  · simp [Value.ownBlock] at hq
  · obtain rfl : g = q := by simpa [Value.ownBlock] using hq
    rw [hh] at hb
    injection hb with hb
    exact hne _ _ hb.symm
/-- Rows of two types lie in two blocks; a row and a map too. -/
theorem rows_apart7 {W : World} {b1 e1 s1 n1 b2 e2 s2 n2 : Nat} {v1 v2 : Value} {xs1 xs2 : List Value} (h : W.ownsRow b1 e1 s1 v1 n1 xs1) (h' : W.ownsRow b2 e2 s2 v2 n2 xs2) (hne : e1 ≠ e2) (k : Nat) (hk : v1.ownBlock = some k) : v2.ownBlock ≠ some k := by
  obtain ⟨_, ⟨rfl, _⟩ | ⟨g, cap, cur, rfl, hg, hh, _⟩⟩ := h
  · simp [Value.ownBlock] at hk
  · obtain rfl : g = k := by simpa [Value.ownBlock] using hk
    exact fun e => not_row7 hh (fun cs f e3 => hne (by injection e3)) h' g e rfl
theorem map_apart7 {P : Program} {k : TypeId} {w : World} {b c : Nat} {f : Int → Option Value} (h : MapAt P k w b c f) {base e size n : Nat} {v : Value} {xs : List Value} (hv : w.ownsRow base e size v n xs) : v.ownBlock ≠ some b := by
  obtain ⟨D, ⟨es, clock, hb, -⟩, -⟩ := h
  exact fun e => not_row7 hb (fun cs f e3 => by cases e3) hv b e rfl
/-- Blocks that have grown: the old ones and new ones. -/
def Gr7 (w : World) (A A' : Nat → Prop) : Prop := ∀ j, A' j → A j ∨ w.heap.size ≤ j
theorem Gr7.refl (w : World) (A : Nat → Prop) : Gr7 w A A := fun _ h => .inl h
theorem Gr7.trans {w w' : World} {A A' A'' : Nat → Prop} (h : Gr7 w A A') (k : Gr7 w' A' A'') (hs : w.heap.size ≤ w'.heap.size) : Gr7 w A A'' := fun j hj => by
  rcases k j hj with h1 | h1
  · exact h j h1
  · exact .inr (Nat.le_trans hs h1)
theorem Fr.thenG7 {w w' w'' : World} {A A' : Nat → Prop} (h : Fr A w w') (k : Fr A' w' w'') (g : Gr7 w A A') : Fr A w w'' := h.trans' k (fun i hi hs => by
  rcases g i hs with h1 | h1
  · exact h1
  · omega)
end Go.Proofs.YtpcikbloflpahaaDoor
namespace Go.Proofs.YtpcikbloflpahaaDoor
set_option linter.unusedVariables false
set_option linter.unusedSimpArgs false
open Go.RowKit Go.Shelf Go.Maps

/-- Bytes as they came: where, capacity, bytes. -/
abbrev Byt := Option Addr × Nat × List Int
def bytC (y : Byt) : Value := .slice y.1 y.2.2.length y.2.1
/-- A change as it came. -/
abbrev ChA := Int × Byt
def chaC (y : ChA) : List Value := [.int .i64 y.1, bytC y.2]
def chaOk (W : World) (y : ChA) : Prop := (-9223372036854775808 ≤ y.1 ∧ y.1 ≤ 9223372036854775807) ∧ Sl W (bytC y.2) y.2.2.2.length (bys y.2.2.2) ∧ y.2.2.2.length ≤ 140737488355328 ∧ ∀ b ∈ y.2.2.2, 0 ≤ b ∧ b < 256
def goodC (y : ChA) : Prop := 0 ≤ y.1 ∧ y.1 < 128 ∧ y.2.2.2.length = 64
/-- What was said last of a page. -/
def lastG {α : Type} (L : List (Int × α)) (p : Int) : Option α := L.foldl (fun o c => if c.1 = p then some c.2 else o) none
theorem lastG_snoc {α : Type} (L : List (Int × α)) (c : Int × α) (p : Int) : lastG (L ++ [c]) p = if c.1 = p then some c.2 else lastG L p := by simp [lastG]
theorem lastG_take {α : Type} {L : List (Int × α)} {j : Nat} (h : j < L.length) (p : Int) : lastG (L.take (j + 1)) p = if L[j].1 = p then some L[j].2 else lastG (L.take j) p := by
  rw [List.take_succ_eq_append_getElem h, lastG_snoc]
theorem lastG_mem {α : Type} {L : List (Int × α)} {p : Int} {y : α} (h : lastG L p = some y) : (p, y) ∈ L := by
  suffices ∀ n ≤ L.length, lastG (L.take n) p = some y → (p, y) ∈ L by
    have := this L.length (Nat.le_refl _)
    rw [List.take_length] at this
    exact this h
  intro n
  induction n with
  | zero => intro _ h; simp [lastG] at h
  | succ n ih =>
    intro hn h
    rw [lastG_take (by omega)] at h
    split at h
    · next e => injection h with h; rw [← h, ← e]; exact List.getElem_mem (by omega)
    · exact ih (by omega) h
def pagesG (L : List ChA) : Nat → List ChA
  | 0 => []
  | n + 1 => pagesG L n ++ (match lastG L n with | some b => [((n : Int), b)] | none => [])
theorem pagesG_len (L : List ChA) (n : Nat) : (pagesG L n).length ≤ n := by
  induction n with
  | zero => exact Nat.le_refl _
  | succ n ih => rw [pagesG, List.length_append]; split <;> simp <;> omega
theorem pagesG_none {L : List ChA} {n : Nat} (h : lastG L n = none) : pagesG L (n + 1) = pagesG L n := by rw [pagesG, h]; simp
theorem pagesG_some {L : List ChA} {n : Nat} {b : Byt} (h : lastG L n = some b) : pagesG L (n + 1) = pagesG L n ++ [((n : Int), b)] := by rw [pagesG, h]
/-- Changes as the call has made them: bytes of its own. -/
abbrev Chg := Int × List Int
def outG (L : List ChA) : List Chg := L.map fun y => (y.1, y.2.2.2)
theorem outG_len (L : List ChA) : (outG L).length = L.length := List.length_map ..
theorem outG_snoc (L : List ChA) (y : ChA) : outG (L ++ [y]) = outG L ++ [(y.1, y.2.2.2)] := by simp [outG]
def chgCells (vs : List (Int × Value)) : List Value := vs.flatMap fun p => [.int .i64 p.1, p.2]
theorem chgCells_snoc (vs : List (Int × Value)) (s : Int) (v : Value) : chgCells (vs ++ [(s, v)]) = chgCells vs ++ [.int .i64 s, v] := by simp [chgCells]
def ChV (n0 : Nat) (cs : List Chg) (vs : List (Int × Value)) (W : World) : Prop :=
  cs.length = vs.length ∧ ∀ i (h1 : i < cs.length) (h2 : i < vs.length), vs[i].1 = cs[i].1 ∧ W.ownsRow n0 5 1 vs[i].2 cs[i].2.length (bys cs[i].2)
theorem ChV.nil (n0 : Nat) (W : World) : ChV n0 [] [] W := ⟨rfl, fun i h => absurd h (Nat.not_lt_zero i)⟩
theorem ChV.imp {n0 : Nat} {cs : List Chg} {vs : List (Int × Value)} {W W' : World} (h : ChV n0 cs vs W) (hi : ∀ n v xs, W.ownsRow n0 5 1 v n xs → W'.ownsRow n0 5 1 v n xs) : ChV n0 cs vs W' :=
  ⟨h.1, fun i h1 h2 => ⟨(h.2 i h1 h2).1, hi _ _ _ (h.2 i h1 h2).2⟩⟩
theorem ChV.fr0 {n0 : Nat} {cs : List Chg} {vs : List (Int × Value)} {W W' : World} (h : ChV n0 cs vs W) (hF : Fr No W W') : ChV n0 cs vs W' := h.imp (fun n v xs hv => ownsRow_fr7 hv hF (fun _ _ h => h))
theorem ChV.snoc {n0 : Nat} {cs : List Chg} {vs : List (Int × Value)} {W : World} (h : ChV n0 cs vs W) {x : Chg} {v : Value} (hv : W.ownsRow n0 5 1 v x.2.length (bys x.2)) : ChV n0 (cs ++ [x]) (vs ++ [(x.1, v)]) W := by
  refine ⟨by rw [List.length_append, List.length_append, h.1]; rfl, fun i h1 h2 => ?_⟩
  have hl := h.1
  by_cases hi : i < cs.length
  · rw [List.getElem_append_left hi, List.getElem_append_left (by omega)]
    exact h.2 i hi (by omega)
  · have e : i = cs.length := by simp at h1; omega
    subst e
    rw [List.getElem_append_right (Nat.le_refl _), List.getElem_append_right (by omega)]
    simp only [Nat.sub_self, List.getElem_cons_zero, hl]
    exact ⟨trivial, hv⟩
theorem el_chg : Elem Tryd.prog 22 32 (.agg #[.int .i64 0, .slice none 0 0]) 2 32 := ⟨by kernel_rfl, by kernel_rfl, rfl, by decide⟩
theorem flat_get7 {α : Type} (cells : α → List Value) (sz : Nat) (hcl : ∀ y, (cells y).length = sz) (L : List α) (k i : Nat) (hk : k < L.length) (hi : i < sz) : (L.flatMap cells)[k * sz + i]? = (cells L[k])[i]? := by
  induction L generalizing k with
  | nil => simp at hk
  | cons y L ih =>
    rw [List.flatMap_cons]
    cases k with
    | zero => rw [List.getElem?_append_left (by rw [hcl]; omega)]; simp
    | succ k =>
      rw [List.getElem?_append_right (by rw [hcl, Nat.succ_mul]; omega), hcl, show (k + 1) * sz + i - sz = k * sz + i by rw [Nat.succ_mul]; omega, ih k (by simpa using hk)]
      rfl

def pathF (p : Int) : Int × Int × Int := if 0 ≤ p ∧ p < 128 then (p / 32, p % 32, 0) else (0, 0, 1)
set_option maxRecDepth 100000 in
theorem path_calls (p : Int) (w : World) : Calls Tryd.prog 33 #[.int .i64 p] w fun e w' => e = .returned (.tuple #[.int .i64 (pathF p).1, .int .i64 (pathF p).2.1, .int .i64 (pathF p).2.2]) ∧ w = w' := by
  by_cases h : 0 ≤ p ∧ p < 128
  · have hr : pathF p = (p / 32, p % 32, 0) := if_pos h
    rw [hr]
    have d1 : decide (p < 0) = false := decide_eq_false (by omega)
    have d2 : decide (128 ≤ p) = false := decide_eq_false (by omega)
    have e1 : Int.tdiv p 32 = p / 32 := Int.tdiv_eq_ediv_of_nonneg h.1
    have e2 : Int.tmod p 32 = p % 32 := Int.tmod_eq_emod_of_nonneg h.1
    have W1 : RowKit.Hid (wrap64 (p / 32) = p / 32) := Lib.hid (by unfold wrap64; omega)
    clear h hr
    go_enter Tryd.func33, Tryd.ntmps33
    go_wp2
    go_ret3
    exact ⟨by show Ending.returned (.tuple #[.int .i64 (wrap64 (p / 32)), .int .i64 (p % 32), .int .i64 0]) = _; rw [W1.out], rfl⟩
  · have hr : pathF p = (0, 0, 1) := if_neg h
    rw [hr]
    have hd : decide (p < 0) = true ∨ (decide (p < 0) = false ∧ decide (128 ≤ p) = true) := by
      by_cases h0 : p < 0
      · exact .inl (decide_eq_true h0)
      · exact .inr ⟨decide_eq_false h0, decide_eq_true (by omega)⟩
    clear h hr
    rcases hd with d1 | ⟨d1, d2⟩
    all_goals
      go_enter Tryd.func33, Tryd.ntmps33
      go_wp2
      go_ret3
      exact ⟨rfl, rfl⟩

/-- What Merge hands back. -/
def MergeP (w : World) (L : List ChA) (e : Ending) (w' : World) : Prop :=
  ((∀ y ∈ L, goodC y) ∧ ∃ r vs, e = .returned (.tuple #[r, .int .i64 0]) ∧ Fr No w w' ∧ w'.ownsRow w.heap.size 32 2 r (pagesG L 128).length (chgCells vs) ∧ ChV w.heap.size (outG (pagesG L 128)) vs w') ∨
  ((∃ y ∈ L, ¬ goodC y) ∧ e = .returned (.tuple #[.slice none 0 0, .int .i64 1]) ∧ Fr No w w')

set_option maxHeartbeats 8000000 in
set_option maxRecDepth 1000000 in
theorem merge_calls (v : Value) (L : List ChA) (w : World) (hv : Sl w v L.length (L.flatMap chaC)) (hok : ∀ y ∈ L, chaOk w y) (hlen : L.length ≤ 140737488355328) :
    Calls Tryd.prog 10 #[v] w (MergeP w L) := by
  obtain ⟨av, cv, rfl⟩ := hv.form
  have hmm : ∀ w : World, (Instr.makeMap 77 none).run Tryd.prog w = .ok (.map (some w.heap.size)) (w.alloc (.map #[] 0)) := fun _ => rfl
  have hz : ∀ w : World, (zeroValue 30).run Tryd.prog w = .ok (.slice none 0 0) w := fun _ => by kernel_rfl
  have HV := Lib.hid hv
  have HOK := Lib.hid hok
  have HLEN := Lib.hid hlen
  clear hv hok
  go_enter Tryd.func10, Tryd.ntmps10
  go_wp2_with fail
  go_loopw [17] (fun i wr => ∃ (j c : Nat), j ≤ L.length ∧ c ≤ j ∧ i = .int .i64 j ∧ (∀ y ∈ L.take j, goodC y) ∧ MapAt Tryd.prog 3 wr w.heap.size c (fun p => (lastG (L.take j) p).map bytC) ∧ Fr No w wr) (fun i _ => L.length - (intOf i).toNat)
  case atStart => exact ⟨0, 0, Nat.zero_le _, Nat.le_refl _, rfl, by simp, MapAt.made _ _ _, (Fr.refl _ _).alloc _⟩
  case round =>
    obtain ⟨j, c, hj, hcj, rfl, hgd, hmap, hF⟩ := hrel
    by_cases hlt : j < L.length
    · have g0 := flat_get7 chaC 2 (fun _ => rfl) L j 0 hlt (by omega)
      have g1 := flat_get7 chaC 2 (fun _ => rfl) L j 1 hlt (by omega)
      have hyk := HOK.out _ (List.getElem_mem hlt)
      have htk := fun p => lastG_take (L := L) hlt p
      have hgt : ∀ y ∈ L.take (j + 1), y ∈ L.take j ∨ y = L[j] := fun y hy => by
        rw [List.take_succ_eq_append_getElem hlt, List.mem_append, List.mem_singleton] at hy; exact hy
      have hmem : L[j] ∈ L := List.getElem_mem hlt
      revert g0 g1 hyk htk hgt hmem
      generalize L[j] = y
      obtain ⟨pg, ad, cp, bs⟩ := y
      intro g0 g1 hyk htk hgt hmem
      simp only [chaC, bytC, List.getElem?_cons_zero, List.getElem?_cons_succ] at g0 g1
      obtain ⟨hpr, hsl, hbl, hbr⟩ := hyk
      dsimp only [bytC] at hpr hsl hbl hbr
      obtain ⟨b, off, rfl, hb, hc⟩ := HV.out.at (by intro e; rw [e] at g0; simp at g0)
      have c0 := hF.cell (hc _ _ g0) (fun h => h)
      have c1 := hF.cell (hc _ _ g1) (fun h => h)
      simp only [← Nat.add_assoc, Nat.add_zero] at c0 c1
      have HP := Lib.hid (path_calls pg)
      have HF := Lib.hid hF
      have HM := Lib.hid hmap
      have HGD := Lib.hid hgd
      have HGT := Lib.hid hgt
      have HTK := Lib.hid htk
      have HMEM := Lib.hid hmem
      clear g0 g1 hc hF hmap hgd hgt htk hmem hsl hbr
      by_cases hp : 0 ≤ pg ∧ pg < 128
      · have hpf : pathF pg = (pg / 32, pg % 32, 0) := if_pos hp
        rw [hpf] at HP
        dsimp only at HP
        by_cases hl : bs.length = 64
        · have q1 : ((bs.length : Int) != 64) = false := by simp; omega
          have HGJ := Lib.hid (show goodC (pg, ad, cp, bs) from ⟨hp.1, hp.2, hl⟩)
          clear hpf hp hl
          go_wp2_with fail
          refine (HP.out _).mono ?_
          rintro e w2 ⟨rfl, rfl⟩
          have HMA := Lib.hid (HM.out.fr ((Fr.refl No _).alloc (Obj.cells #[.int .i64 pg, .slice ad bs.length cp] 32)) (fun h => h))
          go_wp2_with (first | (at_mapUpdate; (refine map_put rfl (.tmp 36) (.tmp 38) (.tmp 40) 77 rfl rfl HMA.out Tryd.underlying3 Tryd.underlying77 (by unfold maxLen; have := HLEN.out; omega) pg hpr (.slice ad bs.length cp) rfl rfl ?_; intro w4 hmap4 hF4)) | fail "arm")
          have HF4 := Lib.hid (show Fr No w w4 from (HF.out.alloc (Obj.cells #[.int .i64 pg, .slice ad bs.length cp] 32)).trans' hF4 (fun i hi e => by omega))
          have HM4 := Lib.hid hmap4
          clear hmap4 hF4
          go_wp2_with fail
          go_roundw
          case rel =>
            refine ⟨j + 1, if ((fun p => (lastG (L.take j) p).map bytC) pg).isSome then c else c + 1, by omega, ?_, by go_num, fun y hy => ?_, ?_, HF4.out⟩
            rotate_left 2
            · have h4 := HM4.out
              have : upd (fun p => (lastG (L.take j) p).map bytC) pg (some (.slice ad bs.length cp)) = fun p => (lastG (L.take (j + 1)) p).map bytC := by
                funext p
                rw [HTK.out p]
                by_cases e : p = pg
                · subst e; rw [upd_same, if_pos rfl]; rfl
                · rw [upd_ne _ _ e, if_neg (fun h => e h.symm)]
              rw [this] at h4
              exact h4
            · split <;> omega
            · rcases HGT.out y hy with h | rfl
              · exact HGD.out y h
              · exact HGJ.out
          case measure => simp [intOf]; omega
        · have q1 : ((bs.length : Int) != 64) = true := by simp; omega
          have HBAD := Lib.hid (show ∃ y ∈ L, ¬ goodC y from ⟨_, HMEM.out, fun h => hl h.2.2⟩)
          clear hpf hp hl
          go_wp2_with fail
          refine (HP.out _).mono ?_
          rintro e w2 ⟨rfl, rfl⟩
          go_wp2
          go_ret2
          exact .inr ⟨HBAD.out, rfl, HF.out.alloc _⟩
      · have hpf : pathF pg = (0, 0, 1) := if_neg hp
        rw [hpf] at HP
        dsimp only at HP
        have HBAD := Lib.hid (show ∃ y ∈ L, ¬ goodC y from ⟨_, HMEM.out, fun h => hp ⟨h.1, h.2.1⟩⟩)
        clear hpf hp
        go_wp2_with fail
        refine (HP.out _).mono ?_
        rintro e w2 ⟨rfl, rfl⟩
        go_wp2
        go_ret2
        exact .inr ⟨HBAD.out, rfl, HF.out.alloc _⟩
    · obtain rfl : j = L.length := by omega
      rw [List.take_length] at hgd hmap
      have HGD := Lib.hid hgd
      have HM := Lib.hid hmap
      have HF := Lib.hid hF
      clear hgd hmap hF hlt
      go_wp2_with fail
      go_loopw [10, 42] (fun ov i wx => ∃ (n : Nat) (vs : List (Int × Value)), n ≤ 128 ∧ i = .int .i64 n ∧ MapAt Tryd.prog 3 wx w.heap.size c (fun p => (lastG L p).map bytC) ∧ Fr No w wx ∧ wx.ownsRow w.heap.size 32 2 ov (pagesG L n).length (chgCells vs) ∧ ChV w.heap.size (outG (pagesG L n)) vs wx) (fun _ i _ => 128 - (intOf i).toNat)
      case atStart => exact ⟨0, [], Nat.zero_le _, rfl, HM.out, HF.out, World.ownsRow_nil _ _ _ _, ChV.nil _ _⟩
      case round =>
        obtain ⟨n, vs, hn, rfl, hmp, hF, hown, hvs⟩ := hrel
        obtain ⟨ao, co, rfl⟩ := (Sl.of_owns hown).form
        have hlk := (hmp.look Tryd.underlying3 Tryd.underlying77 (hz _) (n : Int) (by omega)).1
        have HMP := Lib.hid hmp
        have HF2 := Lib.hid hF
        have HOW := Lib.hid hown
        have HVS := Lib.hid hvs
        have hpl := pagesG_len L n
        clear hmp hF hown hvs
        by_cases hlt : n < 128
        · have hd : decide ((n : Int) < 128) = true := decide_eq_true (by omega)
          cases hl : lastG L n with
          | none =>
            rw [hl] at hlk
            have HE := Lib.hid (pagesG_none hl)
            clear hl
            simp only [Option.map_none, Option.getD_none, Option.isSome_none] at hlk
            go_wp2_with fail
            go_roundw
            case rel => exact ⟨n + 1, vs, by omega, by go_num, HMP.out, HF2.out, by rw [HE.out]; exact HOW.out, by rw [HE.out]; exact HVS.out⟩
            case measure => simp [intOf]; omega
          | some y =>
            rw [hl] at hlk
            have HE := Lib.hid (pagesG_some hl)
            have hy := HOK.out _ (lastG_mem hl)
            have hgy := HGD.out _ (lastG_mem hl)
            clear hl
            obtain ⟨ad, cp, bs⟩ := y
            simp only [Option.map_some, Option.getD_some, Option.isSome_some, bytC] at hlk
            obtain ⟨-, hsl, -, -⟩ := hy
            have HB64 : RowKit.Hid (bs.length = 64) := Lib.hid hgy.2.2
            dsimp only [bytC] at hsl
            have HSL := Lib.hid (hsl.fr0 HF2.out)
            have HFS := Lib.hid HF2.out.size
            generalize hpg : (pagesG L n).length = pl at *
            have HPG := Lib.hid hpg
            clear hsl hgy hpg
            go_wp2_with (first
              | (at_builtin; (refine append_at7 el_u8 rfl _ (.tmp 54) rfl w.heap.size (.slice none 0 0) 0 [] rfl (World.ownsRow_nil _ _ _ _) rfl HSL.out (by simp [bys]) (bys_one _) (by unfold maxLen; have := HB64.out; omega) (by have := HB64.out; omega) HFS.out ?_; intro a3 n3 c3 w3 hown3 hgrow3 hlie3; rw [Nat.zero_add, List.nil_append] at hown3))
              | (at_builtin; (refine append_at7 (m := 1) el_chg rfl (.tmp 52) (.tmp 57) rfl w.heap.size (.slice ao pl co) pl (chgCells vs) rfl ((ownsRow_fr7 HOW.out (fr_grown7 hgrow3) (fun k _ e => by cases e)).alloc _) rfl (sl_new7 w3 [.int .i64 (n : Int), .slice a3 n3 c3] _ 1 (by simp) (by omega)) rfl (fun u hu => by simp at hu; rcases hu with rfl | rfl <;> rfl) (by unfold maxLen; omega) (by omega) (Nat.le_trans HFS.out (Nat.le_trans (fr_grown7 hgrow3).size ((Fr.refl No _).alloc _).size)) ?_; intro a5 n5 c5 w5 hown5 hgrow5 hlie5))
              | fail "arm")
            have hF3 : Fr No wr w3 := (Fr.refl No wr).trans' (fr_grown7 hgrow3) (fun i hi e => by cases e)
            have hFa := hF3.alloc (Obj.cells #[.int .i64 (n : Int), .slice a3 n3 c3] 32)
            have hO3 := HOW.out
            have hF5 : Fr (fun k => (Value.slice ao pl co).ownBlock = some k) wr w5 := hFa.no.trans (fr_grown7 hgrow5)
            have HF5 := Lib.hid (show Fr No w w5 from HF2.out.trans' hF5 (fun i hi e => by have := (hO3.lt i e).1; omega))
            have hap : ∀ {m : Nat} {v : Value} {xs : List Value}, (w3.alloc (Obj.cells #[.int .i64 (n : Int), .slice a3 n3 c3] 32)).ownsRow w.heap.size 5 1 v m xs → w5.ownsRow w.heap.size 5 1 v m xs := fun hv =>
              ownsRow_fr7 hv (fr_grown7 hgrow5) (fun q e e' => rows_apart7 ((ownsRow_fr7 hO3 hF3 (fun _ _ h => h)).alloc _) hv (by decide) q e' e)
            have HVS5 := Lib.hid ((HVS.out.fr0 hFa).imp (fun _ _ _ hv => hap hv))
            have HB5 := Lib.hid (hap (hown3.alloc (Obj.cells #[.int .i64 (n : Int), .slice a3 n3 c3] 32)))
            have HM5 := Lib.hid (HMP.out.fr hF5 (fun e => map_apart7 HMP.out hO3 e))
            have HO5 := Lib.hid hown5
            clear hF3 hFa hO3 hF5 hap hown3 hgrow3 hlie3 hown5 hgrow5 hlie5
            go_wp2_with fail
            go_roundw
            case rel =>
              refine ⟨n + 1, vs ++ [((n : Int), .slice a3 n3 c3)], by omega, by go_num, HM5.out, HF5.out, ?_, ?_⟩
              · rw [HE.out, List.length_append, HPG.out, chgCells_snoc]; exact HO5.out
              · rw [HE.out, outG_snoc]; exact HVS5.out.snoc HB5.out
            case measure => simp [intOf]; omega
        · obtain rfl : n = 128 := by omega
          have hd : decide (((128 : Nat) : Int) < 128) = false := by decide
          go_wp2
          go_ret2
          exact .inl ⟨HGD.out, _, vs, rfl, HF2.out, HOW.out, HVS.out⟩
end Go.Proofs.YtpcikbloflpahaaDoor
namespace Go.Proofs.YtpcikbloflpahaaDoor
set_option linter.unusedVariables false
set_option linter.unusedSimpArgs false
open Go.RowKit Go.Shelf Go.Maps

theorem foldl_last {α : Type} (p : Int) (B : List (Int × α)) : ∀ o : Option α, B.foldl (fun o c => if c.1 = p then some c.2 else o) o = ((lastG B p).or o) := by
  unfold lastG
  induction B with
  | nil => intro o; rfl
  | cons c B ih =>
    intro o
    rw [List.foldl_cons, List.foldl_cons, ih, ih (if c.1 = p then some c.2 else none)]
    split
    · cases (List.foldl (fun o c => if c.1 = p then some c.2 else o) none B) <;> rfl
    · cases (List.foldl (fun o c => if c.1 = p then some c.2 else o) none B) <;> rfl
theorem lastG_app {α : Type} (A B : List (Int × α)) (p : Int) : lastG (A ++ B) p = (lastG B p).or (lastG A p) := by
  conv => lhs; unfold lastG
  rw [List.foldl_append, foldl_last]; rfl
theorem last_drop {α : Type} {L : List (Int × α)} {m : Nat} (h : m < L.length) {p : Int} (hd : lastG (L.drop (m + 1)) p = none) : (L[m].1 = p → lastG L p = some L[m].2) ∧ (L[m].1 ≠ p → lastG (L.drop m) p = none) := by
  constructor
  · intro e
    conv => lhs; rw [← List.take_append_drop (m + 1) L]
    rw [lastG_app, hd, lastG_take h, if_pos e]; rfl
  · intro e
    rw [List.drop_eq_getElem_cons h]
    have := lastG_app [L[m]] (L.drop (m + 1)) p
    rw [List.singleton_append, hd] at this
    rw [this]
    show lastG [L[m]] p = none
    simp [lastG, e]

set_option maxHeartbeats 8000000 in
set_option maxRecDepth 1000000 in
theorem rmerge_calls (v : Value) (L : List ChA) (w : World) (hv : Sl w v L.length (L.flatMap chaC)) (hok : ∀ y ∈ L, chaOk w y) (hlen : L.length ≤ 140737488355328) :
    Calls Tryd.prog 11 #[v] w (MergeP w L) := by
  obtain ⟨av, cv, rfl⟩ := hv.form
  have HV := Lib.hid hv
  have HOK := Lib.hid hok
  clear hv hok
  go_enter Tryd.func11, Tryd.ntmps11
  go_wp2_with fail
  go_loopw [11] (fun i wr => ∃ (j : Nat), j ≤ L.length ∧ i = .int .i64 j ∧ (∀ y ∈ L.take j, goodC y) ∧ Fr No w wr) (fun i _ => L.length - (intOf i).toNat)
  case atStart => exact ⟨0, Nat.zero_le _, rfl, by simp, Fr.refl _ _⟩
  case round =>
    obtain ⟨j, hj, rfl, hgd, hF⟩ := hrel
    by_cases hlt : j < L.length
    · have g0 := flat_get7 chaC 2 (fun _ => rfl) L j 0 hlt (by omega)
      have g1 := flat_get7 chaC 2 (fun _ => rfl) L j 1 hlt (by omega)
      have hgt : ∀ y ∈ L.take (j + 1), y ∈ L.take j ∨ y = L[j] := fun y hy => by
        rw [List.take_succ_eq_append_getElem hlt, List.mem_append, List.mem_singleton] at hy; exact hy
      have hmem : L[j] ∈ L := List.getElem_mem hlt
      revert g0 g1 hgt hmem
      generalize L[j] = y
      obtain ⟨pg, ad, cp, bs⟩ := y
      intro g0 g1 hgt hmem
      simp only [chaC, bytC, List.getElem?_cons_zero, List.getElem?_cons_succ] at g0 g1
      obtain ⟨b, off, rfl, hb, hc⟩ := HV.out.at (by intro e; rw [e] at g0; simp at g0)
      have c0 := hF.cell (hc _ _ g0) (fun h => h)
      have c1 := hF.cell (hc _ _ g1) (fun h => h)
      simp only [← Nat.add_assoc, Nat.add_zero] at c0 c1
      have HF := Lib.hid hF
      have HGD := Lib.hid hgd
      have HGT := Lib.hid hgt
      have HMEM := Lib.hid hmem
      clear g0 g1 hc hF hgd hgt hmem
      have hcase : (decide (pg < 0) = true ∧ ¬ goodC (pg, ad, cp, bs)) ∨ (decide (pg < 0) = false ∧ decide (128 ≤ pg) = true ∧ ¬ goodC (pg, ad, cp, bs)) ∨ (decide (pg < 0) = false ∧ decide (128 ≤ pg) = false ∧ ((bs.length : Int) != 64) = true ∧ ¬ goodC (pg, ad, cp, bs)) ∨
          (decide (pg < 0) = false ∧ decide (128 ≤ pg) = false ∧ ((bs.length : Int) != 64) = false ∧ goodC (pg, ad, cp, bs)) := by
        unfold goodC
        dsimp only
        by_cases h1 : pg < 0
        · exact .inl ⟨decide_eq_true h1, by omega⟩
        · by_cases h2 : 128 ≤ pg
          · exact .inr (.inl ⟨decide_eq_false h1, decide_eq_true h2, by omega⟩)
          · by_cases h3 : bs.length = 64
            · exact .inr (.inr (.inr ⟨decide_eq_false h1, decide_eq_false h2, by simp; omega, by omega⟩))
            · exact .inr (.inr (.inl ⟨decide_eq_false h1, decide_eq_false h2, by simp; omega, by omega⟩))
      rcases hcase with ⟨d1, hg⟩ | ⟨d1, d2, hg⟩ | ⟨d1, d2, d3, hg⟩ | ⟨d1, d2, d3, hg⟩
      · have HB := Lib.hid hg
        clear hg
        go_wp2
        go_ret2
        exact .inr ⟨⟨_, HMEM.out, HB.out⟩, rfl, HF.out.alloc _⟩
      · have HB := Lib.hid hg
        clear hg
        go_wp2
        go_ret2
        exact .inr ⟨⟨_, HMEM.out, HB.out⟩, rfl, HF.out.alloc _⟩
      · have HB := Lib.hid hg
        clear hg
        go_wp2
        go_ret2
        exact .inr ⟨⟨_, HMEM.out, HB.out⟩, rfl, HF.out.alloc _⟩
      · have HB := Lib.hid hg
        clear hg
        go_wp2
        go_roundw
        case rel =>
          refine ⟨j + 1, by omega, by go_num, fun y hy => ?_, HF.out.alloc _⟩
          rcases HGT.out y hy with h | rfl
          · exact HGD.out y h
          · exact HB.out
        case measure => simp [intOf]; omega
    · obtain rfl : j = L.length := by omega
      rw [List.take_length] at hgd
      have HGD := Lib.hid hgd
      have HF := Lib.hid hF
      clear hgd hF hlt
      go_wp2_with fail
      go_loopw [6, 7] (fun ov i wx => ∃ (n : Nat) (vs : List (Int × Value)), n ≤ 128 ∧ i = .int .i64 n ∧ Fr No w wx ∧ wx.ownsRow w.heap.size 32 2 ov (pagesG L n).length (chgCells vs) ∧ ChV w.heap.size (outG (pagesG L n)) vs wx) (fun _ i _ => 128 - (intOf i).toNat)
      case atStart => exact ⟨0, [], Nat.zero_le _, rfl, HF.out, World.ownsRow_nil _ _ _ _, ChV.nil _ _⟩
      case round =>
        obtain ⟨n, vs, hn, rfl, hF, hown, hvs⟩ := hrel
        obtain ⟨ao, co, rfl⟩ := (Sl.of_owns hown).form
        have HF2 := Lib.hid hF
        have HOW := Lib.hid hown
        have HVS := Lib.hid hvs
        have hpl := pagesG_len L n
        clear hF hown hvs
        by_cases hlt : n < 128
        · have hd : decide ((n : Int) < 128) = true := decide_eq_true (by omega)
          have hww : IntKind.i64.wrap ((L.length : Int) - 1) = (L.length : Int) - 1 := IntWalk.i64_in _ (by omega)
          generalize hpg : (pagesG L n).length = pl at *
          have HPG := Lib.hid hpg
          clear hpg
          go_wp2_with fail
          go_loopw [6, 8] (fun ov iv wy => ∃ (m : Nat), m ≤ L.length ∧ ov = .slice ao pl co ∧ iv = .int .i64 ((m : Int) - 1) ∧ lastG (L.drop m) n = none ∧ wy = wr) (fun _ iv _ => (intOf iv + 1).toNat)
          case atStart => exact ⟨L.length, Nat.le_refl _, rfl, rfl, by rw [List.drop_length]; rfl, rfl⟩
          case round =>
            obtain ⟨m, hm, rfl, rfl, hdr, rfl⟩ := hrel
            by_cases h0 : m = 0
            · subst h0
              rw [List.drop_zero] at hdr
              have HE := Lib.hid (pagesG_none hdr)
              have hd0 : decide ((0 : Int) ≤ ((0 : Nat) : Int) - 1) = false := by decide
              clear hdr
              go_wp2_with fail
              go_roundw
              case rel => exact ⟨n + 1, vs, by omega, by go_num, HF2.out, by rw [HE.out, HPG.out]; exact HOW.out, by rw [HE.out]; exact HVS.out⟩
              case measure => simp [intOf]; omega
            · obtain ⟨q, rfl⟩ : ∃ q, m = q + 1 := ⟨m - 1, by omega⟩
              have hqe : (((q + 1 : Nat) : Int) - 1) = (q : Int) := by omega
              rw [hqe]
              have hq0 : decide ((0 : Int) ≤ (q : Int)) = true := decide_eq_true (by omega)
              have hql : q < L.length := by omega
              have g0 := flat_get7 chaC 2 (fun _ => rfl) L q 0 hql (by omega)
              have g1 := flat_get7 chaC 2 (fun _ => rfl) L q 1 hql (by omega)
              have hld := last_drop hql hdr
              have hy := HOK.out _ (List.getElem_mem hql)
              have hgy := HGD.out _ (List.getElem_mem hql)
              revert g0 g1 hld hy hgy
              generalize L[q] = y
              obtain ⟨pg, ad, cp, bs⟩ := y
              intro g0 g1 hld hy hgy
              simp only [chaC, bytC, List.getElem?_cons_zero, List.getElem?_cons_succ] at g0 g1
              obtain ⟨b, off, rfl, hb, hc⟩ := HV.out.at (by intro e; rw [e] at g0; simp at g0)
              have c0 := HF2.out.cell (hc _ _ g0) (fun h => h)
              have c1 := HF2.out.cell (hc _ _ g1) (fun h => h)
              simp only [← Nat.add_assoc, Nat.add_zero] at c0 c1
              obtain ⟨-, hsl, -, -⟩ := hy
              have HB64 : RowKit.Hid (bs.length = 64) := Lib.hid hgy.2.2
              dsimp only [bytC] at hsl hld
              have HSL := Lib.hid (hsl.fr0 HF2.out)
              have HFS := Lib.hid HF2.out.size
              have HLD := Lib.hid hld
              clear g0 g1 hc hsl hgy hld hdr
              by_cases hp : pg = n
              · have q1 : (pg == (n : Int)) = true := by simp [hp]
                have HE := Lib.hid (pagesG_some (HLD.out.1 hp))
                clear hp
                go_wp2_with (first
                  | (at_builtin; (refine append_at7 el_u8 rfl _ (.tmp 54) rfl w.heap.size (.slice none 0 0) 0 [] rfl (World.ownsRow_nil _ _ _ _) rfl HSL.out (by simp [bys]) (bys_one _) (by unfold maxLen; have := HB64.out; omega) (by have := HB64.out; omega) HFS.out ?_; intro a3 n3 c3 w3 hown3 hgrow3 hlie3; rw [Nat.zero_add, List.nil_append] at hown3))
                  | (at_builtin; (refine append_at7 (m := 1) el_chg rfl (.tmp 48) (.tmp 57) rfl w.heap.size (.slice ao pl co) pl (chgCells vs) rfl ((ownsRow_fr7 HOW.out (fr_grown7 hgrow3) (fun k _ e => by cases e)).alloc _) rfl (sl_new7 w3 [.int .i64 (n : Int), .slice a3 n3 c3] _ 1 (by simp) (by omega)) rfl (fun u hu => by simp at hu; rcases hu with rfl | rfl <;> rfl) (by unfold maxLen; omega) (by omega) (Nat.le_trans HFS.out (Nat.le_trans (fr_grown7 hgrow3).size ((Fr.refl No _).alloc _).size)) ?_; intro a5 n5 c5 w5 hown5 hgrow5 hlie5))
                  | fail "arm")
                have hF3 : Fr No wr w3 := (Fr.refl No wr).trans' (fr_grown7 hgrow3) (fun i hi e => by cases e)
                have hFa := hF3.alloc (Obj.cells #[.int .i64 (n : Int), .slice a3 n3 c3] 32)
                have hO3 := HOW.out
                have hF5 : Fr (fun k => (Value.slice ao pl co).ownBlock = some k) wr w5 := hFa.no.trans (fr_grown7 hgrow5)
                have HF5 := Lib.hid (show Fr No w w5 from HF2.out.trans' hF5 (fun i hi e => by have := (hO3.lt i e).1; omega))
                have hap : ∀ {m : Nat} {v : Value} {xs : List Value}, (w3.alloc (Obj.cells #[.int .i64 (n : Int), .slice a3 n3 c3] 32)).ownsRow w.heap.size 5 1 v m xs → w5.ownsRow w.heap.size 5 1 v m xs := fun hv =>
                  ownsRow_fr7 hv (fr_grown7 hgrow5) (fun q e e' => rows_apart7 ((ownsRow_fr7 hO3 hF3 (fun _ _ h => h)).alloc _) hv (by decide) q e' e)
                have HVS5 := Lib.hid ((HVS.out.fr0 hFa).imp (fun _ _ _ hv => hap hv))
                have HB5 := Lib.hid (hap (hown3.alloc (Obj.cells #[.int .i64 (n : Int), .slice a3 n3 c3] 32)))
                have HO5 := Lib.hid hown5
                clear hF3 hFa hO3 hF5 hap hown3 hgrow3 hlie3 hown5 hgrow5 hlie5
                go_wp2_with fail
                go_roundw
                case rel =>
                  refine ⟨n + 1, vs ++ [((n : Int), .slice a3 n3 c3)], by omega, by go_num, HF5.out, ?_, ?_⟩
                  · rw [HE.out, List.length_append, HPG.out, chgCells_snoc]; exact HO5.out
                  · rw [HE.out, outG_snoc]; exact HVS5.out.snoc HB5.out
                case measure => simp [intOf]; omega
              · have q1 : (pg == (n : Int)) = false := by simp [hp]
                have HDR := Lib.hid (HLD.out.2 hp)
                have hwq : IntKind.i64.wrap ((q : Int) - 1) = (q : Int) - 1 := IntWalk.i64_in _ (by omega)
                clear hp
                go_wp2_with fail
                go_roundw
                case rel => exact ⟨q, by omega, rfl, rfl, HDR.out, by first | rfl | trivial⟩
                case measure => first | (simp [intOf]; done) | (simp [intOf]; omega)
        · obtain rfl : n = 128 := by omega
          have hd : decide (((128 : Nat) : Int) < 128) = false := by decide
          go_wp2
          go_ret2
          exact .inl ⟨HGD.out, _, vs, rfl, HF2.out, HOW.out, HVS.out⟩

set_option maxHeartbeats 400000 in
set_option maxRecDepth 1000000 in
theorem few07_calls (u v : Value) (l : List Int) (L : List ChA) (w : World) (hlen : L.length ≤ 140737488355328) (hu : Sl w u l.length (bys l)) (hv : Sl w v L.length (L.flatMap chaC)) :
    Calls Tryd.prog 9 #[u, v] w fun e w' => ∃ b, e = .returned (.bool b) ∧ Fr No w w' := by
  obtain ⟨av, cap, rfl⟩ := hv.form
  obtain ⟨bu, capu, rfl⟩ := hu.form
  clear hu
  go_enter Tryd.func9, Tryd.ntmps9
  go_wp2
  go_loopw [5, 12] (fun s i wr => ∃ (j : Nat) (x : Int), j ≤ L.length ∧ i = .int .i64 j ∧ s = .int .i64 x ∧ Fr No w wr) (fun _ i _ => L.length - (intOf i).toNat)
  case atStart => exact ⟨0, l.length, Nat.zero_le _, rfl, rfl, Fr.refl _ _⟩
  case round =>
    obtain ⟨j, x, hj, rfl, rfl, hF⟩ := hrel
    by_cases hlt : j < L.length
    · have g0 := flat_get7 chaC 2 (fun _ => rfl) L j 0 hlt (by omega)
      have g1 := flat_get7 chaC 2 (fun _ => rfl) L j 1 hlt (by omega)
      revert g0 g1
      generalize L[j] = y
      obtain ⟨pg, ad, cp, bs⟩ := y
      intro g0 g1
      simp only [chaC, bytC, List.getElem?_cons_zero, List.getElem?_cons_succ] at g0 g1
      obtain ⟨b, off, rfl, hb, hc⟩ := hv.at (by intro e; rw [e] at g0; simp at g0)
      have c0 := hF.cell (hc _ _ g0) (fun h => h)
      have c1 := hF.cell (hc _ _ g1) (fun h => h)
      simp only [← Nat.add_assoc, Nat.add_zero] at c0 c1
      have HF := Lib.hid hF
      clear hc hv g0 g1 hF
      go_wp2
      all_goals exact ⟨⟨j + 1, _, by omega, by go_num, rfl, HF.out.alloc _⟩, by simp [intOf]; omega⟩
    · have HF := Lib.hid hF
      clear hF hv
      go_wp2
      go_ret
      exact ⟨_, rfl, HF.out⟩
end Go.Proofs.YtpcikbloflpahaaDoor
namespace Go.Proofs.YtpcikbloflpahaaDoor
set_option linter.unusedVariables false
set_option linter.unusedSimpArgs false
open Go.RowKit Go.Shelf Go.Maps

def nds (l : List Int) : List Value := l.map fun x => .int .i64 x
theorem nds_len (l : List Int) : (nds l).length = l.length := List.length_map ..
theorem nds_one (l : List Int) : ∀ u ∈ nds l, u.oneCell' = true := by
  intro u hu; simp only [nds, List.mem_map] at hu; obtain ⟨x, _, rfl⟩ := hu; rfl
theorem nds_set (l : List Int) (i : Nat) (x : Int) : (nds l).set i (.int .i64 x) = nds (l.set i x) := by simp [nds, List.map_set]
theorem nds_get (l : List Int) (i : Nat) (h : i < l.length) : (nds l)[i]? = some (.int .i64 l[i]) := by simp [nds, h]
/-- A node of noughts. -/
def nd0 : List Int := List.replicate 32 0
theorem nd0_len : nd0.length = 32 := rfl
theorem size_nd : (Tryd.prog.info? 99).map (·.size) = some 32 := by kernel_rfl

theorem alloc_nd {ops : Array Oper} {rest : List Oper} {o : Oper} {a : Act} {w : World} {Q : Exit → Act → World → Prop} (hg : o.guard = none) (ho : o.op = .alloc 99)
    (hK : wpList Tryd.prog ops Q rest (a.put o.dst (.pointer (some ⟨w.heap.size, 0, none⟩))) (w.alloc (.cells (nds nd0).toArray 99))) : wpList Tryd.prog ops Q (o :: rest) a w := by
  have hr : (Instr.alloc 99 true (.tuple #[])).run Tryd.prog w = .ok (.pointer (some ⟨w.heap.size, 0, none⟩)) (w.alloc (.cells (nds nd0).toArray 99)) := by kernel_rfl
  refine wpList_plain hg fun K' hK' => ?_
  unfold Oper.wp
  simp only [execOp, ho, Sem.run_bind, hr, Result.andThen]
  exact hK' _ _ hK
theorem build_nd {ops : Array Oper} {rest : List Oper} {o : Oper} {a : Act} {w : World} {Q : Exit → Act → World → Prop} (hg : o.guard = none) (ho : o.op = .build 99 #[])
    (hK : wpList Tryd.prog ops Q rest (a.put o.dst (.agg (nds nd0).toArray)) w) : wpList Tryd.prog ops Q (o :: rest) a w := by
  have hr : (Instr.build 99 #[]).run Tryd.prog w = .ok (.agg (nds nd0).toArray) w := by kernel_rfl
  refine wpList_plain hg fun K' hK' => ?_
  unfold Oper.wp
  have hm : (#[] : Array (Nat × Operand)).map (fun x => (x.1, a.eval x.2)) = #[] := by simp
  simp only [execOp, ho, Sem.run_bind, hm, hr, Result.andThen]
  exact hK' _ _ hK
theorem heap_new2_7 (w : World) (o o' : Obj) : ((w.alloc o).alloc o').heap[w.heap.size + 1]? = some o' := by simpa using heap_new (w.alloc o) o'
/-- A node in the midst of a block. -/
def NdAt (w : World) (b o : Nat) (l : List Int) : Prop := l.length = 32 ∧ (∀ j v, (nds l)[j]? = some v → w.cell? ⟨b, o + j, none⟩ = some v) ∧ w.there b o 32
theorem load_nd {ops : Array Oper} {rest : List Oper} {o : Oper} {a : Act} {w : World} {Q : Exit → Act → World → Prop} (hg : o.guard = none) (x : Operand) (ho : o.op = .load 99 x)
    (b off : Nat) (l : List Int) (hx : a.eval x = .pointer (some ⟨b, off, none⟩)) (h : NdAt w b off l)
    (hK : wpList Tryd.prog ops Q rest (a.put o.dst (.agg (nds l).toArray)) w) : wpList Tryd.prog ops Q (o :: rest) a w :=
  wpList_load_mid hg _ x ho b off hx (nds l) _ (fun j v hj => h.2.1 j v hj) Tryd.underlying99 rfl (by rw [size_nd, nds_len, h.1]) hK
theorem heap_nd {w : World} {b : Nat} {l : List Int} {t : TypeId} (h : w.heap[b]? = some (.cells (nds l).toArray t (0, 0))) (hl : l.length = 32) : NdAt w b 0 l :=
  ⟨hl, fun j v hj => by rw [Nat.zero_add]; exact heap_cell h (by simpa using hj), fun j hj => by
    rw [Nat.zero_add]
    have hj' : j < l.length := by omega
    exact ⟨by rw [heap_cell h (v := .int .i64 l[j]) (by simpa using nds_get l j hj')]; rfl, heap_frozen h⟩⟩
theorem store_nd {ops : Array Oper} {rest : List Oper} {o : Oper} {a : Act} {w : World} {Q : Exit → Act → World → Prop} (hg : o.guard = none) (x y : Operand) (ho : o.op = .store 99 x y)
    (b off : Nat) (l : List Int) (hx : a.eval x = .pointer (some ⟨b, off, none⟩)) (hy : a.eval y = .agg (nds l).toArray) (hl : l.length = 32) (ht : w.there b off 32)
    (hK : Fr (fun k => k = b) w (w.setCells b off (nds l)) → wpList Tryd.prog ops Q rest (a.put o.dst undef) (w.setCells b off (nds l))) : wpList Tryd.prog ops Q (o :: rest) a w := by
  refine wpList_store_mid hg _ x y ho b off (nds l).toArray hx hy (by simpa [nds_len, hl] using ht) (by rw [size_nd, List.size_toArray, nds_len, hl]) (all_oneCell_toArray (nds_one l)) ?_
  exact hK (fr_setCells7 _ _ _ _)

theorem results_cell7_tmp {fn : Func} {p u : Tmp} {ty : TypeId} (h : fn.results = #[.cell p ty, .tmp u]) (tmps : Array Value) (P : Program) (w : World) :
    (results fn tmps).run P w =
      ((asAddr (tmps.getD p undef)).run P w).andThen fun a w₁ => ((loadVar ty a).run P w₁).andThen fun x w₂ => .ok (.tuple #[x, tmps.getD u undef]) w₂ := by
  simp only [results, h]
  simp [Sem.run_bind, Result.andThen]
theorem results_cell7 {fn : Func} {p : Tmp} {ty : TypeId} (h : fn.results = #[.cell p ty]) (tmps : Array Value) (P : Program) (w : World) :
    (results fn tmps).run P w = ((asAddr (tmps.getD p undef)).run P w).andThen fun a w₁ => (loadVar ty a).run P w₁ := by
  simp only [results, h]
  simp [Sem.run_bind, Result.andThen]
theorem ret_nd_tmp {fn : Func} {p q : Tmp} (hfn : fn.results = #[.cell p 99, .tmp q]) {Q : Ending → World → Prop} {a : Act} {w : World} {b : Nat} {l : List Int} {v1 : Value} (hp : a.tmps.getD p undef = .pointer (some ⟨b, 0, none⟩)) (hq : a.tmps.getD q undef = v1)
    (hN : NdAt w b 0 l) (hd : a.defers = []) (hR : Q (.returned (.tuple #[.agg (nds l).toArray, v1])) w) : bodyPost Tryd.prog fn Q .ret a w := by
  refine bodyPost_ret ?_ hd hR
  rw [results_cell7_tmp hfn, hp, hq]
  have hl := run_loadVar_mid (P := Tryd.prog) w b 0 99 (nds l) _ (fun j v hj => hN.2.1 j v hj) Tryd.underlying99 rfl (by rw [size_nd, nds_len, hN.1])
  simp only [asAddr, Sem.run_pure, Result.andThen_ok, hl]
theorem ret_nd {fn : Func} {p : Tmp} (hfn : fn.results = #[.cell p 99]) {Q : Ending → World → Prop} {a : Act} {w : World} {b : Nat} {l : List Int} (hp : a.tmps.getD p undef = .pointer (some ⟨b, 0, none⟩))
    (hN : NdAt w b 0 l) (hd : a.defers = []) (hR : Q (.returned (.agg (nds l).toArray)) w) : bodyPost Tryd.prog fn Q .ret a w := by
  refine bodyPost_ret ?_ hd hR
  rw [results_cell7 hfn, hp]
  have hl := run_loadVar_mid (P := Tryd.prog) w b 0 99 (nds l) _ (fun j v hj => hN.2.1 j v hj) Tryd.underlying99 rfl (by rw [size_nd, nds_len, hN.1])
  simp only [asAddr, Sem.run_pure, Result.andThen_ok, hl]

set_option maxHeartbeats 2000000 in
set_option maxRecDepth 1000000 in
theorem nwith_calls (l : List Int) (hl : l.length = 32) (i : Nat) (hi : i < 32) (s : Int) (w : World) :
    Calls Tryd.prog 75 #[.agg (nds l).toArray, .int .i64 (i : Int), .int .i64 s] w fun e w' => e = .returned (.tuple #[.agg (nds (l.set i s)).toArray, .int .i64 0]) ∧ Fr No w w' := by
  have d1 : decide ((i : Int) < 0) = false := decide_eq_false (by omega)
  have d2 : decide ((32 : Int) ≤ (i : Int)) = false := decide_eq_false (by omega)
  have HL := Lib.hid hl
  clear hl
  go_enter Tryd.func75, Tryd.ntmps75
  have hgi := nds_get l i (by rw [HL.out]; exact hi)
  generalize l[i]'(by rw [HL.out]; exact hi) = li at *
  have hse := nds_set l i s
  have HL2 : RowKit.Hid ((l.set i s).length = 32) := Lib.hid (by rw [List.length_set]; exact HL.out)
  generalize l.set i s = l2 at *
  have hb2 := heap_new2_7 w (Obj.cells (nds l2).toArray 99) (Obj.cells (nds nd0).toArray 99)
  have hb1 := heap_alloc (Obj.cells (nds nd0).toArray 99) (heap_new w (Obj.cells (nds l2).toArray 99))
  have HN1 := Lib.hid (heap_nd hb1 HL2.out)
  have HN2 := Lib.hid (heap_nd hb2 nd0_len)
  have HB2 := Lib.hid hb2
  clear hb1 hb2
  go_wp2_with (first
    | (refine alloc_nd rfl rfl ?_)
    | ((refine load_nd rfl _ rfl w.heap.size 0 l2 rfl HN1.out ?_))
    | ((refine store_nd rfl _ _ rfl (w.heap.size + 1) 0 l2 rfl rfl HL2.out HN2.out.2.2 ?_; intro hF3))
    | fail "arm")
  have HN3 := heap_nd (heap_setCells7 HB2.out (nds l2) (by rw [nds_len, nds_len, HL2.out]; rfl)) HL2.out
  refine ret_nd_tmp Tryd.results75 rfl rfl HN3 rfl ⟨rfl, (((Fr.refl No w).alloc (Obj.cells (nds l2).toArray 99)).alloc (Obj.cells (nds nd0).toArray 99)).trans' hF3 (fun i hi e => by omega)⟩

theorem must_calls (w : World) : Calls Tryd.prog 47 #[.int .i64 0] w fun e w' => e = .returned (.tuple #[]) ∧ w = w' := by
  go_enter Tryd.func47, Tryd.ntmps47
  go_wp2
  go_end0
  exact ⟨rfl, rfl⟩

set_option maxHeartbeats 2000000 in
set_option maxRecDepth 1000000 in
theorem swith_calls (l : List Int) (hl : l.length = 32) (i : Nat) (hi : i < 32) (s : Int) (w : World) :
    Calls Tryd.prog 60 #[.agg (nds l).toArray, .int .i64 (i : Int), .int .i64 s] w fun e w' => e = .returned (.agg (nds (l.set i s)).toArray) ∧ Fr No w w' := by
  have HW := Lib.hid (fun w1 => nwith_calls l hl i hi s w1)
  have HL2 : RowKit.Hid ((l.set i s).length = 32) := Lib.hid (by rw [List.length_set]; exact hl)
  have HN1 := Lib.hid (heap_nd (heap_alloc (Obj.cells (nds nd0).toArray 99) (heap_new w (Obj.cells (nds l).toArray 99))) hl)
  have HB2 := Lib.hid (heap_new2_7 w (Obj.cells (nds l).toArray 99) (Obj.cells (nds nd0).toArray 99))
  generalize l.set i s = l2 at *
  have HF0 : RowKit.Hid (Fr No w ((w.alloc (Obj.cells (nds l).toArray 99)).alloc (Obj.cells (nds nd0).toArray 99))) := Lib.hid (((Fr.refl No w).alloc _).alloc _)
  clear hl
  go_enter Tryd.func60, Tryd.ntmps60
  go_wp2_with (first
    | (refine alloc_nd rfl rfl ?_)
    | (refine load_nd rfl _ rfl w.heap.size 0 l rfl HN1.out ?_)
    | fail "arm")
  refine (HW.out _).mono ?_
  rintro e w1 ⟨rfl, hF1⟩
  have HF1 := Lib.hid hF1
  have HB1 := Lib.hid (hF1.heap HB2.out (fun h => h))
  have hsz := hF1.size
  have hb3 := heap_new w1 (Obj.cells (nds nd0).toArray 99)
  have HN3 := Lib.hid (heap_nd hb3 nd0_len)
  have HB3 := Lib.hid hb3
  clear hF1 hb3
  go_wp2_with (first
    | (refine alloc_nd rfl rfl ?_)
    | (go_at_call 47; ((with_reducible refine (must_calls _).mono ?_); rintro e w2 ⟨rfl, rfl⟩))
    | (refine store_nd rfl _ _ rfl w1.heap.size 0 l2 rfl rfl HL2.out HN3.out.2.2 ?_; intro hF3; have HN4 := Lib.hid (heap_nd (heap_setCells7 HB3.out (nds l2) (by rw [nds_len, nds_len, HL2.out]; rfl)) HL2.out); have HB4 := Lib.hid (hF3.heap (heap_alloc (Obj.cells (nds nd0).toArray 99) HB1.out) (fun e => by have := heap_lt HB1.out; omega)); have HN5 := Lib.hid (heap_nd HB4.out nd0_len))
    | (refine load_nd rfl _ rfl w1.heap.size 0 l2 rfl HN4.out ?_)
    | (refine store_nd rfl _ _ rfl (w.heap.size + 1) 0 l2 rfl rfl HL2.out HN5.out.2.2 ?_; intro hF6)
    | fail "arm")
  have HN6 := heap_nd (heap_setCells7 HB4.out (nds l2) (by rw [nds_len, nds_len, HL2.out]; rfl)) HL2.out
  refine ret_nd Tryd.results60 rfl HN6 rfl ⟨rfl, ?_⟩
  have h1 := HF0.out.trans (HF1.out.alloc (Obj.cells (nds nd0).toArray 99))
  have h0 := HF0.out.size
  have h2 := HF1.out.size
  exact (h1.trans' hF3 (fun i hi e => by omega)).trans' hF6 (fun i hi e => by omega)
end Go.Proofs.YtpcikbloflpahaaDoor
namespace Go.Proofs.YtpcikbloflpahaaDoor
set_option linter.unusedVariables false
set_option linter.unusedSimpArgs false
open Go.RowKit Go.Shelf Go.Maps

set_option maxHeartbeats 1000000 in
set_option maxRecDepth 1000000 in
theorem sread0_calls (d : Option Addr) (w : World) : Calls Tryd.prog 58 #[.pointer d, .int .i64 0] w fun e w' => e = .returned (.agg (nds nd0).toArray) ∧ Fr No w w' := by
  have hb := heap_new w (Obj.cells (nds nd0).toArray 99)
  have HB := Lib.hid hb
  have HN := Lib.hid (heap_nd hb nd0_len)
  clear hb
  go_enter Tryd.func58, Tryd.ntmps58
  go_wp2_with (first
    | (refine alloc_nd rfl rfl ?_)
    | (refine build_nd rfl rfl ?_)
    | (refine store_nd rfl _ _ rfl w.heap.size 0 nd0 rfl rfl nd0_len HN.out.2.2 ?_; intro hF3)
    | fail "arm")
  have HN6 := heap_nd (heap_setCells7 HB.out (nds nd0) rfl) nd0_len
  refine ret_nd Tryd.results58 rfl HN6 rfl ⟨rfl, ((Fr.refl No w).alloc _).trans' hF3 (fun i hi e => by omega)⟩

theorem run_index_nd (w : World) (l : List Int) (j : Nat) (hj : j < l.length) (hl : l.length = 32) : (Instr.index 99 (.agg (nds l).toArray) (.int .i64 (j : Int))).run Tryd.prog w = .ok (.int .i64 l[j]) w := by
  have hi : (Tryd.prog.info? 3).map (·.size) = some 1 := by kernel_rfl
  cases hq : Tryd.prog.info? 3 with
  | none => rw [hq] at hi; cases hi
  | some i =>
    have hs : i.size = 1 := by simpa [hq] using hi
    have hag : (isAgg 3).run Tryd.prog w = .ok false w := by
      unfold isAgg
      rw [Sem.run_bind, run_underlying Tryd.underlying3 w]; rfl
    have hg := nds_get l j hj
    have hln := nds_len l
    unfold Instr.index
    simp [Sem.run_bind, asIntOf, run_underlying Tryd.underlying99 w, part, sizeOf, typeInfo, hq, hs, hag, hg]
    intro h8; omega

theorem mk_cap64 (w : World) : (Instr.makeSlice 30 (.int .i64 0) (.int .i64 64)).run Tryd.prog w = .ok (.slice (some ⟨w.heap.size, 0, none⟩) 0 64) (w.alloc (.cells (bys (zs 64)).toArray 5)) := by
  have hE := el_u8
  cases hi : Tryd.prog.info? 5 with
  | none => have := hE.info; rw [hi] at this; simp at this
  | some i =>
    have h := hE.info
    rw [hi] at h
    simp only [Option.map_some, Option.some.injEq, Prod.mk.injEq] at h
    obtain ⟨h1, h2, h3⟩ := h
    have := run_make (P := Tryd.prog) w 30 5 i (.int .u8 0) hE.und hi h1 .i64 .i64 0 64 (by omega) (by omega) (by rw [h3]; omega) (by omega)
    rw [this, h2]
    have e : ((64 : Int).toNat) = 64 := rfl
    rw [e, made_zs]; rfl
theorem bys_app7 (l m : List Int) : bys (l ++ m) = bys l ++ bys m := List.map_append
theorem putL_range (l : List Int) (a : Nat) (n : Int) (k : Nat) (h : ∀ b ∈ l, 0 ≤ b ∧ b < 256) : ∀ b ∈ putL l a n k, 0 ≤ b ∧ b < 256 := by
  induction k with
  | zero => exact h
  | succ k ih =>
    intro b hb
    rw [putL] at hb
    rcases List.mem_or_eq_of_mem_set hb with hb | rfl
    · exact ih b hb
    · have : IntKind.u8.wrap (n / 2 ^ (8 * k)) = (n / 2 ^ (8 * k)) % 256 := by simp [IntKind.wrap]; rfl
      omega

set_option maxHeartbeats 4000000 in
set_option maxRecDepth 1000000 in
theorem nencode_calls (l : List Int) (hl : l.length = 32) (hr : ∀ x ∈ l, 0 ≤ x ∧ x ≤ 65535) (w : World) :
    Calls Tryd.prog 69 #[.agg (nds l).toArray] w fun e w' => ∃ r bs, e = .returned (.tuple #[r, .int .i64 0]) ∧ Fr No w w' ∧ bs.length = 64 ∧ (∀ b ∈ bs, 0 ≤ b ∧ b < 256) ∧ w'.ownsRow w.heap.size 5 1 r 64 (bys bs) := by
  have hmk2 : ∀ w : World, (Instr.makeSlice 30 (.int .i64 2) (.int .i64 2)).run Tryd.prog w = .ok (.slice (some ⟨w.heap.size, 0, none⟩) 2 2) (w.alloc (.cells (bys (zs 2)).toArray 5)) := fun w => mk_bytes w 2 (by omega)
  have hmk := mk_cap64
  have HIX := Lib.hid (fun (w1 : World) j hj => run_index_nd w1 l j hj hl)
  have HR := Lib.hid hr
  have HL := Lib.hid hl
  have HN := Lib.hid (heap_nd (heap_alloc (Obj.cells (bys (zs 64)).toArray 5) (heap_new w (Obj.cells (nds l).toArray 99))) hl)
  clear hl hr
  go_enter Tryd.func69, Tryd.ntmps69
  go_wp2_with (first
    | ((refine load_nd rfl _ rfl w.heap.size 0 l rfl HN.out ?_))
    | fail "arm")
  go_loopw [4, 9] (fun bv i wr => ∃ (j : Nat) (bs : List Int), j ≤ 32 ∧ i = .int .i64 j ∧ bs.length = 2 * j ∧ (∀ b ∈ bs, 0 ≤ b ∧ b < 256) ∧ wr.ownsRow w.heap.size 5 1 bv (2 * j) (bys bs) ∧ Fr No w wr) (fun _ i _ => 32 - (intOf i).toNat)
  case atStart => exact ⟨0, [], by omega, rfl, rfl, by simp, ⟨rfl, .inr ⟨_, _, _, rfl, by omega, heap_new2_7 w _ _, by omega, by unfold maxLen; omega, by simp [bys, zs], by simp [bys]⟩⟩, ((Fr.refl No w).alloc _).alloc _⟩
  case round =>
    obtain ⟨j, bs, hj, rfl, hbl, hbr, hown, hF⟩ := hrel
    obtain ⟨ab, cb, rfl⟩ := (Sl.of_owns hown).form
    have HOW := Lib.hid hown
    have HF := Lib.hid hF
    have HBL := Lib.hid hbl
    have HBR := Lib.hid hbr
    clear hown hF hbl hbr
    by_cases hlt : j < 32
    · have hd : decide ((j : Int) < 32) = true := decide_eq_true (by omega)
      have hix := HIX.out wr j (by rw [HL.out]; exact hlt)
      have hx := HR.out _ (List.getElem_mem (h := (by rw [HL.out]; exact hlt : j < l.length)))
      revert hix hx
      generalize l[j]'(by rw [HL.out]; exact hlt) = x
      intro hix hx
      have d1 : decide (x < 0) = false := decide_eq_false (by omega)
      have d2 : decide (65535 < x) = false := decide_eq_false (by omega)
      have hwx : IntKind.u64.wrap x = x := IntWalk.u64_in _ (by omega)
      have HPT := Lib.hid (fun (w1 : World) => (put_calls (.slice (some ⟨w1.heap.size, 0, none⟩) 2 2) (zs 2) 0 2 x (w1.alloc (Obj.cells (bys (zs 2)).toArray 5)) (by omega) (by simp [zs]) (by simp [zs]) (by omega) (by simp [zs]) (by have := (Row.new w1 5 (zs 2)).sl; rw [zs_length] at this; exact this) :
        Calls Tryd.prog 79 #[.slice (some ⟨w1.heap.size, 0, none⟩) 2 2, .int .i64 0, .int .i64 2, .int .u64 x] (w1.alloc (Obj.cells (bys (zs 2)).toArray 5)) _))
      have HPL := Lib.hid (putL_length (zs 2) 0 x 2)
      have HPR := Lib.hid (putL_range (zs 2) 0 x 2 (fun b hb => by simp only [zs, List.mem_replicate] at hb; omega))
      clear hx
      generalize putL (zs 2) 0 x 2 = pl at *
      go_wp2_with fail
      refine (HPT.out _).mono ?_
      rintro e w1 ⟨r, rfl, hF1, hr1⟩
      rw [zs_length] at hr1
      obtain ⟨ar, cr, rfl⟩ := (Sl.of_owns hr1).form
      have HR1 := Lib.hid (Sl.of_owns hr1)
      have HF1 := Lib.hid (show Fr No w1 w1 from Fr.refl _ _)
      have HFW := Lib.hid (show Fr No wr w1 from (((Fr.refl No wr).alloc (Obj.cells (bys (zs 2)).toArray 5)).trans hF1))
      have HOW1 := Lib.hid (ownsRow_fr7 HOW.out HFW.out (fun _ _ h => h))
      have HSZ := Lib.hid (Nat.le_trans HF.out.size HFW.out.size)
      have hb2 : (bys pl).length = 2 * 1 := by rw [bys_len, HPL.out]; rfl
      clear hF1 hr1 HPT
      go_wp2_with (first
        | (at_builtin; (refine append_at7 el_u8 rfl _ (.tmp 22) rfl w.heap.size (.slice ab (2 * j) cb) (2 * j) (bys bs) rfl HOW1.out rfl HR1.out hb2 (bys_one _) (by unfold maxLen; omega) (by omega) HSZ.out ?_; intro a3 n3 c3 w3 hown3 hgrow3 hlie3))
        | fail "arm")
      have HF3 := Lib.hid (show Fr No w w3 from (HF.out.trans HFW.out).trans' (fr_grown7 hgrow3) (fun i hi e => by have := (HOW1.out.lt i e).1; omega))
      have HO3 := Lib.hid hown3
      clear hown3 hgrow3 hlie3
      go_wp2_with fail
      go_roundw
      case rel =>
        refine ⟨j + 1, bs ++ pl, by omega, by go_num, ?_, ?_, ?_, HF3.out⟩
        · rw [List.length_append, HBL.out, HPL.out, zs_length]; omega
        · intro b hb
          rcases List.mem_append.1 hb with h | h
          · exact HBR.out b h
          · exact HPR.out b h
        · have h3 := HO3.out
          rw [← bys_app7] at h3
          rw [show 2 * (j + 1) = 2 * j + 2 by omega]
          exact h3
      case measure => simp [intOf]; omega
    · obtain rfl : j = 32 := by omega
      have hd : decide (((32 : Nat) : Int) < 32) = false := by decide
      go_wp2
      go_ret2
      exact ⟨_, bs, rfl, HF.out, by have := HBL.out; omega, HBR.out, HOW.out⟩

set_option maxHeartbeats 1000000 in
set_option maxRecDepth 1000000 in
/-- Bytes that are not all noughts. -/
theorem blank_no (v : Value) (l : List Int) (w : World) (hlen : l.length ≤ 140737488355328) (hne : ∃ b ∈ l, b ≠ 0) (hv : Sl w v l.length (bys l)) :
    Calls Tryd.prog 59 #[v] w fun e w' => e = .returned (.bool false) ∧ w = w' := by
  obtain ⟨av, cv, rfl⟩ := hv.form
  have HV := Lib.hid hv
  have HNE := Lib.hid hne
  clear hv hne
  go_enter Tryd.func59, Tryd.ntmps59
  go_wp2_with fail
  go_loopw [7] (fun i wr => ∃ (j : Nat), j ≤ l.length ∧ i = .int .i64 j ∧ (∀ k (h : k < l.length), k < j → l[k] = 0) ∧ w = wr) (fun i _ => l.length - (intOf i).toNat)
  case atStart => exact ⟨0, Nat.zero_le _, rfl, fun k h h2 => absurd h2 (Nat.not_lt_zero k), rfl⟩
  case round =>
    obtain ⟨j, hj, rfl, hz, rfl⟩ := hrel
    have HZ := Lib.hid hz
    clear hz
    by_cases hlt : j < l.length
    · have hg := bys_get l j hlt
      obtain ⟨b, off, rfl, -, hc⟩ := HV.out.at (bys_ne _ _ hlt)
      have c0 := hc _ _ hg
      obtain ⟨x, hx⟩ : ∃ x, l[j] = x := ⟨_, rfl⟩
      rw [hx] at c0
      have HX := Lib.hid hx
      clear hc hg hx
      by_cases h0 : x = 0
      · have q1 : (x != 0) = false := by simp [h0]
        have H0 := Lib.hid h0
        clear h0
        go_wp2
        go_roundw
        case rel =>
          refine ⟨j + 1, by omega, by go_num, fun k h h2 => ?_, by first | rfl | trivial⟩
          by_cases e : k = j
          · subst e; exact HX.out.trans H0.out
          · exact HZ.out k h (by omega)
        case measure => simp [intOf]; omega
      · have q1 : (x != 0) = true := by simp [h0]
        clear h0
        go_wp2
        go_ret
        exact ⟨rfl, rfl⟩
    · obtain ⟨b, hb, h⟩ := HNE.out
      obtain ⟨k, hk, rfl⟩ := List.getElem_of_mem hb
      exact absurd (HZ.out k hk (by omega)) h
end Go.Proofs.YtpcikbloflpahaaDoor
namespace Go.Proofs.YtpcikbloflpahaaDoor
set_option linter.unusedVariables false
set_option linter.unusedSimpArgs false
open Go.RowKit Go.Shelf Go.Maps

theorem set_take7 (L : List Value) (i : Nat) (x : Value) (h : i < L.length) : (L.set i x).take (i + 1) = L.take i ++ [x] := by
  rw [List.take_succ_eq_append_getElem (by rw [List.length_set]; exact h), List.getElem_set_self, List.take_set_of_le (Nat.le_refl _)]
theorem fold_set7 : ∀ (l : List Value) (base : Array Value) (o k : Nat), o + k + l.length ≤ base.size →
    (l.zipIdx k).foldl (fun (cs : Array Value) (x : Value × Nat) => cs.setIfInBounds (o + x.2) x.1) base = (base.toList.take (o + k) ++ l ++ base.toList.drop (o + k + l.length)).toArray
  | [], base, o, k, h => by simp
  | x :: l, base, o, k, h => by
    rw [List.zipIdx_cons, List.foldl_cons, fold_set7 l _ o (k + 1) (by simp at h ⊢; omega)]
    congr 1
    simp only [List.length_cons] at h ⊢
    have hl : o + k < base.toList.length := by simp; omega
    rw [Array.toList_setIfInBounds, show o + (k + 1) = o + k + 1 by omega, set_take7 _ _ _ hl, List.drop_set_of_lt (by omega)]
    simp [Nat.add_assoc, Nat.add_comm 1]
theorem fill_one7 {n : Nat} {base : Array Value} {cs : List Value} (hb : base.size = n) (hc : cs.length = n) (pl : Nat → Option (Nat × Nat)) (hp : pl 0 = some (0, n)) :
    Instr.fill pl base [(0, .agg cs.toArray)] = some cs.toArray := by
  have := fold_set7 cs base 0 0 (by omega)
  simp only [Nat.zero_add, List.take_zero, List.nil_append] at this
  unfold Instr.fill Instr.fill
  rw [hp]
  simp only [Value.cells, List.size_toArray, Nat.zero_add]
  rw [if_neg (by simp; omega), ← Array.foldl_toList]
  rw [Array.toList_zipIdx]
  rw [this, List.drop_of_length_le (by simp; omega), List.append_nil]
theorem fill_two7 {n : Nat} {base : Array Value} {x : Value} {cs : List Value} (hx : x.cells = #[x]) (hb : base.size = n + 1) (hc : cs.length = n) (pl : Nat → Option (Nat × Nat)) (hp : pl 0 = some (0, 1)) (hq : pl 1 = some (1, n)) :
    Instr.fill pl base [(0, x), (1, .agg cs.toArray)] = some (x :: cs).toArray := by
  have := fold_set7 cs (base.setIfInBounds 0 x) 1 0 (by simp; omega)
  have hb0 : 0 < base.toList.length := by simp; omega
  simp only [Nat.add_zero, Array.toList_setIfInBounds] at this
  rw [set_take7 _ 0 _ hb0, List.drop_of_length_le (by simp; omega)] at this
  unfold Instr.fill
  rw [hp]
  simp only [hx]
  rw [if_neg (by simp; rintro rfl; simp at hb)]
  unfold Instr.fill Instr.fill
  rw [hq]
  simp only [Value.cells, List.size_toArray]
  have e1 : Array.foldl (fun (cs : Array Value) (x : Value × Nat) => cs.setIfInBounds (0 + x.snd) x.fst) base #[x].zipIdx = base.setIfInBounds 0 x := by rw [← Array.foldl_toList, Array.toList_zipIdx]; simp
  rw [e1, if_neg (by simp; omega), ← Array.foldl_toList, Array.toList_zipIdx]
  simp at this ⊢
  exact this
/-- A disk's block: what was written last, what waits, how many acts. -/
def DkC (lb cb : Nat) (wv : Value) (acts : Int) : List Value := [.slice (some ⟨lb, 0, none⟩) 10 10, .map (some cb), wv, .int .i64 (-1), .int .i64 acts, .bool false]
/-- A disk of ten sectors that is up and not armed: its block, its blocks A. -/
structure DkIn (w : World) (db lb cb : Nat) (wv : Value) (acts n : Nat) (A : Nat → Prop) : Prop where
  box : w.heap[db]? = some (.cells (DkC lb cb wv (acts : Int)).toArray 90 (0, 0))
  map : ∃ c f, MapAt Tryd.prog 3 w cb c f ∧ c ≤ n
  row : ∃ m ws, w.ownsRow 0 119 65 wv m ws ∧ m ≤ n
  actsn : n ≤ 100
  acts1 : acts ≤ 10
  a0 : A db
  a1 : A cb
  a2 : ∀ k, wv.ownBlock = some k → A k
  low : ∀ k, A k → k < w.heap.size
def DkAt (w : World) (db : Nat) (A : Nat → Prop) (acts : Nat) : Prop := ∃ lb cb wv n, n ≤ 2 * acts ∧ DkIn w db lb cb wv acts n A
theorem DkAt.low {w : World} {db : Nat} {A : Nat → Prop} {acts : Nat} (h : DkAt w db A acts) : ∀ k, A k → k < w.heap.size := by obtain ⟨_, _, _, _, _, h⟩ := h; exact h.low
theorem DkIn.fr {S : Nat → Prop} {w w' : World} {db lb cb : Nat} {wv : Value} {acts n : Nat} {A : Nat → Prop} (h : DkIn w db lb cb wv acts n A) (hF : Fr S w w') (hn : ∀ k, A k → ¬ S k) : DkIn w' db lb cb wv acts n A := by
  obtain ⟨c, f, h1, h2⟩ := h.map
  obtain ⟨m, ws, h3, h4⟩ := h.row
  exact ⟨hF.heap h.box (hn _ h.a0), ⟨c, f, h1.fr hF (hn _ h.a1), h2⟩, ⟨m, ws, ownsRow_fr7 h3 hF (fun k e => hn _ (h.a2 k e)), h4⟩, h.actsn, h.acts1, h.a0, h.a1, h.a2, fun k hk => Nat.lt_of_lt_of_le (h.low k hk) hF.size⟩
theorem DkAt.fr {S : Nat → Prop} {w w' : World} {db : Nat} {A : Nat → Prop} {acts : Nat} (h : DkAt w db A acts) (hF : Fr S w w') (hn : ∀ k, A k → ¬ S k) : DkAt w' db A acts := by
  obtain ⟨lb, cb, wv, n, hn2, h⟩ := h; exact ⟨lb, cb, wv, n, hn2, h.fr hF hn⟩
theorem DkAt.fr0 {w w' : World} {db : Nat} {A : Nat → Prop} {acts : Nat} (h : DkAt w db A acts) (hF : Fr No w w') : DkAt w' db A acts := h.fr hF (fun _ _ h => h)

def lst10 : Array Value := madeCells (Value.agg (bys (zs 64)).toArray).cells (10 * 64)
theorem mk_sec (w : World) : (Instr.makeSlice 84 (.int .i64 10) (.int .i64 10)).run Tryd.prog w = .ok (.slice (some ⟨w.heap.size, 0, none⟩) 10 10) (w.alloc (.cells lst10 92)) := by
  have hE : (Tryd.prog.info? 92).map (fun i => (i.zero, i.size, i.bytes)) = some (some (.agg (bys (zs 64)).toArray), 64, 64) := by kernel_rfl
  cases hi : Tryd.prog.info? 92 with
  | none => rw [hi] at hE; simp at hE
  | some i =>
    rw [hi] at hE
    simp only [Option.map_some, Option.some.injEq, Prod.mk.injEq] at hE
    obtain ⟨h1, h2, h3⟩ := hE
    have := run_make (P := Tryd.prog) w 84 92 i _ Tryd.underlying84 hi h1 .i64 .i64 10 10 (by omega) (by omega) (by rw [h3]; omega) (by omega)
    rw [this, h2]; rfl

set_option maxHeartbeats 1000000 in
set_option maxRecDepth 1000000 in
theorem dnew_calls (w : World) : Calls Tryd.prog 31 #[.int .i64 10] w fun e w' => ∃ db A, e = .returned (.pointer (some ⟨db, 0, none⟩)) ∧ DkAt w' db A 0 ∧ Fr No w w' ∧ ∀ k, A k → w.heap.size ≤ k := by
  have hmm : ∀ w : World, (Instr.makeMap 85 none).run Tryd.prog w = .ok (.map (some w.heap.size)) (w.alloc (.map #[] 0)) := fun _ => rfl
  have hmk := mk_sec
  go_enter Tryd.func31, Tryd.ntmps31
  go_wp2
  go_ret
  generalize lst10 = ls
  have s1 : (w.alloc (.cells ls 92)).heap.size = w.heap.size + 1 := by simp
  have hmap := MapAt.made Tryd.prog 3 (w.alloc (.cells ls 92))
  rw [s1] at hmap
  have hb := heap_new ((w.alloc (.cells ls 92)).alloc (.map #[] 0)) (Obj.cells #[.slice (some ⟨w.heap.size, 0, none⟩) 10 10, .map (some (w.heap.size + 1)), .slice none 0 0, .int .i64 (-1), .int .i64 0, .bool false] 90)
  have s2 : ((w.alloc (.cells ls 92)).alloc (.map #[] 0)).heap.size = w.heap.size + 2 := by simp
  rw [s2] at hb
  refine ⟨w.heap.size + 2, fun k => k = w.heap.size + 2 ∨ k = w.heap.size + 1, rfl, ⟨w.heap.size, w.heap.size + 1, .slice none 0 0, 0, by omega, ⟨hb, ⟨0, _, hmap.fr ((Fr.refl No _).alloc _) (fun h => h), by omega⟩, ⟨0, [], World.ownsRow_nil _ _ _ _, by omega⟩, by omega, by omega, .inl rfl, .inr rfl, fun k e => by simp [Value.ownBlock] at e, fun k hk => by simp; omega⟩⟩, (((Fr.refl No w).alloc _).alloc _).alloc _, fun k hk => by omega⟩

set_option maxHeartbeats 1000000 in
set_option maxRecDepth 1000000 in
theorem dup_calls {w : World} {db : Nat} {A : Nat → Prop} {acts : Nat} (h : DkAt w db A acts) : Calls Tryd.prog 51 #[.pointer (some ⟨db, 0, none⟩)] w fun e w' => e = .returned (.bool true) ∧ w = w' := by
  obtain ⟨lb, cb, wv, n, hn2, h⟩ := h
  have c1 : w.cell? ⟨db, 1, none⟩ = some (.map (some cb)) := heap_cell (o := 1) h.box rfl
  have c5 : w.cell? ⟨db, 5, none⟩ = some (.bool false) := heap_cell (o := 5) h.box rfl
  have hnn : ∀ w : World, (binOp .neq 85 (.map (some cb)) (.map none)).run Tryd.prog w = .ok (.bool true) w := fun w => run_neq_map_nil (P := Tryd.prog) w _ _ _ (some cb) Tryd.underlying85
  clear h
  go_enter Tryd.func51, Tryd.ntmps51
  go_wp2
  go_ret
  exact ⟨rfl, rfl⟩
theorem ddown_calls {w : World} {db : Nat} {A : Nat → Prop} {acts : Nat} (h : DkAt w db A acts) : Calls Tryd.prog 82 #[.pointer (some ⟨db, 0, none⟩)] w fun e w' => e = .returned (.bool false) ∧ w = w' := by
  have HU := Lib.hid (dup_calls h)
  clear h
  go_enter Tryd.func82, Tryd.ntmps82
  go_wp2_with fail
  refine HU.out.mono ?_
  rintro e w1 ⟨rfl, rfl⟩
  go_wp2
  go_ret
  exact ⟨rfl, rfl⟩

set_option maxHeartbeats 1000000 in
set_option maxRecDepth 1000000 in
theorem dact_calls {w : World} {db lb cb : Nat} {wv : Value} {acts n : Nat} {A : Nat → Prop} (h : DkIn w db lb cb wv acts n A) (ha : acts < 10) :
    Calls Tryd.prog 89 #[.pointer (some ⟨db, 0, none⟩)] w fun e w' => e = .returned (.bool true) ∧ DkIn w' db lb cb wv (acts + 1) n A ∧ Fr (fun k => k = db) w w' := by
  have H := Lib.hid h
  have c3 : w.cell? ⟨db, 3, none⟩ = some (.int .i64 (-1)) := heap_cell (o := 3) h.box rfl
  have c4 : w.cell? ⟨db, 4, none⟩ = some (.int .i64 (acts : Int)) := heap_cell (o := 4) h.box rfl
  have f3 := heap_frozen (o := 3) h.box
  have f4 := heap_frozen (o := 4) h.box
  have hw : IntKind.i64.wrap ((acts : Int) + 1) = (acts : Int) + 1 := IntWalk.i64_in _ (by omega)
  clear h
  go_enter Tryd.func89, Tryd.ntmps89
  go_wp2
  go_ret
  have hb := heap_setAt7 (heap_setAt7 H.out.box 3 (.int .i64 (-1))) 4 (.int .i64 ((acts : Int) + 1))
  have hF : Fr (fun k => k = db) w ((w.setCell ⟨db, 3, none⟩ (.int .i64 (-1))).setCell ⟨db, 4, none⟩ (.int .i64 ((acts : Int) + 1))) := ((Fr.refl (fun k => k = db) w).setCell (p := ⟨db, 3, none⟩) (fun _ => rfl) _).setCell (p := ⟨db, 4, none⟩) (fun _ => rfl) _
  obtain ⟨c, f, h1, h2⟩ := H.out.map
  obtain ⟨m, ws, h3, h4⟩ := H.out.row
  refine ⟨rfl, ⟨hb, ⟨c, f, h1.fr hF (fun e => ?_), h2⟩, ⟨m, ws, ownsRow_fr7 h3 hF (fun k e e2 => ?_), h4⟩, H.out.actsn, by omega, H.out.a0, H.out.a1, H.out.a2, fun k hk => Nat.lt_of_lt_of_le (H.out.low k hk) hF.size⟩, hF⟩
  · obtain ⟨D, ⟨es, clock, hb2, -⟩, -⟩ := h1
    rw [e, H.out.box] at hb2; cases hb2
  · exact not_row7 H.out.box (fun cs f e3 => by injection e3 with _ e3; exact absurd e3 (by decide)) h3 k e e2
end Go.Proofs.YtpcikbloflpahaaDoor
