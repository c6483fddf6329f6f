/-
  Maps of the call's own, keyed by ints, as functions.
-/
import Derived.Test.YtpcikbloflpahaaDoorBase
import Derived.Maps.OwnSet
import Derived.Maps.Range
namespace Go.Proofs.YtpcikbloflpahaaDoor
set_option linter.unusedVariables false
set_option linter.unusedSimpArgs false
open Go.RowKit Go.Shelf Go.Maps

/-- An element reads as itself. -/
def Rv (v : Value) : Option (DataW Value × List MemPlace) := some (.held v, [])
def kI (i : Int) : Lit := .int .i64 i
theorem kI_key (i : Int) : WideAt.IsKeyLit (kI i) := by simp [kI, WideAt.IsKeyLit]
theorem kI_ne {i j : Int} (h : i ≠ j) : kI i ≠ kI j := fun e => h (by unfold kI at e; injection e)
def upd (f : Int → Option Value) (i : Int) (v : Option Value) : Int → Option Value := fun j => if j = i then v else f j
theorem upd_same (f : Int → Option Value) (i : Int) (v : Option Value) : upd f i v i = v := if_pos rfl
theorem upd_ne (f : Int → Option Value) {i j : Int} (v : Option Value) (h : j ≠ i) : upd f i v j = f j := if_neg h
def Agr (D : DataW Value) (f : Int → Option Value) : Prop := ∀ i, Maps.has D (kI i) = (f i).isSome ∧ ∀ zd, D.atKey (kI i) zd = (match f i with | some v => .held v | none => zd)

/-- Block b is a map of c entries: f. -/
def MapAt (P : Program) (k : TypeId) (w : World) (b c : Nat) (f : Int → Option Value) : Prop :=
  ∃ D, w.ownsMap P k Rv b c D ∧ Maps.size D = c ∧ Agr D f

section
variable {P : Program} {k : TypeId} {w : World} {b c : Nat} {f : Int → Option Value}

theorem ownsMap_size {n : Nat} {D : DataW Value} (h : w.ownsMap P k Rv b n D) : w.ownsMap P k Rv b (Maps.size D) D := by
  obtain ⟨es, clock, hb, F, hs, rfl⟩ := h
  exact ⟨es, clock, hb, F, by simp [Maps.size, length_sorted], rfl⟩
theorem MapAt.made (P : Program) (k : TypeId) (w : World) : MapAt P k (w.alloc (.map #[] 0)) w.heap.size 0 (fun _ => none) :=
  ⟨_, World.ownsMap_made w P k Rv, rfl, fun i => ⟨rfl, fun zd => rfl⟩⟩
theorem MapAt.lt (h : MapAt P k w b c f) : b < w.heap.size := by obtain ⟨D, h, -⟩ := h; exact h.lt
theorem MapAt.fr {S : Nat → Prop} {w' : World} (h : MapAt P k w b c f) (hF : Fr S w w') (hn : ¬ S b) : MapAt P k w' b c f := by
  have hlt := h.lt
  obtain ⟨D, ⟨es, clock, hb, F, hs, hD⟩, h1, h2⟩ := h
  exact ⟨D, ⟨es, clock, (hF.blk b hlt hn).trans hb, F, hs, hD⟩, h1, h2⟩

theorem MapAt.look {t e : TypeId} (h : MapAt P k w b c f) (hk : P.underlying k = some (.int .i64)) (ht : P.underlying t = some (.map k e)) {z : Value} (hz : (zeroValue e).run P w = .ok z w) (i : Int) (hi : -9223372036854775808 ≤ i ∧ i ≤ 9223372036854775807) :
    (Instr.lookup t (.map (some b)) (.int .i64 i) true).run P w = .ok (.tuple #[(f i).getD z, .bool (f i).isSome]) w ∧ (Instr.lookup t (.map (some b)) (.int .i64 i) false).run P w = .ok ((f i).getD z) w := by
  obtain ⟨D, hD, hc, ha⟩ := h
  have hw : (Lit.int .i64 i).wf = true := by simp only [Lit.wf, Bool.and_eq_true, decide_eq_true_eq]; exact hi
  have hkey := keyOf_int_mk (P := P) hk hw
  obtain ⟨v, ps, hrun, hv⟩ := hD.look_ok (int_keyed hk) ht hz (zd := .held z) (zp := []) rfl hkey
  obtain ⟨v2, ps2, hrun2, hv2⟩ := hD.lookup (int_keyed hk) ht hz (zd := .held z) (zp := []) rfl hkey
  obtain ⟨a1, a2⟩ := ha i
  have e1 : v = (f i).getD z := by
    have := a2 (.held z)
    unfold kI at this
    rw [this] at hv
    unfold Rv at hv
    cases hf : f i with
    | none => rw [hf] at hv; simp at hv; exact hv.1
    | some u => rw [hf] at hv; simp at hv; exact hv.1
  have e2 : v2 = (f i).getD z := by
    have := a2 (.held z)
    unfold kI at this
    rw [this] at hv2
    unfold Rv at hv2
    cases hf : f i with
    | none => rw [hf] at hv2; simp at hv2; exact hv2.1
    | some u => rw [hf] at hv2; simp at hv2; exact hv2.1
  unfold kI at a1
  rw [a1, e1] at hrun
  rw [e2] at hrun2
  exact ⟨hrun, hrun2⟩
theorem MapAt.len {t e : TypeId} (h : MapAt P k w b c f) (ht : P.underlying t = some (.map k e)) (ty : TypeId) : (Builtin.len_ #[t] ty #[.map (some b)]).run P w = .ok (.int .i64 (c : Nat)) w := by
  obtain ⟨D, hD, hc, ha⟩ := h
  rw [← hc]
  exact hD.len ht ty
theorem turned_fr {w' : World} (h : w.mapTurned w' b) : Fr (fun j => j = b) w w' := (Fr.refl _ _).grown h.grown (fun j e _ => by injection e with e; exact e.symm)
theorem MapAt.put {t e : TypeId} (h : MapAt P k w b c f) (hk : P.underlying k = some (.int .i64)) (ht : P.underlying t = some (.map k e)) (hn : c < maxLen) (i : Int) (hi : -9223372036854775808 ≤ i ∧ i ≤ 9223372036854775807) (v : Value) :
    ∃ w', (Instr.mapUpdate t (.map (some b)) (.int .i64 i) v).run P w = .ok () w' ∧ MapAt P k w' b (if (f i).isSome then c else c + 1) (upd f i (some v)) ∧ Fr (fun j => j = b) w w' := by
  obtain ⟨D, hD, hc, ha⟩ := h
  have hw : (Lit.int .i64 i).wf = true := by simp only [Lit.wf, Bool.and_eq_true, decide_eq_true_eq]; exact hi
  have hkey := keyOf_int_mk (P := P) hk hw
  obtain ⟨w', hrun, h1, h2⟩ := hD.store (int_keyed hk) ht hn hkey (val := v) (d := .held v) (ps := []) rfl
  have hT := hD.tidy (int_keyed hk)
  have hM := hD.isMap
  refine ⟨w', hrun, ⟨D.put (kI i) (.held v), ?_, ?_, fun j => ?_⟩, turned_fr h2⟩
  · have := ownsMap_size h1
    rw [size_put hT] at this
    have a := (ha i).1
    unfold kI at a
    rw [a, hc] at this
    exact this
  · rw [size_put hT, hc, (ha i).1]
  · by_cases e : j = i
    · subst e
      rw [upd_same]
      exact ⟨has_put_same hM (kI_key j) _, fun zd => atKey_put_same hM (kI_key j) _ zd⟩
    · rw [upd_ne f _ e]
      exact ⟨(has_put_other (kI_ne e) _).trans (ha j).1, fun zd => (atKey_put_other (kI_ne e) _ zd).trans ((ha j).2 zd)⟩
theorem MapAt.del {t e : TypeId} (h : MapAt P k w b c f) (hk : P.underlying k = some (.int .i64)) (ht : P.underlying t = some (.map k e)) (i : Int) (hi : -9223372036854775808 ≤ i ∧ i ≤ 9223372036854775807) (ty : TypeId) :
    ∃ w', (Builtin.delete_ #[t, k] ty #[.map (some b), .int .i64 i]).run P w = .ok (.tuple #[]) w' ∧ MapAt P k w' b (if (f i).isSome then c - 1 else c) (upd f i none) ∧ Fr (fun j => j = b) w w' := by
  obtain ⟨D, hD, hc, ha⟩ := h
  have hw : (Lit.int .i64 i).wf = true := by simp only [Lit.wf, Bool.and_eq_true, decide_eq_true_eq]; exact hi
  have hkey := keyOf_int_mk (P := P) hk hw
  obtain ⟨w', hrun, h1, h2⟩ := hD.drop (int_keyed hk) ht hkey ty
  have hT := hD.tidy (int_keyed hk)
  have hM := hD.isMap
  have hsz := size_del (k := kI i) hT
  have a := (ha i).1
  rw [a, hc] at hsz
  have hs2 : Maps.size (D.del (kI i)) = if (f i).isSome then c - 1 else c := by
    cases hf : (f i).isSome <;> rw [hf] at hsz <;> simp at hsz ⊢ <;> omega
  refine ⟨w', hrun, ⟨D.del (kI i), ?_, hs2, fun j => ?_⟩, turned_fr h2⟩
  · have := ownsMap_size h1
    unfold kI at hs2
    rw [hs2] at this
    exact this
  · by_cases e : j = i
    · subst e
      rw [upd_same]
      exact ⟨has_del_same, fun zd => atKey_del_same zd⟩
    · rw [upd_ne f _ e]
      exact ⟨(has_del_other (kI_ne e)).trans (ha j).1, fun zd => (atKey_del_other (kI_ne e) zd).trans ((ha j).2 zd)⟩
end

/-- A store at the operation. -/
theorem map_put {P : Program} {w : World} {ops : Array Oper} {rest : List Oper} {o : Oper} {a : Act} {Q : Exit → Act → World → Prop} (hg : o.guard = none) (m x v : Operand) (t : TypeId) (hop : o.op = Op.mapUpdate t m x v)
    {k e : TypeId} {b c : Nat} {f : Int → Option Value} (hm : a.eval m = .map (some b)) (h : MapAt P k w b c f) (hk : P.underlying k = some (.int .i64)) (ht : P.underlying t = some (.map k e)) (hn : c < maxLen) (i : Int) (hi : -9223372036854775808 ≤ i ∧ i ≤ 9223372036854775807) (u : Value)
    (hx : a.eval x = .int .i64 i) (hv : a.eval v = u)
    (hK : ∀ w', MapAt P k w' b (if (f i).isSome then c else c + 1) (upd f i (some u)) → Fr (fun j => j = b) w w' → wpList P ops Q rest (a.put o.dst undef) w') :
    wpList P ops Q (o :: rest) a w := by
  refine wpList_plain hg fun K' hK' => ?_
  obtain ⟨w', hrun, r1, r2⟩ := h.put hk ht hn i hi u
  unfold Oper.wp
  simp [execOp, hop, hm, hx, hv, hrun, Result.andThen]
  exact hK' _ _ (hK w' r1 r2)
theorem map_del {P : Program} {w : World} {ops : Array Oper} {rest : List Oper} {o : Oper} {a : Act} {Q : Exit → Act → World → Prop} (hg : o.guard = none) (m x : Operand) (t k : TypeId) (hop : o.op = Op.call { callee := Callee.builtin Builtin.delete, args := #[m, x], argTypes := #[t, k] })
    {e : TypeId} {b c : Nat} {f : Int → Option Value} (hm : a.eval m = .map (some b)) (h : MapAt P k w b c f) (hk : P.underlying k = some (.int .i64)) (ht : P.underlying t = some (.map k e)) (i : Int) (hi : -9223372036854775808 ≤ i ∧ i ≤ 9223372036854775807)
    (hx : a.eval x = .int .i64 i)
    (hK : ∀ w', MapAt P k w' b (if (f i).isSome then c - 1 else c) (upd f i none) → Fr (fun j => j = b) w w' → wpList P ops Q rest (a.put o.dst (.tuple #[])) w') :
    wpList P ops Q (o :: rest) a w := by
  refine wpList_plain hg fun K' hK' => ?_
  obtain ⟨w', hrun, r1, r2⟩ := h.del hk ht i hi o.type
  unfold Oper.wp
  simp [execOp, hop, resolve, invoke, builtin, hm, hx, hrun, Result.andThen]
  exact hK' _ _ (hK w' r1 r2)
end Go.Proofs.YtpcikbloflpahaaDoor
