/-
  Chapter 7: a map ranged over while keys go; blank; Path.
-/
import Derived.Test.YtpcikbloflpahaaDoorZPn7
namespace Go.Proofs.YtpcikbloflpahaaDoor
set_option linter.unusedVariables false
set_option linter.unusedSimpArgs false
open Go.RowKit Go.Shelf Go.Maps

/-- Block r is an iterator over the map f at block b, which holds c keys now; left: which keys are still to come. -/
def RgC (P : Program) (k : TypeId) (w : World) (b r c : Nat) (f : Int → Option Value) (left : Int → Bool) (cnt : Nat) : Prop :=
  ∃ n D L, w.ranges P k Rv b r n D L cnt ∧ Maps.size D = c ∧ Agr D f ∧ ∀ i, L (kI i) = left i
section
variable {P : Program} {k : TypeId} {w : World} {b r c : Nat} {f : Int → Option Value} {left : Int → Bool} {cnt : Nat}
theorem RgC.map (h : RgC P k w b r c f left cnt) : MapAt P k w b c f := by
  obtain ⟨n, D, L, h, hn, ha, -⟩ := h
  have := ownsMap_size h.owns
  rw [hn] at this
  exact ⟨D, this, hn, ha⟩
theorem RgC.fr {S : Nat → Prop} {w' : World} (h : RgC P k w b r c f left cnt) (hF : Fr S w w') (hb : ¬ S b) (hr : ¬ S r) : RgC P k w' b r c f left cnt := by
  obtain ⟨n, D, L, h, h2⟩ := h
  refine ⟨n, D, L, ?_, h2⟩
  obtain ⟨es, clock, since, seen, c0, q1, q2, q3, q4, q5, q6⟩ := h
  exact ⟨es, clock, since, seen, c0, hF.heap q1 hb, q2, q3, q4, hF.heap q5 hr, q6⟩
theorem RgC.lt (h : RgC P k w b r c f left cnt) : r < w.heap.size := by obtain ⟨n, D, L, h, -⟩ := h; exact h.lt
theorem RgC.left_eq (h : RgC P k w b r c f left cnt) : w.rangeLeft b r = cnt := by obtain ⟨n, D, L, h, -⟩ := h; exact h.left_eq
theorem RgC.of {c0 : Nat} (h : RgAt P k w b r f left cnt) (hm : MapAt P k w b c0 f) : ∃ c1, RgC P k w b r c1 f left cnt := by
  obtain ⟨n, D, L, h, hn, ha, hl⟩ := h
  exact ⟨n, n, D, L, h, hn.symm, ha, hl⟩
theorem RgC.nxt (h : RgC P k w b r c f left cnt) (hk : P.underlying k = some (.int .i64)) (ty : TypeId) :
    (cnt = 0 ∧ (∀ i, left i = false) ∧ (Instr.next (.pointer (some ⟨r, 0, none⟩)) false ty).run P w = .ok (.tuple #[.bool false]) w) ∨
    ∃ i v w' cnt', left i = true ∧ f i = some v ∧ (Instr.next (.pointer (some ⟨r, 0, none⟩)) false ty).run P w = .ok (.tuple #[.bool true, .int .i64 i, v]) w' ∧
      RgC P k w' b r c f (fun j => left j && !decide (j = i)) cnt' ∧ cnt' < cnt ∧ Fr (fun j => j = r) w w' ∧ w'.heap.size = w.heap.size ∧ (Instr.entry (.pointer (some ⟨r, 0, none⟩))).run P w' = .ok (.tuple #[.int .i64 i, v]) w' := by
  obtain ⟨n, D, L, h, hn, ha, hl⟩ := h
  rcases h.next (int_keyed hk) ty with ⟨h0, h1, hrun⟩ | ⟨key, v, kl, y, w', cnt', hkey, hlk, hv, hat, hrun, hrg, hlt, hgr, hsz, hen⟩
  · exact .inl ⟨h0, fun i => by rw [← hl]; exact h1 _, hrun⟩
  · obtain ⟨i, rfl, rfl, hwf⟩ := Maps.keyOf_int_inv hk hkey
    have hf : f i = some v := by
      have h2 := (ha i).2
      unfold Rv at hv
      injection hv with hv
      subst hv
      have e1 : ∀ zd : DataW Value, (match f i with | some v => DataW.held v | none => zd) = .held v := fun zd => (h2 zd).symm.trans (hat zd)
      cases hq : f i with
      | none =>
        rw [hq] at e1
        exact absurd (e1 (.lit (.int .i64 0))) (by simp)
      | some u =>
        rw [hq] at e1
        have := e1 (.lit (.int .i64 0))
        simp at this
        rw [this]
    refine .inr ⟨i, v, w', cnt', by rw [← hl]; exact hlk, hf, hrun, ⟨n, D, _, hrg, hn, ha, fun j => ?_⟩, hlt, (Fr.refl _ w).grown hgr (fun q e _ => by injection e with e; exact e.symm), hsz, hen⟩
    show (L (kI j) && !(kI j).sameKey (.int .i64 i)) = _
    rw [hl]
    congr 2
    by_cases e : j = i
    · subst e
      rw [decide_eq_true rfl]
      exact WideAt.sameKey_self (kI_key j)
    · rw [decide_eq_false e]
      cases hs : (kI j).sameKey (.int .i64 i)
      · rfl
      · exact absurd (WideAt.sameKey_eq hs) (kI_ne e)
theorem RgC.del {t e : TypeId} (h : RgC P k w b r c f left cnt) (hk : P.underlying k = some (.int .i64)) (ht : P.underlying t = some (.map k e)) (i : Int) (hi : -9223372036854775808 ≤ i ∧ i ≤ 9223372036854775807) (hli : left i = false) (ty : TypeId) :
    ∃ w' cnt', (Builtin.delete_ #[t, k] ty #[.map (some b), .int .i64 i]).run P w = .ok (.tuple #[]) w' ∧ RgC P k w' b r (if (f i).isSome then c - 1 else c) (upd f i none) left cnt' ∧ cnt' ≤ cnt ∧ Fr (fun j => j = b) w w' := by
  obtain ⟨n, D, L, h, hn, ha, hl⟩ := h
  have hw : (Lit.int .i64 i).wf = true := by simp only [Lit.wf, Bool.and_eq_true, decide_eq_true_eq]; exact hi
  have hkey := keyOf_int_mk (P := P) hk hw
  obtain ⟨w', cnt', hrun, h1, h2, h3⟩ := h.drop (int_keyed hk) ht hkey ty
  have hT := h.owns.tidy (int_keyed hk)
  have hM := h.owns.isMap
  have hsz := size_del (k := kI i) hT
  rw [(ha i).1, hn] at hsz
  have hs2 : Maps.size (D.del (kI i)) = if (f i).isSome then c - 1 else c := by
    cases hf : (f i).isSome <;> rw [hf] at hsz <;> simp at hsz ⊢ <;> omega
  refine ⟨w', cnt', hrun, ⟨n, D.del (kI i), _, h1, hs2, fun j => ?_, fun j => ?_⟩, h2, turned_fr h3⟩
  · by_cases e : j = i
    · subst e
      rw [upd_same]
      exact ⟨has_del_same, fun zd => atKey_del_same zd⟩
    · rw [upd_ne f _ e]
      exact ⟨(has_del_other (kI_ne e)).trans (ha j).1, fun zd => (atKey_del_other (kI_ne e) zd).trans ((ha j).2 zd)⟩
  · show (L (kI j) && !(kI j).sameKey (kI i)) = left j
    rw [hl]
    by_cases e : j = i
    · subst e; rw [hli]; rfl
    · cases hs : (kI j).sameKey (kI i)
      · simp
      · exact absurd (WideAt.sameKey_eq hs) (kI_ne e)
end
theorem rgc_next {P : Program} {w : World} {ops : Array Oper} {rest : List Oper} {o : Oper} {a : Act} {Q : Exit → Act → World → Prop} (hg : o.guard = none) (it : Operand) (hop : o.op = Op.next it false)
    {k : TypeId} {b r c cnt : Nat} {f : Int → Option Value} {left : Int → Bool} (hit : a.eval it = .pointer (some ⟨r, 0, none⟩)) (h : RgC P k w b r c f left cnt) (hk : P.underlying k = some (.int .i64))
    (hDone : cnt = 0 → (∀ i, left i = false) → wpList P ops Q rest (a.put o.dst (.tuple #[.bool false])) w)
    (hMore : ∀ i v w' cnt', left i = true → f i = some v → RgC P k w' b r c f (fun j => left j && !decide (j = i)) cnt' → cnt' < cnt → Fr (fun j => j = r) w w' → w'.heap.size = w.heap.size → (Instr.entry (.pointer (some ⟨r, 0, none⟩))).run P w' = .ok (.tuple #[.int .i64 i, v]) w' →
      wpList P ops Q rest (a.put o.dst (.tuple #[.bool true, .int .i64 i, v])) w') : wpList P ops Q (o :: rest) a w := by
  refine wpList_plain hg fun K' hK' => ?_
  unfold Oper.wp
  rcases h.nxt hk o.type with ⟨h0, hl, hrun⟩ | ⟨i, v, w', cnt', h1, h2, hrun, h3, h4, h5, h6, h7⟩
  · simp [execOp, hop, hit, hrun, Result.andThen]
    exact hK' _ _ (hDone h0 hl)
  · simp [execOp, hop, hit, hrun, Result.andThen]
    exact hK' _ _ (hMore i v w' cnt' h1 h2 h3 h4 h5 h6 h7)
theorem rgc_del {P : Program} {w : World} {ops : Array Oper} {rest : List Oper} {o : Oper} {a : Act} {Q : Exit → Act → World → Prop} (hg : o.guard = none) (m x : Operand) (t k : TypeId) (hop : o.op = Op.call { callee := Callee.builtin Builtin.delete, args := #[m, x], argTypes := #[t, k] })
    {e : TypeId} {b r c cnt : Nat} {f : Int → Option Value} {left : Int → Bool} (hm : a.eval m = .map (some b)) (h : RgC P k w b r c f left cnt) (hk : P.underlying k = some (.int .i64)) (ht : P.underlying t = some (.map k e)) (i : Int) (hi : -9223372036854775808 ≤ i ∧ i ≤ 9223372036854775807) (hli : left i = false)
    (hx : a.eval x = .int .i64 i)
    (hK : ∀ w' cnt', RgC P k w' b r (if (f i).isSome then c - 1 else c) (upd f i none) left cnt' → cnt' ≤ cnt → Fr (fun j => j = b) w w' → wpList P ops Q rest (a.put o.dst (.tuple #[])) w') :
    wpList P ops Q (o :: rest) a w := by
  refine wpList_plain hg fun K' hK' => ?_
  obtain ⟨w', cnt', hrun, r1, r2, r3⟩ := h.del hk ht i hi hli o.type
  unfold Oper.wp
  simp [execOp, hop, resolve, invoke, builtin, hm, hx, hrun, Result.andThen]
  exact hK' _ _ (hK w' cnt' r1 r2 r3)
/-- Whether bytes are all noughts. -/
def blankB (l : List Int) : Bool := l.all (· == 0)
set_option maxHeartbeats 1000000 in
set_option maxRecDepth 1000000 in
theorem blank_yes (v : Value) (l : List Int) (w : World) (hlen : l.length ≤ 140737488355328) (hz : ∀ b ∈ l, b = 0) (hv : Sl w v l.length (bys l)) :
    Calls Tryd.prog 59 #[v] w fun e w' => e = .returned (.bool true) ∧ w = w' := by
  obtain ⟨av, cv, rfl⟩ := hv.form
  have HV := Lib.hid hv
  have HZ := Lib.hid hz
  clear hv hz
  go_enter Tryd.func59, Tryd.ntmps59
  go_wp2_with fail
  go_loopw [7] (fun i wr => ∃ (j : Nat), j ≤ l.length ∧ i = .int .i64 j ∧ w = wr) (fun i _ => l.length - (intOf i).toNat)
  case atStart => exact ⟨0, Nat.zero_le _, rfl, rfl⟩
  case round =>
    obtain ⟨j, hj, rfl, rfl⟩ := hrel
    by_cases hlt : j < l.length
    · obtain ⟨b, off, rfl, hb, hc⟩ := HV.out.at (bys_ne l 0 (by omega))
      have hx : l[j] = 0 := HZ.out _ (List.getElem_mem hlt)
      have hcj := hc _ _ (bys_get l j hlt)
      rw [hx] at hcj
      have dj : decide ((j : Int) < (l.length : Int)) = true := decide_eq_true (by omega)
      clear hc hx
      go_wp2
      exact ⟨⟨j + 1, by omega, by go_num, by first | rfl | trivial⟩, by simp [intOf]; omega⟩
    · obtain rfl : j = l.length := by omega
      go_wp2
      go_ret
      exact ⟨rfl, rfl⟩
theorem blankg_calls (v : Value) (l : List Int) (w : World) (hlen : l.length ≤ 140737488355328) (hv : Sl w v l.length (bys l)) :
    Calls Tryd.prog 59 #[v] w fun e w' => e = .returned (.bool (blankB l)) ∧ w = w' := by
  by_cases h : ∀ b ∈ l, b = 0
  · have : blankB l = true := by simpa [blankB] using h
    rw [this]; exact blank_yes v l w hlen h hv
  · have : blankB l = false := by simpa [blankB] using h
    rw [this]; exact blank_no v l w hlen (by simpa using h) hv
end Go.Proofs.YtpcikbloflpahaaDoor
namespace Go.Proofs.YtpcikbloflpahaaDoor
set_option linter.unusedVariables false
set_option linter.unusedSimpArgs false
open Go.RowKit Go.Shelf Go.Maps

/-- A node as shadow reads it: none's is empty. -/
def rdN (B : List Int) (n : Int) : List Int := if n = 0 then nd0 else ndB B n.toNat
theorem rdN_len (B : List Int) (n : Int) : (rdN B n).length = 32 := by
  unfold rdN; split
  · exact nd0_len
  · exact ndB_len _ _
def ndV (l : List Int) : Value := .agg (nds l).toArray
abbrev LfF := Int → Option (List Int)
/-- A leaf as planned so far. -/
def leafG7 (F : LfF) (B tn : List Int) (i : Int) : List Int := (F i).getD (rdN B (tn.getD i.toNat 0))
/-- One page's change. -/
def stepL (B tn : List Int) (F : LfF) (c : Chg) : LfF := fun i => if i = c.1 / 32 then some ((leafG7 F B tn (c.1 / 32)).set (c.1 % 32).toNat (if blankB c.2 then 0 else -1)) else F i
def plnF (B tn : List Int) (cs : List Chg) : LfF := cs.foldl (stepL B tn) (fun _ => none)
theorem plnF_snoc (B tn : List Int) (cs : List Chg) (c : Chg) : plnF B tn (cs ++ [c]) = stepL B tn (plnF B tn cs) c := by simp [plnF]
/-- Pages that aren't noughts. -/
def fullC (cs : List Chg) : List Chg := cs.filter fun c => !blankB c.2
theorem fullC_snoc (cs : List Chg) (c : Chg) : fullC (cs ++ [c]) = fullC cs ++ (if blankB c.2 then [] else [c]) := by
  unfold fullC
  rw [List.filter_append]
  congr 1
  by_cases h : blankB c.2 = true
  · simp [h]
  · simp [h]
def okF (F : LfF) : Prop := ∀ i l, F i = some l → 0 ≤ i ∧ i < 4 ∧ l.length = 32
def one4 (F : LfF) (i : Int) : Nat := if (F i).isSome then 1 else 0
def cnt4 (F : LfF) : Nat := one4 F 0 + one4 F 1 + one4 F 2 + one4 F 3
def mpF (F : LfF) : Int → Option Value := fun i => (F i).map ndV
theorem leafG7_len {F : LfF} (h : okF F) (B tn : List Int) (i : Int) : (leafG7 F B tn i).length = 32 := by
  unfold leafG7
  cases hq : F i with
  | none => exact rdN_len _ _
  | some l => exact (h i l hq).2.2
theorem stepL_ok {F : LfF} (h : okF F) (B tn : List Int) (c : Chg) (hc : 0 ≤ c.1 ∧ c.1 < 128) : okF (stepL B tn F c) := by
  intro i l hl
  unfold stepL at hl
  split at hl
  · next e => injection hl with hl; subst hl; exact ⟨by omega, by omega, by rw [List.length_set]; exact leafG7_len h _ _ _⟩
  · exact h i l hl
theorem plnF_ok (B tn : List Int) (cs : List Chg) (hc : ∀ c ∈ cs, 0 ≤ c.1 ∧ c.1 < 128) : okF (plnF B tn cs) := by
  suffices ∀ n ≤ cs.length, okF (plnF B tn (cs.take n)) by
    have := this cs.length (Nat.le_refl _); rwa [List.take_length] at this
  intro n
  induction n with
  | zero => intro _ i l h; simp [plnF] at h
  | succ n ih =>
    intro hn
    rw [List.take_succ_eq_append_getElem (by omega), plnF_snoc]
    exact stepL_ok (ih (by omega)) _ _ _ (hc _ (List.getElem_mem _))
theorem mpF_step (B tn : List Int) (F : LfF) (c : Chg) : upd (mpF F) (c.1 / 32) (some (ndV ((leafG7 F B tn (c.1 / 32)).set (c.1 % 32).toNat (if blankB c.2 then 0 else -1)))) = mpF (stepL B tn F c) := by
  funext i
  unfold upd mpF stepL
  split <;> rfl
theorem cnt4_step (B tn : List Int) (F : LfF) (c : Chg) (hc : 0 ≤ c.1 ∧ c.1 < 128) : cnt4 (stepL B tn F c) = if (F (c.1 / 32)).isSome then cnt4 F else cnt4 F + 1 := by
  have h : ∀ i, one4 (stepL B tn F c) i = if i = c.1 / 32 then 1 else one4 F i := fun i => by
    unfold one4 stepL
    by_cases e : i = c.1 / 32
    · rw [if_pos e, if_pos e]; rfl
    · rw [if_neg e, if_neg e]
  have ho : one4 F (c.1 / 32) = if (F (c.1 / 32)).isSome then 1 else 0 := rfl
  unfold cnt4
  rw [h, h, h, h]
  have hd : c.1 / 32 = 0 ∨ c.1 / 32 = 1 ∨ c.1 / 32 = 2 ∨ c.1 / 32 = 3 := by omega
  rcases hd with e | e | e | e
  all_goals (
    rw [e] at ho ⊢
    split at ho
    · next hq => simp [hq]; omega
    · next hq => simp [hq]; omega)
theorem cnt4_le (F : LfF) : cnt4 F ≤ 4 := by
  have h : ∀ i, one4 F i ≤ 1 := fun i => by unfold one4; split <;> omega
  have := h 0; have := h 1; have := h 2; have := h 3
  unfold cnt4; omega
/-- What remains of the leaves, what the top is then. -/
def keepF (F : LfF) : LfF := fun i => (F i).bind fun l => if l = nd0 then none else some l
def topF (tn : List Int) (F : LfF) : List Int := (List.range 32).map fun (k : Nat) => match F (k : Int) with | none => tn.getD k 0 | some l => if l = nd0 then 0 else -1
theorem topF_len (tn : List Int) (F : LfF) : (topF tn F).length = 32 := by simp [topF]
/-- Behind some of the second loop's rounds: which leaves were seen. -/
def keepV (F : LfF) (left : Int → Bool) : LfF := fun i => if left i then F i else keepF F i
def topV (tn : List Int) (F : LfF) (left : Int → Bool) : List Int := (List.range 32).map fun (k : Nat) => if left (k : Int) then tn.getD k 0 else match F (k : Int) with | none => tn.getD k 0 | some l => if l = nd0 then 0 else -1
theorem topV_len (tn : List Int) (F : LfF) (left : Int → Bool) : (topV tn F left).length = 32 := by simp [topV]
theorem topV_start (tn : List Int) (F : LfF) (h : tn.length = 32) : topV tn F (fun i => (F i).isSome) = tn := by
  apply List.ext_getElem
  · rw [topV_len, h]
  · intro k h1 h2
    simp only [topV, List.getElem_map, List.getElem_range]
    have e : tn[k]?.getD 0 = tn[k] := by rw [List.getElem?_eq_getElem h2]; rfl
    cases hq : F (k : Int) with
    | none => simpa [hq] using e
    | some l => simpa [hq] using e
theorem keepV_start (F : LfF) : keepV F (fun i => (F i).isSome) = F := by
  funext i
  unfold keepV keepF
  cases hq : F i <;> simp [hq]
theorem topV_end (tn : List Int) (F : LfF) (left : Int → Bool) (h : ∀ i, left i = false) : topV tn F left = topF tn F := by
  unfold topV topF
  apply List.map_congr_left
  intro k _
  rw [h]; rfl
theorem keepV_end (F : LfF) (left : Int → Bool) (h : ∀ i, left i = false) : keepV F left = keepF F := by
  funext i; unfold keepV; rw [h]; rfl
theorem topV_step (tn : List Int) (F : LfF) (left : Int → Bool) (i : Nat) (hi : i < 32) (l : List Int) (hl : F i = some l) (hL : left i = true) :
    (topV tn F left).set i (if l = nd0 then 0 else -1) = topV tn F (fun j => left j && !decide (j = (i : Int))) := by
  apply List.ext_getElem
  · simp [topV]
  · intro k h1 h2
    rw [List.getElem_set]
    simp only [topV, List.getElem_map, List.getElem_range]
    by_cases e : i = k
    · subst e
      rw [if_pos rfl, hL, hl]
      simp
    · rw [if_neg e]
      have : decide ((k : Int) = (i : Int)) = false := decide_eq_false (by omega)
      rw [this]
      simp
theorem keepV_del {F : LfF} {left : Int → Bool} {i : Int} (hl : F i = some nd0) : upd (mpF (keepV F left)) i none = mpF (keepV F (fun j => left j && !decide (j = i))) := by
  funext j
  unfold upd mpF keepV
  by_cases e : j = i
  · subst e
    rw [if_pos rfl]
    simp [keepF, hl]
  · rw [if_neg e]
    have : decide (j = i) = false := decide_eq_false e
    simp only [this, Bool.not_false, Bool.and_true]
theorem keepV_stay {F : LfF} {left : Int → Bool} {i : Int} {l : List Int} (hl : F i = some l) (hn : l ≠ nd0) : keepV F left = keepV F (fun j => left j && !decide (j = i)) := by
  funext j
  unfold keepV
  by_cases e : j = i
  · subst e
    simp [keepF, hl, hn]
  · have : decide (j = i) = false := decide_eq_false e
    simp only [this, Bool.not_false, Bool.and_true]
end Go.Proofs.YtpcikbloflpahaaDoor
namespace Go.Proofs.YtpcikbloflpahaaDoor
set_option linter.unusedVariables false
set_option linter.unusedSimpArgs false
open Go.RowKit Go.Shelf Go.Maps

theorem fold_prefix_some {α β : Type} (f : Option β → α → Option β) (hf : ∀ x, f none x = none) {xs ys : List α} (h : xs <+: ys) (o : Option β) {s : β} (hs : ys.foldl f o = some s) : ∃ s', xs.foldl f o = some s' := by
  cases hq : xs.foldl f o with
  | none => rw [fold_prefix_none f hf h o hq] at hs; cases hs
  | some s' => exact ⟨s', rfl⟩
theorem tree_top {B : List Int} {N : Nat} {top : Int} {s : List (Int × Int)} (h : treeB B N top = some s) (hz : top ≠ 0) : 2 ≤ top ∧ top < (N : Int) := by
  unfold treeB treeS at h
  rw [if_neg hz] at h
  by_cases hok : okM N [] top
  · exact ⟨hok.1, hok.2.1⟩
  · rw [metS_bad hok, fold_leafS_none] at h; cases h
theorem tree_leaf {B : List Int} {N : Nat} {top : Int} {s : List (Int × Int)} (h : treeB B N top = some s) (k : Nat) (hk : k < 32) : (rdN B top).getD k 0 = 0 ∨ (k < 4 ∧ 2 ≤ (rdN B top).getD k 0 ∧ (rdN B top).getD k 0 < (N : Int)) := by
  by_cases hz : top = 0
  · left
    unfold rdN
    rw [if_pos hz, List.getD_eq_getElem?_getD, nd0, List.getElem?_replicate]
    split <;> rfl
  by_cases hv : (rdN B top).getD k 0 = 0
  · exact .inl hv
  right
  unfold treeB treeS at h
  rw [if_neg hz] at h
  have hrd : rdN B top = ndB B top.toNat := by unfold rdN; rw [if_neg hz]
  rw [hrd] at hv ⊢
  have hsn := entsF_succ (ndB B top.toNat) k
  rw [if_neg hv] at hsn
  have hpx := entsF_prefix (ndB B top.toNat) (k + 1) (32 - (k + 1))
  rw [show k + 1 + (32 - (k + 1)) = 32 from by omega] at hpx
  obtain ⟨s1, h1⟩ := fold_prefix_some _ (leafS_none _ N) hpx _ h
  rw [hsn, List.foldl_append] at h1
  rw [List.foldl_cons, List.foldl_nil] at h1
  generalize (entsF (ndB B top.toNat) k).foldl (leafS (fun n => ndB B n.toNat) N) (metS N (some []) top (-1)) = o at h1
  cases o with
  | none => rw [leafS_none] at h1; cases h1
  | some s2 =>
    unfold leafS at h1
    split at h1
    · next h4 =>
      by_cases hok : okM N s2 ((ndB B top.toNat).getD k 0)
      · exact ⟨h4, hok.1, hok.2.1⟩
      · rw [metS_bad hok, fold_metS_none] at h1; cases h1
    · cases h1

set_option maxRecDepth 1000000 in
theorem built_plan32 (lm : Nat) (old : Int) (sm : Bool) (a0 a1 a2 a3 a4 a5 a6 a7 a8 a9 a10 a11 a12 a13 a14 a15 a16 a17 a18 a19 a20 a21 a22 a23 a24 a25 a26 a27 a28 a29 a30 a31 : Int) : Tryd.prog.built 129 [(1, .agg (nds [a0, a1, a2, a3, a4, a5, a6, a7, a8, a9, a10, a11, a12, a13, a14, a15, a16, a17, a18, a19, a20, a21, a22, a23, a24, a25, a26, a27, a28, a29, a30, a31]).toArray), (2, .map (some lm)), (3, .int .i64 old), (4, .bool sm)] = some (PlC (.slice none 0 0) [a0, a1, a2, a3, a4, a5, a6, a7, a8, a9, a10, a11, a12, a13, a14, a15, a16, a17, a18, a19, a20, a21, a22, a23, a24, a25, a26, a27, a28, a29, a30, a31] lm old sm).toArray := by kernel_rfl
theorem built_plang (lm : Nat) (tn : List Int) (hl : tn.length = 32) (old : Int) (sm : Bool) : Tryd.prog.built 129 [(1, .agg (nds tn).toArray), (2, .map (some lm)), (3, .int .i64 old), (4, .bool sm)] = some (PlC (.slice none 0 0) tn lm old sm).toArray := by
  match tn, hl with
  | [a0, a1, a2, a3, a4, a5, a6, a7, a8, a9, a10, a11, a12, a13, a14, a15, a16, a17, a18, a19, a20, a21, a22, a23, a24, a25, a26, a27, a28, a29, a30, a31], _ => exact built_plan32 lm old sm a0 a1 a2 a3 a4 a5 a6 a7 a8 a9 a10 a11 a12 a13 a14 a15 a16 a17 a18 a19 a20 a21 a22 a23 a24 a25 a26 a27 a28 a29 a30 a31
theorem build_plang {ops : Array Oper} {rest : List Oper} {o : Oper} {a : Act} {w : World} {Q : Exit → Act → World → Prop} (hg : o.guard = none) (x1 x2 x3 x4 : Operand) (ho : o.op = .build 129 #[(1, x1), (2, x2), (3, x3), (4, x4)]) (lm : Nat) (tn : List Int) (hl : tn.length = 32) (old : Int) (sm : Bool) (h1 : a.eval x1 = .agg (nds tn).toArray) (h2 : a.eval x2 = .map (some lm)) (h3 : a.eval x3 = .int .i64 old) (h4 : a.eval x4 = .bool sm)
    (hK : wpList Tryd.prog ops Q rest (a.put o.dst (.agg (PlC (.slice none 0 0) tn lm old sm).toArray)) w) : wpList Tryd.prog ops Q (o :: rest) a w := by
  have hr : (Instr.build 129 #[(1, .agg (nds tn).toArray), (2, .map (some lm)), (3, .int .i64 old), (4, .bool sm)]).run Tryd.prog w = .ok (.agg (PlC (.slice none 0 0) tn lm old sm).toArray) w := run_build w _ _ _ (built_plang lm tn hl old sm)
  refine wpList_plain hg fun K' hK' => ?_
  unfold Oper.wp
  have hm : (#[((1 : Nat), x1), (2, x2), (3, x3), (4, x4)] : Array (Nat × Operand)).map (fun x => (x.1, a.eval x.2)) = #[(1, a.eval x1), (2, a.eval x2), (3, a.eval x3), (4, a.eval x4)] := by simp
  simp only [execOp, ho, Sem.run_bind, hm, h1, h2, h3, h4, hr, Result.andThen]
  exact hK' _ _ hK
theorem sreadn_calls {w : World} {db : Nat} {A : Nat → Prop} {acts N : Nat} {B : List Int} (h : DkR w db A acts N B) (n : Int) (hn : n = 0 ∨ 2 ≤ n ∧ n < (N : Int)) :
    Calls Tryd.prog 58 #[.pointer (some ⟨db, 0, none⟩), .int .i64 n] w fun e w' => e = .returned (.agg (nds (rdN B n)).toArray) ∧ Fr No w w' := by
  rcases hn with rfl | hn
  · exact sread0_calls _ _
  · have e : ((n.toNat : Nat) : Int) = n := by omega
    have := sreadg_calls h n.toNat (by omega) (by omega)
    rw [e] at this
    unfold rdN
    rw [if_neg (by omega)]
    exact this

/-- A plan, in blocks from n on: the pages that have something, the leaves, the top. -/
structure PlG (n : Nat) (wx : World) (pb lm : Nat) (tn : List Int) (F : LfF) (old : Int) (sm : Bool) (ps : List Chg) : Prop where
  box : ∃ pv vs, wx.heap[pb]? = some (.cells (PlC pv tn lm old sm).toArray 129 (0, 0)) ∧ wx.ownsRow n 32 2 pv ps.length (chgCells vs) ∧ ChV n ps vs wx
  map : MapAt Tryd.prog 3 wx lm (cnt4 F) (mpF F)
  n1 : n ≤ pb
  n2 : n ≤ lm
  len : tn.length = 32
/-- How planned ends. -/
def PlanQ (w : World) (B : List Int) (N : Nat) (top : Int) (L : List ChA) (e : Ending) (w' : World) : Prop :=
  Fr No w w' ∧
  (((∃ y ∈ L, ¬ goodC y) ∧ e = .panicked [{ v := .iface 122 (.agg #[.int .i64 1]), recovered := false }]) ∨
   ((∀ y ∈ L, goodC y) ∧ treeB B N top = none ∧ e = .panicked [{ v := .iface 122 (.agg #[.int .i64 60]), recovered := false }]) ∨
   ((∀ y ∈ L, goodC y) ∧ (∃ s, treeB B N top = some s) ∧ ∃ pb lm, e = .returned (.pointer (some ⟨pb, 0, none⟩)) ∧
     PlG w.heap.size w' pb lm (topF (rdN B top) (plnF B (rdN B top) (outG (pagesG L 128)))) (keepF (plnF B (rdN B top) (outG (pagesG L 128)))) top (decide (outG (pagesG L 128) = [])) (fullC (outG (pagesG L 128)))))
theorem pagesG_good {L : List ChA} (hg : ∀ y ∈ L, goodC y) : ∀ n : Nat, n ≤ 128 → ∀ y ∈ pagesG L n, goodC y := by
  intro n
  induction n with
  | zero => intro _ y hy; simp [pagesG] at hy
  | succ n ih =>
    intro hn y hy
    rw [pagesG, List.mem_append] at hy
    rcases hy with hy | hy
    · exact ih (by omega) y hy
    · split at hy
      · next b hb => simp at hy; subst hy; exact hg _ (lastG_mem hb)
      · simp at hy
theorem outG_good {L : List ChA} (hg : ∀ y ∈ L, goodC y) : ∀ c ∈ outG (pagesG L 128), 0 ≤ c.1 ∧ c.1 < 128 ∧ c.2.length = 64 := by
  intro c hc
  simp only [outG, List.mem_map] at hc
  obtain ⟨y, hy, rfl⟩ := hc
  exact pagesG_good hg 128 (Nat.le_refl _) y hy
end Go.Proofs.YtpcikbloflpahaaDoor
