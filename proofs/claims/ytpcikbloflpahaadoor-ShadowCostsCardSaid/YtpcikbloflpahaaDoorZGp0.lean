/-
  Chapter 7: a map ranged over while keys go; blank; Path.
-/
import Derived.Test.YtpcikbloflpahaaDoorZPn7
namespace Go.Proofs.YtpcikbloflpahaaDoor
set_option linter.unusedVariables false
set_option linter.unusedSimpArgs false
open Go.RowKit Go.Shelf Go.Maps

/-- Block r is an iterator over the map f at block b, which holds c keys now; left: which keys are still to come. -/
def RgC (P : Program) (k : TypeId) (w : World) (b r c : Nat) (f : Int → Option Value) (left : Int → Bool) (cnt : Nat) : Prop :=
  ∃ n D L, w.ranges P k Rv b r n D L cnt ∧ Maps.size D = c ∧ Agr D f ∧ ∀ i, L (kI i) = left i
section
variable {P : Program} {k : TypeId} {w : World} {b r c : Nat} {f : Int → Option Value} {left : Int → Bool} {cnt : Nat}
theorem RgC.map (h : RgC P k w b r c f left cnt) : MapAt P k w b c f := by
  obtain ⟨n, D, L, h, hn, ha, -⟩ := h
  have := ownsMap_size h.owns
  rw [hn] at this
  exact ⟨D, this, hn, ha⟩
theorem RgC.fr {S : Nat → Prop} {w' : World} (h : RgC P k w b r c f left cnt) (hF : Fr S w w') (hb : ¬ S b) (hr : ¬ S r) : RgC P k w' b r c f left cnt := by
  obtain ⟨n, D, L, h, h2⟩ := h
  refine ⟨n, D, L, ?_, h2⟩
  obtain ⟨es, clock, since, seen, c0, q1, q2, q3, q4, q5, q6⟩ := h
  exact ⟨es, clock, since, seen, c0, hF.heap q1 hb, q2, q3, q4, hF.heap q5 hr, q6⟩
theorem RgC.lt (h : RgC P k w b r c f left cnt) : r < w.heap.size := by obtain ⟨n, D, L, h, -⟩ := h; exact h.lt
theorem RgC.left_eq (h : RgC P k w b r c f left cnt) : w.rangeLeft b r = cnt := by obtain ⟨n, D, L, h, -⟩ := h; exact h.left_eq
theorem RgC.of {c0 : Nat} (h : RgAt P k w b r f left cnt) (hm : MapAt P k w b c0 f) : ∃ c1, RgC P k w b r c1 f left cnt := by
  obtain ⟨n, D, L, h, hn, ha, hl⟩ := h
  exact ⟨n, n, D, L, h, hn.symm, ha, hl⟩
theorem RgC.nxt (h : RgC P k w b r c f left cnt) (hk : P.underlying k = some (.int .i64)) (ty : TypeId) :
    (cnt = 0 ∧ (∀ i, left i = false) ∧ (Instr.next (.pointer (some ⟨r, 0, none⟩)) false ty).run P w = .ok (.tuple #[.bool false]) w) ∨
    ∃ i v w' cnt', left i = true ∧ f i = some v ∧ (Instr.next (.pointer (some ⟨r, 0, none⟩)) false ty).run P w = .ok (.tuple #[.bool true, .int .i64 i, v]) w' ∧
      RgC P k w' b r c f (fun j => left j && !decide (j = i)) cnt' ∧ cnt' < cnt ∧ Fr (fun j => j = r) w w' ∧ w'.heap.size = w.heap.size ∧ (Instr.entry (.pointer (some ⟨r, 0, none⟩))).run P w' = .ok (.tuple #[.int .i64 i, v]) w' := by
  obtain ⟨n, D, L, h, hn, ha, hl⟩ := h
  rcases h.next (int_keyed hk) ty with ⟨h0, h1, hrun⟩ | ⟨key, v, kl, y, w', cnt', hkey, hlk, hv, hat, hrun, hrg, hlt, hgr, hsz, hen⟩
  · exact .inl ⟨h0, fun i => by rw [← hl]; exact h1 _, hrun⟩
  · obtain ⟨i, rfl, rfl, hwf⟩ := Maps.keyOf_int_inv hk hkey
    have hf : f i = some v := by
      have h2 := (ha i).2
      unfold Rv at hv
      injection hv with hv
      subst hv
      have e1 : ∀ zd : DataW Value, (match f i with | some v => DataW.held v | none => zd) = .held v := fun zd => (h2 zd).symm.trans (hat zd)
      cases hq : f i with
      | none =>
        rw [hq] at e1
        exact absurd (e1 (.lit (.int .i64 0))) (by simp)
      | some u =>
        rw [hq] at e1
        have := e1 (.lit (.int .i64 0))
        simp at this
        rw [this]
    refine .inr ⟨i, v, w', cnt', by rw [← hl]; exact hlk, hf, hrun, ⟨n, D, _, hrg, hn, ha, fun j => ?_⟩, hlt, (Fr.refl _ w).grown hgr (fun q e _ => by injection e with e; exact e.symm), hsz, hen⟩
    show (L (kI j) && !(kI j).sameKey (.int .i64 i)) = _
    rw [hl]
    congr 2
    by_cases e : j = i
    · subst e
      rw [decide_eq_true rfl]
      exact WideAt.sameKey_self (kI_key j)
    · rw [decide_eq_false e]
      cases hs : (kI j).sameKey (.int .i64 i)
      · rfl
      · exact absurd (WideAt.sameKey_eq hs) (kI_ne e)
theorem RgC.del {t e : TypeId} (h : RgC P k w b r c f left cnt) (hk : P.underlying k = some (.int .i64)) (ht : P.underlying t = some (.map k e)) (i : Int) (hi : -9223372036854775808 ≤ i ∧ i ≤ 9223372036854775807) (hli : left i = false) (ty : TypeId) :
    ∃ w' cnt', (Builtin.delete_ #[t, k] ty #[.map (some b), .int .i64 i]).run P w = .ok (.tuple #[]) w' ∧ RgC P k w' b r (if (f i).isSome then c - 1 else c) (upd f i none) left cnt' ∧ cnt' ≤ cnt ∧ Fr (fun j => j = b) w w' := by
  obtain ⟨n, D, L, h, hn, ha, hl⟩ := h
  have hw : (Lit.int .i64 i).wf = true := by simp only [Lit.wf, Bool.and_eq_true, decide_eq_true_eq]; exact hi
  have hkey := keyOf_int_mk (P := P) hk hw
  obtain ⟨w', cnt', hrun, h1, h2, h3⟩ := h.drop (int_keyed hk) ht hkey ty
  have hT := h.owns.tidy (int_keyed hk)
  have hM := h.owns.isMap
  have hsz := size_del (k := kI i) hT
  rw [(ha i).1, hn] at hsz
  have hs2 : Maps.size (D.del (kI i)) = if (f i).isSome then c - 1 else c := by
    cases hf : (f i).isSome <;> rw [hf] at hsz <;> simp at hsz ⊢ <;> omega
  refine ⟨w', cnt', hrun, ⟨n, D.del (kI i), _, h1, hs2, fun j => ?_, fun j => ?_⟩, h2, turned_fr h3⟩
  · by_cases e : j = i
    · subst e
      rw [upd_same]
      exact ⟨has_del_same, fun zd => atKey_del_same zd⟩
    · rw [upd_ne f _ e]
      exact ⟨(has_del_other (kI_ne e)).trans (ha j).1, fun zd => (atKey_del_other (kI_ne e) zd).trans ((ha j).2 zd)⟩
  · show (L (kI j) && !(kI j).sameKey (kI i)) = left j
    rw [hl]
    by_cases e : j = i
    · subst e; rw [hli]; rfl
    · cases hs : (kI j).sameKey (kI i)
      · simp
      · exact absurd (WideAt.sameKey_eq hs) (kI_ne e)
end
theorem rgc_next {P : Program} {w : World} {ops : Array Oper} {rest : List Oper} {o : Oper} {a : Act} {Q : Exit → Act → World → Prop} (hg : o.guard = none) (it : Operand) (hop : o.op = Op.next it false)
    {k : TypeId} {b r c cnt : Nat} {f : Int → Option Value} {left : Int → Bool} (hit : a.eval it = .pointer (some ⟨r, 0, none⟩)) (h : RgC P k w b r c f left cnt) (hk : P.underlying k = some (.int .i64))
    (hDone : cnt = 0 → (∀ i, left i = false) → wpList P ops Q rest (a.put o.dst (.tuple #[.bool false])) w)
    (hMore : ∀ i v w' cnt', left i = true → f i = some v → RgC P k w' b r c f (fun j => left j && !decide (j = i)) cnt' → cnt' < cnt → Fr (fun j => j = r) w w' → w'.heap.size = w.heap.size → (Instr.entry (.pointer (some ⟨r, 0, none⟩))).run P w' = .ok (.tuple #[.int .i64 i, v]) w' →
      wpList P ops Q rest (a.put o.dst (.tuple #[.bool true, .int .i64 i, v])) w') : wpList P ops Q (o :: rest) a w := by
  refine wpList_plain hg fun K' hK' => ?_
  unfold Oper.wp
  rcases h.nxt hk o.type with ⟨h0, hl, hrun⟩ | ⟨i, v, w', cnt', h1, h2, hrun, h3, h4, h5, h6, h7⟩
  · simp [execOp, hop, hit, hrun, Result.andThen]
    exact hK' _ _ (hDone h0 hl)
  · simp [execOp, hop, hit, hrun, Result.andThen]
    exact hK' _ _ (hMore i v w' cnt' h1 h2 h3 h4 h5 h6 h7)
theorem rgc_del {P : Program} {w : World} {ops : Array Oper} {rest : List Oper} {o : Oper} {a : Act} {Q : Exit → Act → World → Prop} (hg : o.guard = none) (m x : Operand) (t k : TypeId) (hop : o.op = Op.call { callee := Callee.builtin Builtin.delete, args := #[m, x], argTypes := #[t, k] })
    {e : TypeId} {b r c cnt : Nat} {f : Int → Option Value} {left : Int → Bool} (hm : a.eval m = .map (some b)) (h : RgC P k w b r c f left cnt) (hk : P.underlying k = some (.int .i64)) (ht : P.underlying t = some (.map k e)) (i : Int) (hi : -9223372036854775808 ≤ i ∧ i ≤ 9223372036854775807) (hli : left i = false)
    (hx : a.eval x = .int .i64 i)
    (hK : ∀ w' cnt', RgC P k w' b r (if (f i).isSome then c - 1 else c) (upd f i none) left cnt' → cnt' ≤ cnt → Fr (fun j => j = b) w w' → wpList P ops Q rest (a.put o.dst (.tuple #[])) w') :
    wpList P ops Q (o :: rest) a w := by
  refine wpList_plain hg fun K' hK' => ?_
  obtain ⟨w', cnt', hrun, r1, r2, r3⟩ := h.del hk ht i hi hli o.type
  unfold Oper.wp
  simp [execOp, hop, resolve, invoke, builtin, hm, hx, hrun, Result.andThen]
  exact hK' _ _ (hK w' cnt' r1 r2 r3)
/-- Whether bytes are all noughts. -/
def blankB (l : List Int) : Bool := l.all (· == 0)
set_option maxHeartbeats 1000000 in
set_option maxRecDepth 1000000 in
theorem blank_yes (v : Value) (l : List Int) (w : World) (hlen : l.length ≤ 140737488355328) (hz : ∀ b ∈ l, b = 0) (hv : Sl w v l.length (bys l)) :
    Calls Tryd.prog 59 #[v] w fun e w' => e = .returned (.bool true) ∧ w = w' := by
  obtain ⟨av, cv, rfl⟩ := hv.form
  have HV := Lib.hid hv
  have HZ := Lib.hid hz
  clear hv hz
  go_enter Tryd.func59, Tryd.ntmps59
  go_wp2_with fail
  go_loopw [7] (fun i wr => ∃ (j : Nat), j ≤ l.length ∧ i = .int .i64 j ∧ w = wr) (fun i _ => l.length - (intOf i).toNat)
  case atStart => exact ⟨0, Nat.zero_le _, rfl, rfl⟩
  case round =>
    obtain ⟨j, hj, rfl, rfl⟩ := hrel
    by_cases hlt : j < l.length
    · obtain ⟨b, off, rfl, hb, hc⟩ := HV.out.at (bys_ne l 0 (by omega))
      have hx : l[j] = 0 := HZ.out _ (List.getElem_mem hlt)
      have hcj := hc _ _ (bys_get l j hlt)
      rw [hx] at hcj
      have dj : decide ((j : Int) < (l.length : Int)) = true := decide_eq_true (by omega)
      clear hc hx
      go_wp2
      exact ⟨⟨j + 1, by omega, by go_num, by first | rfl | trivial⟩, by simp [intOf]; omega⟩
    · obtain rfl : j = l.length := by omega
      go_wp2
      go_ret
      exact ⟨rfl, rfl⟩
theorem blankg_calls (v : Value) (l : List Int) (w : World) (hlen : l.length ≤ 140737488355328) (hv : Sl w v l.length (bys l)) :
    Calls Tryd.prog 59 #[v] w fun e w' => e = .returned (.bool (blankB l)) ∧ w = w' := by
  by_cases h : ∀ b ∈ l, b = 0
  · have : blankB l = true := by simpa [blankB] using h
    rw [this]; exact blank_yes v l w hlen h hv
  · have : blankB l = false := by simpa [blankB] using h
    rw [this]; exact blank_no v l w hlen (by simpa using h) hv
end Go.Proofs.YtpcikbloflpahaaDoor
