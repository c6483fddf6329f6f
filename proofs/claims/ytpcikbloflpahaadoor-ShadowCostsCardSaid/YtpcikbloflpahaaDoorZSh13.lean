/-
  Chapter 7: ranging over a map keyed by ints.
-/
import Derived.Test.YtpcikbloflpahaaDoorZSh12
import Derived.Maps.RangeWalk
namespace Go.Proofs.YtpcikbloflpahaaDoor
set_option linter.unusedVariables false
set_option linter.unusedSimpArgs false
open Go.RowKit Go.Shelf Go.Maps

/-- Block r is an iterator over the map f at block b; left: which keys are still to come. -/
def RgAt (P : Program) (k : TypeId) (w : World) (b r : Nat) (f : Int → Option Value) (left : Int → Bool) (cnt : Nat) : Prop :=
  ∃ n D L, w.ranges P k Rv b r n D L cnt ∧ n = Maps.size D ∧ Agr D f ∧ ∀ i, L (kI i) = left i
section
variable {P : Program} {k : TypeId} {w : World} {b r c : Nat} {f : Int → Option Value} {left : Int → Bool} {cnt : Nat}
theorem RgAt.left_eq (h : RgAt P k w b r f left cnt) : w.rangeLeft b r = cnt := by obtain ⟨n, D, L, h, -⟩ := h; exact h.left_eq
theorem RgAt.map (h : RgAt P k w b r f left cnt) : ∃ c, MapAt P k w b c f := by obtain ⟨n, D, L, h, hn, ha, -⟩ := h; exact ⟨n, D, h.owns, hn.symm, ha⟩
theorem RgAt.fr {S : Nat → Prop} {w' : World} (h : RgAt P k w b r f left cnt) (hF : Fr S w w') (hb : ¬ S b) (hr : ¬ S r) : RgAt P k w' b r f left cnt := by
  obtain ⟨n, D, L, h, h2⟩ := h
  refine ⟨n, D, L, ?_, h2⟩
  obtain ⟨es, clock, since, seen, c0, q1, q2, q3, q4, q5, q6⟩ := h
  exact ⟨es, clock, since, seen, c0, hF.heap q1 hb, q2, q3, q4, hF.heap q5 hr, q6⟩
theorem RgAt.ne (h : RgAt P k w b r f left cnt) : r ≠ b := by obtain ⟨n, D, L, h, -⟩ := h; exact h.ne
theorem RgAt.lt (h : RgAt P k w b r f left cnt) : r < w.heap.size := by obtain ⟨n, D, L, h, -⟩ := h; exact h.lt
theorem MapAt.rng {t e : TypeId} (h : MapAt P k w b c f) (hk : P.underlying k = some (.int .i64)) (ht : P.underlying t = some (.map k e)) :
    ∃ w', (Instr.range t (.map (some b))).run P w = .ok (.pointer (some ⟨w.heap.size, 0, none⟩)) w' ∧ RgAt P k w' b w.heap.size f (fun i => (f i).isSome) c ∧ Fr No w w' ∧ w'.heap.size = w.heap.size + 1 := by
  obtain ⟨D, h, hc, ha⟩ := h
  obtain ⟨w', h1, h2, h3, h4⟩ := h.range (int_keyed hk) ht
  exact ⟨w', h1, ⟨c, D, _, hc ▸ h2, hc.symm, ha, fun i => (ha i).1⟩, (Fr.refl No w).grown h3 (fun k e => by cases e), h4⟩
theorem RgAt.nxt (h : RgAt P k w b r f left cnt) (hk : P.underlying k = some (.int .i64)) (ty : TypeId) :
    (cnt = 0 ∧ (∀ i, left i = false) ∧ (Instr.next (.pointer (some ⟨r, 0, none⟩)) false ty).run P w = .ok (.tuple #[.bool false]) w) ∨
    ∃ i v w' cnt', left i = true ∧ f i = some v ∧ (Instr.next (.pointer (some ⟨r, 0, none⟩)) false ty).run P w = .ok (.tuple #[.bool true, .int .i64 i, v]) w' ∧
      RgAt P k w' b r f (fun j => left j && !decide (j = i)) cnt' ∧ cnt' < cnt ∧ Fr (fun j => j = r) w w' ∧ w'.heap.size = w.heap.size ∧ (Instr.entry (.pointer (some ⟨r, 0, none⟩))).run P w' = .ok (.tuple #[.int .i64 i, v]) w' := by
  obtain ⟨n, D, L, h, hn, ha, hl⟩ := h
  rcases h.next (int_keyed hk) ty with ⟨h0, h1, hrun⟩ | ⟨key, v, kl, y, w', cnt', hkey, hlk, hv, hat, hrun, hrg, hlt, hgr, hsz, hen⟩
  · exact .inl ⟨h0, fun i => by rw [← hl]; exact h1 _, hrun⟩
  · obtain ⟨i, rfl, rfl, hwf⟩ := Maps.keyOf_int_inv hk hkey
    have hf : f i = some v := by
      have h2 := (ha i).2
      unfold Rv at hv
      injection hv with hv
      subst hv
      have e1 : ∀ zd : DataW Value, (match f i with | some v => DataW.held v | none => zd) = .held v := fun zd => (h2 zd).symm.trans (hat zd)
      cases hq : f i with
      | none =>
        rw [hq] at e1
        exact absurd (e1 (.lit (.int .i64 0))) (by simp)
      | some u =>
        rw [hq] at e1
        have := e1 (.lit (.int .i64 0))
        simp at this
        rw [this]
    refine .inr ⟨i, v, w', cnt', by rw [← hl]; exact hlk, hf, hrun, ⟨n, D, _, hrg, hn, ha, fun j => ?_⟩, hlt, (Fr.refl _ w).grown hgr (fun q e _ => by injection e with e; exact e.symm), hsz, hen⟩
    show (L (kI j) && !(kI j).sameKey (.int .i64 i)) = _
    rw [hl]
    congr 2
    by_cases e : j = i
    · subst e
      rw [decide_eq_true rfl]
      exact WideAt.sameKey_self (kI_key j)
    · rw [decide_eq_false e]
      cases hs : (kI j).sameKey (.int .i64 i)
      · rfl
      · exact absurd (WideAt.sameKey_eq hs) (kI_ne e)
end
theorem rg_range {P : Program} {w : World} {ops : Array Oper} {rest : List Oper} {o : Oper} {a : Act} {Q : Exit → Act → World → Prop} (hg : o.guard = none) (m : Operand) (t : TypeId) (hop : o.op = Op.range t m)
    {k e : TypeId} {b c : Nat} {f : Int → Option Value} (hm : a.eval m = .map (some b)) (h : MapAt P k w b c f) (hk : P.underlying k = some (.int .i64)) (ht : P.underlying t = some (.map k e))
    (hK : ∀ w', RgAt P k w' b w.heap.size f (fun i => (f i).isSome) c → Fr No w w' → w'.heap.size = w.heap.size + 1 → wpList P ops Q rest (a.put o.dst (.pointer (some ⟨w.heap.size, 0, none⟩))) w') : wpList P ops Q (o :: rest) a w := by
  refine wpList_plain hg fun K' hK' => ?_
  obtain ⟨w', hrun, r1, r2, r3⟩ := h.rng hk ht
  unfold Oper.wp
  simp [execOp, hop, hm, hrun, Result.andThen]
  exact hK' _ _ (hK w' r1 r2 r3)
theorem rg_next {P : Program} {w : World} {ops : Array Oper} {rest : List Oper} {o : Oper} {a : Act} {Q : Exit → Act → World → Prop} (hg : o.guard = none) (it : Operand) (hop : o.op = Op.next it false)
    {k : TypeId} {b r cnt : Nat} {f : Int → Option Value} {left : Int → Bool} (hit : a.eval it = .pointer (some ⟨r, 0, none⟩)) (h : RgAt P k w b r f left cnt) (hk : P.underlying k = some (.int .i64))
    (hDone : cnt = 0 → (∀ i, left i = false) → wpList P ops Q rest (a.put o.dst (.tuple #[.bool false])) w)
    (hMore : ∀ i v w' cnt', left i = true → f i = some v → RgAt P k w' b r f (fun j => left j && !decide (j = i)) cnt' → cnt' < cnt → Fr (fun j => j = r) w w' → w'.heap.size = w.heap.size → (Instr.entry (.pointer (some ⟨r, 0, none⟩))).run P w' = .ok (.tuple #[.int .i64 i, v]) w' →
      wpList P ops Q rest (a.put o.dst (.tuple #[.bool true, .int .i64 i, v])) w') : wpList P ops Q (o :: rest) a w := by
  refine wpList_plain hg fun K' hK' => ?_
  unfold Oper.wp
  rcases h.nxt hk o.type with ⟨h0, hl, hrun⟩ | ⟨i, v, w', cnt', h1, h2, hrun, h3, h4, h5, h6, h7⟩
  · simp [execOp, hop, hit, hrun, Result.andThen]
    exact hK' _ _ (hDone h0 hl)
  · simp [execOp, hop, hit, hrun, Result.andThen]
    exact hK' _ _ (hMore i v w' cnt' h1 h2 h3 h4 h5 h6 h7)
end Go.Proofs.YtpcikbloflpahaaDoor
