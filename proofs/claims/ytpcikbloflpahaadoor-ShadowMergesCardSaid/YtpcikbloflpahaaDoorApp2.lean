/-
  Appending a slice that reads as cells, nil or not, at a step of a region that draws its order.
-/
import Derived.Test.YtpcikbloflpahaaDoorApp
import Derived.Laws.OwnMore
import Derived.Deep.RegionLaw
namespace Go.Proofs.YtpcikbloflpahaaDoor
set_option linter.unusedVariables false
set_option linter.unusedSimpArgs false
open Go.RowKit

theorem run_append_sl {P : Program} {w : World} (t ty base : Nat) {e : TypeId} {z : Value} {size bytes : Nat} (hE : Elem P t e z size bytes) (v : Value) (k : Nat) (xs : List Value) (hown : w.ownsRow base e size v k xs)
    {y : Value} {m : Nat} {cs : List Value} (hsl : Sl w y m cs) (hn : cs.length = m * size) (h1c : ∀ u ∈ cs, u.oneCell' = true) (b1 : k + m ≤ maxLen) (b2 : (k + m) * bytes ≤ 140737488355328) (b3 : base ≤ w.heap.size) :
    ∃ v' w', (Builtin.append_ #[t, t] ty #[v, y]).run P w = .ok v' w' ∧ w'.ownsRow base e size v' (k + m) (xs ++ cs) ∧ w.grownBy w' v.ownBlock ∧ (v'.ownBlock = v.ownBlock ∨ v'.ownBlock = some w.heap.size) := by
  obtain ⟨i0, hi, hz0, hz1, hz2⟩ := info_parts hE.info
  obtain ⟨ad, cap, rfl, h0, h1, h2⟩ := hsl
  cases ad with
  | none =>
    obtain ⟨rfl, rfl⟩ := h0.1 rfl
    simp at hn
    subst hn
    exact ⟨v, w, run_append_owned_none (P := P) w base t ty e i0 size hE.und hi v k xs hown, by simpa using hown, ⟨rfl, rfl, rfl, Nat.le_refl _, fun _ _ _ => rfl⟩, .inl rfl⟩
  | some ad =>
    obtain ⟨v', w', hr, q2, q3, _, q5⟩ := run_append_own_at (P := P) w base t ty e i0 z size bytes hE.und hi hz0 hz1 hz2 hE.zs hE.pos v k xs hown ad m cap cs hn (by
      intro j u hj
      obtain ⟨b, off, e⟩ := h1 (by rintro rfl; simp at hj)
      injection e with e
      subst e
      have := h2 b off j u rfl hj
      by_cases hj0 : j = 0
      · subst hj0; simpa [Addr.add] using this
      · simpa [Addr.add, hj0] using this) h1c b1 b2 b3
    exact ⟨v', w', hr, q2, q3, q5⟩

theorem step_append_sl {P : Program} {w : World} {ops : Array Oper} {o : Oper} {a : Act} {K : Act → World → Prop} {Q : Exit → Act → World → Prop} {E : Prop} {t e : TypeId} {z : Value} {size bytes : Nat} (hE : Elem P t e z size bytes)
    (hgd : o.guard = none) (s x : Operand) (ho : o.op = .call { callee := .builtin .append, args := #[s, x], argTypes := #[t, t] })
    (base : Nat) (v : Value) (k : Nat) (xs : List Value) (hs : a.eval s = v) (hown : w.ownsRow base e size v k xs) {y : Value} {m : Nat} {cs : List Value} (hx : a.eval x = y) (hsl : Sl w y m cs) (hn : cs.length = m * size)
    (h1c : ∀ u ∈ cs, u.oneCell' = true) (b1 : k + m ≤ maxLen) (b2 : (k + m) * bytes ≤ 140737488355328) (b3 : base ≤ w.heap.size)
    (h : ∀ a' n' c' w', w'.ownsRow base e size (.slice a' n' c') (k + m) (xs ++ cs) → w.grownBy w' v.ownBlock → ((Value.slice a' n' c').ownBlock = v.ownBlock ∨ (Value.slice a' n' c').ownBlock = some w.heap.size) → K (a.put o.dst (.slice a' n' c')) w') :
    if Region.wanted o (yielded ops a.tmps) = true then Oper.wp P o a w K Q else E := by
  have hw : Region.wanted o (yielded ops a.tmps) = true := by simp [Region.wanted, hgd]
  rw [if_pos hw]
  obtain ⟨v', w', hr, h2, h3, h4⟩ := run_append_sl (P := P) t o.type base hE v k xs hown hsl hn h1c b1 b2 b3
  unfold Oper.wp execOp
  simp only [ho, resolve, invoke, builtin, Sem.run_bind, Sem.run_pure, Result.andThen_ok, List.map_toArray, List.map_cons, List.map_nil, hs, hx, hr]
  obtain ⟨a', c', e'⟩ := (Sl.of_owns h2).form
  subst e'
  exact h _ _ _ w' h2 h3 h4
end Go.Proofs.YtpcikbloflpahaaDoor
