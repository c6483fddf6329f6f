/-
  Appending to a slice of the call's own, with the element type's facts in one bundle.
-/
import Derived.Test.YtpcikbloflpahaaDoorIter
import Derived.Maps.AppendAt
import Derived.Laws.AppendOwnNone
namespace Go.Proofs.YtpcikbloflpahaaDoor
set_option linter.unusedVariables false
set_option linter.unusedSimpArgs false
open Go.RowKit

/-- t is the type of slices of e; e's zero, its size in cells and in bytes. -/
structure Elem (P : Program) (t e : TypeId) (z : Value) (size bytes : Nat) : Prop where
  und : P.underlying t = some (.slice e)
  info : (P.info? e).map (fun i => (i.zero, i.size, i.bytes)) = some (some z, size, bytes)
  zs : z.cells.size = size
  pos : 0 < size

theorem append_in {F : Fence} {n : Nat} {P : Program} {w : World} {ops : Array Oper} {rest : List Oper} {o : Oper} {a : Act} {Q : Exit → Act → World → Prop}
    {t e : TypeId} {z : Value} {size bytes : Nat} (hE : Elem P t e z size bytes)
    (hg : o.guard = none) (s x : Operand) (hop : o.op = Op.call { callee := Callee.builtin Builtin.append, args := #[s, x], argTypes := #[t, t] })
    (base : Nat) (v : Value) (k : Nat) (xs : List Value) (hs : a.eval s = v) (hown : w.ownsRow base e size v k xs) (ad : Addr) (m c : Nat) (news : List Value) (hx : a.eval x = .slice (some ad) m c) (hn : news.length = m * size)
    (hc : ∀ j u, news[j]? = some u → w.cell? (ad.add j) = some u) (h1c : ∀ u ∈ news, u.oneCell' = true) (b1 : k + m ≤ maxLen) (b2 : (k + m) * bytes ≤ 140737488355328) (b3 : base ≤ w.heap.size)
    (hK : ∀ v' w', w'.ownsRow base e size v' (k + m) (xs ++ news) → w.grownBy w' v.ownBlock → (v' = .slice none 0 0 ↔ v = .slice none 0 0 ∧ m = 0) → wpListIn F n P ops Q rest (a.put o.dst v') w') :
    wpListIn F n P ops Q (o :: rest) a w := by
  obtain ⟨i0, hi, hz0, hz1, hz2⟩ := info_parts hE.info
  exact wpListIn_append_own w hg s x t hop base e i0 z size bytes hE.und hi hz0 hz1 hz2 hE.zs hE.pos v k xs hs hown ad m c news hx hn hc h1c b1 b2 b3 hK

theorem append_out {P : Program} {w : World} {ops : Array Oper} {rest : List Oper} {o : Oper} {a : Act} {Q : Exit → Act → World → Prop}
    {t e : TypeId} {z : Value} {size bytes : Nat} (hE : Elem P t e z size bytes)
    (hg : o.guard = none) (s x : Operand) (hop : o.op = Op.call { callee := Callee.builtin Builtin.append, args := #[s, x], argTypes := #[t, t] })
    (base : Nat) (v : Value) (k : Nat) (xs : List Value) (hs : a.eval s = v) (hown : w.ownsRow base e size v k xs) (ad : Addr) (m c : Nat) (news : List Value) (hx : a.eval x = .slice (some ad) m c) (hn : news.length = m * size)
    (hc : ∀ j u, news[j]? = some u → w.cell? (ad.add j) = some u) (h1c : ∀ u ∈ news, u.oneCell' = true) (b1 : k + m ≤ maxLen) (b2 : (k + m) * bytes ≤ 140737488355328) (b3 : base ≤ w.heap.size)
    (hK : ∀ v' w', w'.ownsRow base e size v' (k + m) (xs ++ news) → w.grownBy w' v.ownBlock → (v' = .slice none 0 0 ↔ v = .slice none 0 0 ∧ m = 0) → wpList P ops Q rest (a.put o.dst v') w') :
    wpList P ops Q (o :: rest) a w := by
  obtain ⟨i0, hi, hz0, hz1, hz2⟩ := info_parts hE.info
  exact wpList_append_own w hg s x t hop base e i0 z size bytes hE.und hi hz0 hz1 hz2 hE.zs hE.pos v k xs hs hown ad m c news hx hn hc h1c b1 b2 b3 hK

/-- 'append(s, x...)' where x reads as cs, nil or not. -/
theorem append_sl {P : Program} {w : World} {ops : Array Oper} {rest : List Oper} {o : Oper} {a : Act} {Q : Exit → Act → World → Prop}
    {t e : TypeId} {z : Value} {size bytes : Nat} (hE : Elem P t e z size bytes)
    (hg : o.guard = none) (s x : Operand) (hop : o.op = Op.call { callee := Callee.builtin Builtin.append, args := #[s, x], argTypes := #[t, t] })
    (base : Nat) (v : Value) (k : Nat) (xs : List Value) (hs : a.eval s = v) (hown : w.ownsRow base e size v k xs) {y : Value} {m : Nat} {cs : List Value} (hx : a.eval x = y) (hsl : Sl w y m cs) (hn : cs.length = m * size)
    (h1c : ∀ u ∈ cs, u.oneCell' = true) (b1 : k + m ≤ maxLen) (b2 : (k + m) * bytes ≤ 140737488355328) (b3 : base ≤ w.heap.size)
    (hK : ∀ v' w', w'.ownsRow base e size v' (k + m) (xs ++ cs) → w.grownBy w' v.ownBlock → wpList P ops Q rest (a.put o.dst v') w') :
    wpList P ops Q (o :: rest) a w := by
  obtain ⟨ad, cap, rfl, h0, h1, h2⟩ := hsl
  cases ad with
  | none =>
    obtain ⟨rfl, rfl⟩ := h0.1 rfl
    simp at hn
    subst hn
    obtain ⟨i0, hi, hz0, hz1, hz2⟩ := info_parts hE.info
    refine wpList_append_own_none hg s x t hop base e i0 size hE.und hi v k xs hs hown hx ?_
    exact hK v w (by simpa using hown) ⟨rfl, rfl, rfl, Nat.le_refl _, fun _ _ _ => rfl⟩
  | some ad =>
    refine append_out hE hg s x hop base v k xs hs hown ad m cap cs hx hn ?_ h1c b1 b2 b3 (fun v' w' r1 r2 _ => hK v' w' r1 r2)
    intro j u hj
    obtain ⟨b, off, e⟩ := h1 (by rintro rfl; simp at hj)
    injection e with e
    subst e
    have := h2 b off j u rfl hj
    by_cases hj0 : j = 0
    · subst hj0; simpa [Addr.add] using this
    · simpa [Addr.add, hj0] using this

theorem ownsRow_base {w : World} {base base' : Nat} {e : TypeId} {size : Nat} {v : Value} {n : Nat} {xs : List Value} (h : w.ownsRow base e size v n xs) (hb : base' ≤ base) : w.ownsRow base' e size v n xs := by
  obtain ⟨h1, h2 | ⟨g, cap, cur, e1, hg, r⟩⟩ := h
  · exact ⟨h1, .inl h2⟩
  · exact ⟨h1, .inr ⟨g, cap, cur, e1, Nat.le_trans hb hg, r⟩⟩

/-- A box of another type is no block of an owned row. -/
theorem not_row {w : World} {b : Nat} {cs : Array Value} {t e : TypeId} {fr : Nat × Nat} (h : w.heap[b]? = some (.cells cs t fr)) (hte : t ≠ e) {base size n : Nat} {v : Value} {xs : List Value} (hr : w.ownsRow base e size v n xs) : some b ≠ v.ownBlock := by
  obtain ⟨_, ⟨rfl, _⟩ | ⟨g, cap, cur, rfl, _, hh, _⟩⟩ := hr
  · simp [Value.ownBlock]
  · intro e; simp [Value.ownBlock] at e; subst e; rw [h] at hh; cases hh; exact hte rfl

/-- 'x = append(x, v)' where x lies in a box: behind the append, and behind the store into the box. -/
theorem app_box {W w3 : World} {b n0 e size t k m B : Nat} {r v' : Value} {xs ys : List Value} {tmp : Obj} (hb : W.heap[b]? = some (.cells #[r] t (0, 0))) (hte : t ≠ e) (hrow : W.ownsRow n0 e size r k xs)
    (hgrow : (W.alloc tmp).grownBy w3 r.ownBlock) (hown' : w3.ownsRow n0 e size v' m ys) :
    w3.cell? ⟨b, 0, none⟩ = some r ∧ w3.frozen? ⟨b, 0, none⟩ = false ∧ (w3.setCell ⟨b, 0, none⟩ v').heap[b]? = some (.cells #[v'] t (0, 0)) ∧ (w3.setCell ⟨b, 0, none⟩ v').ownsRow n0 e size v' m ys ∧
    KeepsFrom B W (w3.setCell ⟨b, 0, none⟩ v') ∧ ∀ (S : Nat → Prop) (w0 : World), Fr S w0 W → w0.heap.size ≤ n0 → S b → Fr S w0 (w3.setCell ⟨b, 0, none⟩ v') := by
  have h3 : w3.heap[b]? = some (.cells #[r] t (0, 0)) := (hgrow.block b (heap_lt (heap_alloc tmp hb)) (not_row hb hte hrow)).trans (heap_alloc tmp hb)
  refine ⟨heap_cell (o := 0) h3 rfl, heap_frozen h3, heap_set _ h3, ?_, ?_, ?_⟩
  · exact hown'.kept (grownBy_setCell' w3 b v') (.inr (not_row h3 hte hown').symm)
  · refine (((KeepsOthers.alloc W tmp).trans (KeepsOthers.of_grownBy hgrow fun j o ej hj => ?_)).trans (KeepsOthers.setCell _ _ _)).from _
    obtain ⟨_, ⟨rfl, _⟩ | ⟨g, cap, cur, rfl, _, hh, _⟩⟩ := hrow
    · simp [Value.ownBlock] at ej
    · obtain rfl : g = j := by simpa [Value.ownBlock] using ej
      rw [heap_alloc tmp hh] at hj; cases hj; rfl
  · intro S w0 hF hn hS
    refine ((hF.alloc tmp).grown hgrow (fun j ej hj => ?_)).setCell (fun _ => hS) _
    obtain ⟨_, ⟨rfl, _⟩ | ⟨g, cap, cur, rfl, hg, _, _⟩⟩ := hrow
    · simp [Value.ownBlock] at ej
    · obtain rfl : g = j := by simpa [Value.ownBlock] using ej
      omega

theorem grownBy_alloc {w w3 : World} {o : Obj} {row : Option Nat} (h : (w.alloc o).grownBy w3 row) : w.grownBy w3 row :=
  ⟨h.os, h.tape, h.output, by have := h.size; simp at this; omega, fun k hk hr => (h.block k (by simp; omega) hr).trans (Below.heap_alloc _ _ _ hk)⟩
theorem grownBy_drewN_alloc {w w3 : World} {n : Nat} {o : Obj} {row : Option Nat} (h : ((w.drewN n).alloc o).grownBy w3 row) : w.grownBy w3 row := by
  have := grownBy_alloc h; exact ⟨this.os, this.tape, this.output, this.size, this.block⟩

end Go.Proofs.YtpcikbloflpahaaDoor
