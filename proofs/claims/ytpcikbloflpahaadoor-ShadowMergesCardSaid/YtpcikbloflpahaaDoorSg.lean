/-
  Tools for chapter 7: appending (where the new slice lies), new slices, lists of values.
-/
import Derived.Test.YtpcikbloflpahaaDoorApp2
import Derived.Test.YtpcikbloflpahaaDoorIno5
import Derived.Test.YtpcikbloflpahaaDoorSh0
import Derived.Deep.DeepCutAuto
import Derived.Deep.CutBlock
import Derived.Deep.RegionHeld3
import Derived.Deep.RegionWith
namespace Go.Proofs.YtpcikbloflpahaaDoor
set_option linter.unusedVariables false
set_option linter.unusedSimpArgs false
open Go.RowKit Go.Shelf Go.Maps

theorem append_at7 {P : Program} {w : World} {ops : Array Oper} {rest : List Oper} {o : Oper} {a : Act} {Q : Exit → Act → World → Prop}
    {t e : TypeId} {z : Value} {size bytes : Nat} (hE : Elem P t e z size bytes)
    (hg : o.guard = none) (s x : Operand) (hop : o.op = Op.call { callee := Callee.builtin Builtin.append, args := #[s, x], argTypes := #[t, t] })
    (base : Nat) (v : Value) (k : Nat) (xs : List Value) (hs : a.eval s = v) (hown : w.ownsRow base e size v k xs) {y : Value} {m : Nat} {cs : List Value} (hx : a.eval x = y) (hsl : Sl w y m cs) (hn : cs.length = m * size)
    (h1c : ∀ u ∈ cs, u.oneCell' = true) (b1 : k + m ≤ maxLen) (b2 : (k + m) * bytes ≤ 140737488355328) (b3 : base ≤ w.heap.size)
    (hK : ∀ a' n' c' w', w'.ownsRow base e size (.slice a' n' c') (k + m) (xs ++ cs) → w.grownBy w' v.ownBlock → ((Value.slice a' n' c').ownBlock = v.ownBlock ∨ (Value.slice a' n' c').ownBlock = some w.heap.size) → wpList P ops Q rest (a.put o.dst (.slice a' n' c')) w') :
    wpList P ops Q (o :: rest) a w := by
  refine wpList_plain hg fun K' hK' => ?_
  obtain ⟨v', w', hr, h2, h3, h4⟩ := run_append_sl (P := P) t o.type base hE v k xs hown hsl hn h1c b1 b2 b3
  unfold Oper.wp execOp
  simp only [hop, resolve, invoke, builtin, Sem.run_bind, Sem.run_pure, Result.andThen_ok, List.map_toArray, List.map_cons, List.map_nil, hs, hx, hr]
  obtain ⟨a', c', e'⟩ := (Sl.of_owns h2).form
  subst e'
  exact hK' _ _ (hK _ _ _ w' h2 h3 h4)
/-- One operation of a drawn region, taken first: its slot is named. -/
theorem take_at7 {P : Program} {md : Region.Mode} {ops : Array Oper} {Q : Exit → Act → World → Prop} {S : World → Prop} {i : Nat} {oi : Oper} {d : Option Tmp} {v : Value} {fuel : Nat} {listed : Array Bool} {a : Act} {w : World} (hi : ops[i]? = some oi) (hd : oi.dst = d)
    (hs : Region.noSelect ops = true) (hf : Region.free md ops listed i = true) (hr : (Region.ready md ops listed).contains i = true)
    (hQ : ∀ c a w, Q (.panic c) (a.put d v) w → Q (.panic c) a w) (hy : YieldsIf P ops S oi v a) (hS : S w)
    (h : wpAnyH P md ops Q S fuel (listed.setIfInBounds i true) (a.put d v) w) : wpAnyH P md ops Q S (fuel + 1) listed a w := by
  subst hd; exact wpAnyH_take hi hs hf hr hQ hy hS h
theorem heap_setAt7 {w : World} {b : Nat} {cs : List Value} {t : TypeId} (h : w.heap[b]? = some (.cells cs.toArray t (0, 0))) (o : Nat) (v : Value) : (w.setCell ⟨b, o, none⟩ v).heap[b]? = some (.cells (cs.set o v).toArray t (0, 0)) := by
  simp [World.setCell, Array.getElem?_modify, h]
theorem heap_setCells7 {w : World} {b : Nat} {cs : List Value} {t : TypeId} (h : w.heap[b]? = some (.cells cs.toArray t (0, 0))) (vs : List Value) (hl : cs.length = vs.length) : (w.setCells b 0 vs).heap[b]? = some (.cells vs.toArray t (0, 0)) := by
  have : ∀ (vs pre cs : List Value) (w : World), w.heap[b]? = some (.cells (pre ++ cs).toArray t (0, 0)) → cs.length = vs.length → (w.setCells b pre.length vs).heap[b]? = some (.cells (pre ++ vs).toArray t (0, 0)) := by
    intro vs
    induction vs with
    | nil => intro pre cs w h hl; obtain rfl := List.length_eq_zero_iff.1 hl; exact h
    | cons v vs ih =>
      intro pre cs w h hl
      cases cs with
      | nil => simp at hl
      | cons c cs =>
        have h1 := heap_setAt7 h pre.length v
        rw [List.set_append_right _ _ (Nat.le_refl _), Nat.sub_self, List.set_cons_zero] at h1
        have h2 := ih (pre ++ [v]) cs (w.setCell ⟨b, pre.length, none⟩ v) (by rw [List.append_assoc]; exact h1) (by simpa using hl)
        rw [List.length_append, List.append_assoc] at h2
        exact h2
  exact this vs [] cs w h hl
theorem fr_setCells7 (w : World) (b o : Nat) (vs : List Value) : Fr (fun k => k = b) w (w.setCells b o vs) := by
  induction vs generalizing w o with
  | nil => exact Fr.refl _ _
  | cons v vs ih => exact ((Fr.refl (fun k => k = b) w).setCell (p := ⟨b, o, none⟩) (fun _ => rfl) v).trans (ih _ _)
theorem fr_grown7 {w w' : World} {row : Option Nat} (h : w.grownBy w' row) : Fr (fun k => row = some k) w w' := (Fr.refl _ _).grown h (fun k e _ => e)
theorem sl_new7 (w : World) (cs : List Value) (t : TypeId) (n : Nat) (hne : cs ≠ []) (hn : 0 < n) : Sl (w.alloc (.cells cs.toArray t)) (.slice (some ⟨w.heap.size, 0, none⟩) n n) n cs := by
  refine ⟨_, _, rfl, ⟨by simp, Nat.le_refl _⟩, fun _ => ⟨_, _, rfl⟩, ?_⟩
  rintro b off j u ⟨rfl, rfl⟩ hj
  rw [Nat.zero_add]
  exact heap_cell (heap_new w _) (by simpa using hj)
theorem ownsRow_fr7 {W W' : World} {S : Nat → Prop} {base e size n : Nat} {v : Value} {xs : List Value} (h : W.ownsRow base e size v n xs) (hF : Fr S W W') (hn : ∀ k, v.ownBlock = some k → ¬ S k) : W'.ownsRow base e size v n xs := by
  obtain ⟨h1, h2 | ⟨g, cap, cur, rfl, hg, hh, r⟩⟩ := h
  · exact ⟨h1, .inl h2⟩
  · exact ⟨h1, .inr ⟨g, cap, cur, rfl, hg, hF.heap hh (hn g rfl), r⟩⟩
theorem not_row7 {w : World} {b1 : Nat} {o : Obj} (hb : w.heap[b1]? = some o) {e : TypeId} (hne : ∀ cs f, o ≠ .cells cs e f) {base size k : Nat} {v : Value} {xs : List Value} (hv : w.ownsRow base e size v k xs) : ∀ q, v.ownBlock = some q → q ≠ b1 := by
  intro q hq he
  subst he
  obtain ⟨_, ⟨rfl, _⟩ | ⟨g, cap, cur, rfl, hg, hh, _⟩⟩ := hv
  · simp [Value.ownBlock] at hq
  · obtain rfl : g = q := by simpa [Value.ownBlock] using hq
    rw [hh] at hb
    injection hb with hb
    exact hne _ _ hb.symm
/-- Rows of two types lie in two blocks; a row and a map too. -/
theorem rows_apart7 {W : World} {b1 e1 s1 n1 b2 e2 s2 n2 : Nat} {v1 v2 : Value} {xs1 xs2 : List Value} (h : W.ownsRow b1 e1 s1 v1 n1 xs1) (h' : W.ownsRow b2 e2 s2 v2 n2 xs2) (hne : e1 ≠ e2) (k : Nat) (hk : v1.ownBlock = some k) : v2.ownBlock ≠ some k := by
  obtain ⟨_, ⟨rfl, _⟩ | ⟨g, cap, cur, rfl, hg, hh, _⟩⟩ := h
  · simp [Value.ownBlock] at hk
  · obtain rfl : g = k := by simpa [Value.ownBlock] using hk
    exact fun e => not_row7 hh (fun cs f e3 => hne (by injection e3)) h' g e rfl
theorem map_apart7 {P : Program} {k : TypeId} {w : World} {b c : Nat} {f : Int → Option Value} (h : MapAt P k w b c f) {base e size n : Nat} {v : Value} {xs : List Value} (hv : w.ownsRow base e size v n xs) : v.ownBlock ≠ some b := by
  obtain ⟨D, ⟨es, clock, hb, -⟩, -⟩ := h
  exact fun e => not_row7 hb (fun cs f e3 => by cases e3) hv b e rfl
/-- Blocks that have grown: the old ones and new ones. -/
def Gr7 (w : World) (A A' : Nat → Prop) : Prop := ∀ j, A' j → A j ∨ w.heap.size ≤ j
theorem Gr7.refl (w : World) (A : Nat → Prop) : Gr7 w A A := fun _ h => .inl h
theorem Gr7.trans {w w' : World} {A A' A'' : Nat → Prop} (h : Gr7 w A A') (k : Gr7 w' A' A'') (hs : w.heap.size ≤ w'.heap.size) : Gr7 w A A'' := fun j hj => by
  rcases k j hj with h1 | h1
  · exact h j h1
  · exact .inr (Nat.le_trans hs h1)
theorem Fr.thenG7 {w w' w'' : World} {A A' : Nat → Prop} (h : Fr A w w') (k : Fr A' w' w'') (g : Gr7 w A A') : Fr A w w'' := h.trans' k (fun i hi hs => by
  rcases g i hs with h1 | h1
  · exact h1
  · omega)
end Go.Proofs.YtpcikbloflpahaaDoor
