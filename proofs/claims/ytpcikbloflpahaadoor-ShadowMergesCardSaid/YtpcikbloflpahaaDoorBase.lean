/-
  Words of this seat's own on worlds: what a call leaves as it was ('Fr'), what a slice reads as ('Sl').
-/
import Derived.Below
import Derived.Lib.Hide
import Derived.RangeFuncNested
import Derived.RangeFuncBound
import Derived.RangeFuncCalls
import Derived.RangeFuncLeaves
import Derived.Shelf.Abstract
import Derived.Shelf.RegionOpen
import Derived.WalkKit
import Derived.OwnWalkIn
import Derived.TacticsInMore
import Derived.LoopNIn
import Derived.LoopIn
namespace Go.Proofs.YtpcikbloflpahaaDoor
set_option linter.unusedVariables false
set_option linter.unusedSimpArgs false
open Go.RowKit

/-- Of what lay in w nothing has turned, but for the blocks of S; no block has gone. -/
structure Fr (S : Nat → Prop) (w w' : World) : Prop where
  os : w'.os = w.os
  tape : w'.tape = w.tape
  output : w'.output = w.output
  size : w.heap.size ≤ w'.heap.size
  blk : ∀ k, k < w.heap.size → ¬ S k → w'.heap[k]? = w.heap[k]?

/-- No block at all. -/
abbrev No : Nat → Prop := fun _ => False

theorem Fr.refl (S : Nat → Prop) (w : World) : Fr S w w := ⟨rfl, rfl, rfl, Nat.le_refl _, fun _ _ _ => rfl⟩
theorem Fr.trans' {S T : Nat → Prop} {a b c : World} (h : Fr S a b) (k : Fr T b c) (hT : ∀ i, i < a.heap.size → T i → S i) : Fr S a c :=
  ⟨k.os.trans h.os, k.tape.trans h.tape, k.output.trans h.output, Nat.le_trans h.size k.size, fun i hi hn =>
    (k.blk i (Nat.lt_of_lt_of_le hi h.size) (fun ht => hn (hT i hi ht))).trans (h.blk i hi hn)⟩
theorem Fr.trans {S : Nat → Prop} {a b c : World} (h : Fr S a b) (k : Fr S b c) : Fr S a c := h.trans' k (fun _ _ h => h)
theorem Fr.mono {S T : Nat → Prop} {a b : World} (h : Fr S a b) (hT : ∀ i, i < a.heap.size → S i → T i) : Fr T a b :=
  ⟨h.os, h.tape, h.output, h.size, fun i hi hn => h.blk i hi (fun hs => hn (hT i hi hs))⟩
theorem Fr.no {S : Nat → Prop} {a b : World} (h : Fr No a b) : Fr S a b := h.mono (fun _ _ h => h.elim)
theorem Fr.drew {S : Nat → Prop} {a w : World} (h : Fr S a w) : Fr S a w.drew := ⟨h.os, h.tape, h.output, h.size, h.blk⟩
theorem Fr.drewN {S : Nat → Prop} {a w : World} (h : Fr S a w) (n : Nat) : Fr S a (w.drewN n) := ⟨h.os, h.tape, h.output, h.size, h.blk⟩
theorem Fr.alloc {S : Nat → Prop} {a w : World} (h : Fr S a w) (o : Obj) : Fr S a (w.alloc o) :=
  h.trans' (T := No) ⟨rfl, rfl, rfl, by simp, fun k hk _ => Below.heap_alloc _ _ _ hk⟩ (fun _ _ h => h.elim)
theorem Fr.setCell {S : Nat → Prop} {a w : World} (h : Fr S a w) {p : Addr} (hp : p.block < a.heap.size → S p.block) (u : Value) : Fr S a (w.setCell p u) :=
  h.trans' (T := fun k => k = p.block) ⟨rfl, rfl, rfl, by simp [World.setCell], fun k _ hn => Below.heap_setCell _ _ _ _ hn⟩ (fun i hi e => by subst e; exact hp hi)
theorem Fr.grown {S : Nat → Prop} {a w w' : World} (h : Fr S a w) {row : Option Nat} (hg : w.grownBy w' row) (hr : ∀ k, row = some k → k < a.heap.size → S k) : Fr S a w' :=
  h.trans' (T := fun k => row = some k) ⟨hg.os, hg.tape, hg.output, hg.size, fun k hk hn => hg.block k hk (fun e => hn e.symm)⟩ (fun i hi e => hr i e hi)
theorem Fr.below {w w' : World} (h : Fr No w w') : Below w.heap.size w w' := ⟨h.os, h.tape, h.output, h.size, fun k hk => h.blk k hk (fun h => h)⟩
theorem Fr.of_below {S : Nat → Prop} {w w' : World} (h : Below w.heap.size w w') : Fr S w w' := ⟨h.os, h.tape, h.output, h.size, fun k hk _ => h.block k hk⟩
theorem Fr.grownBy {w w' : World} (h : Fr No w w') (row : Option Nat) : w.grownBy w' row := ⟨h.os, h.tape, h.output, h.size, fun k hk _ => h.blk k hk (fun h => h)⟩
theorem Fr.keepsFrom {S : Nat → Prop} {w w' : World} (h : Fr S w w') {B : Nat} (hS : ∀ k, k < w.heap.size → S k → k < B) : KeepsFrom B w w' :=
  ⟨h.size, fun k o hB hk _ => (h.blk k (Array.getElem?_eq_some_iff.1 hk).1 (fun hs => by have := hS k (Array.getElem?_eq_some_iff.1 hk).1 hs; omega)).trans hk⟩
theorem Fr.heap {S : Nat → Prop} {w w' : World} (h : Fr S w w') {k : Nat} {o : Obj} (hk : w.heap[k]? = some o) (hn : ¬ S k) : w'.heap[k]? = some o :=
  (h.blk k (Array.getElem?_eq_some_iff.1 hk).1 hn).trans hk
theorem Fr.cell {S : Nat → Prop} {w w' : World} (h : Fr S w w') {b o : Nat} {v : Value} (hc : w.cell? ⟨b, o, none⟩ = some v) (hn : ¬ S b) : w'.cell? ⟨b, o, none⟩ = some v := by
  by_cases hb : b < w.heap.size
  · rw [World.cell?_of_block (w := w) (w' := w') (a := ⟨b, o, none⟩) (h.blk b hb hn)]; exact hc
  · exfalso; simp [World.cell?, Array.getElem?_eq_none (Nat.le_of_not_lt hb)] at hc
theorem cell_lt {w : World} {b o : Nat} {v : Value} (hc : w.cell? ⟨b, o, none⟩ = some v) : b < w.heap.size := by
  by_cases hb : b < w.heap.size
  · exact hb
  · exfalso; simp [World.cell?, Array.getElem?_eq_none (Nat.le_of_not_lt hb)] at hc
theorem Fr.frozen {S : Nat → Prop} {w w' : World} (h : Fr S w w') {b o : Nat} (hb : b < w.heap.size) (hn : ¬ S b) : w'.frozen? ⟨b, o, none⟩ = w.frozen? ⟨b, o, none⟩ :=
  World.frozen?_of_block (w := w) (w' := w') (a := ⟨b, o, none⟩) (h.blk b hb hn)
/-- A cell of an old world, read in a later one: the two rules that the walk takes by itself. -/
theorem Fr.rules {S : Nat → Prop} {w w' : World} (h : Fr S w w') : (∀ b o, b < w.heap.size → ¬ S b → w'.cell? ⟨b, o, none⟩ = w.cell? ⟨b, o, none⟩) ∧ (∀ b o, b < w.heap.size → ¬ S b → w'.frozen? ⟨b, o, none⟩ = w.frozen? ⟨b, o, none⟩) :=
  ⟨fun b o hb hn => World.cell?_of_block (w := w) (w' := w') (a := ⟨b, o, none⟩) (h.blk b hb hn), fun b o hb hn => h.frozen hb hn⟩
theorem Fr.rules0 {w w' : World} (h : Fr No w w') : (∀ b o, b < w.heap.size → w'.cell? ⟨b, o, none⟩ = w.cell? ⟨b, o, none⟩) ∧ (∀ b o, b < w.heap.size → w'.frozen? ⟨b, o, none⟩ = w.frozen? ⟨b, o, none⟩) :=
  ⟨fun b o hb => h.rules.1 b o hb (fun h => h), fun b o hb => h.rules.2 b o hb (fun h => h)⟩

theorem heap_cell {w : World} {b o : Nat} {cs : Array Value} {t : TypeId} {fr : Nat × Nat} {v : Value} (h : w.heap[b]? = some (.cells cs t fr)) (hv : cs[o]? = some v) : w.cell? ⟨b, o, none⟩ = some v := by
  simp [World.cell?, h, hv]
theorem heap_frozen {w : World} {b o : Nat} {cs : Array Value} {t : TypeId} (h : w.heap[b]? = some (.cells cs t (0, 0))) : w.frozen? ⟨b, o, none⟩ = false := by
  simp [World.frozen?, h]
theorem heap_lt {w : World} {b : Nat} {o : Obj} (h : w.heap[b]? = some o) : b < w.heap.size := (Array.getElem?_eq_some_iff.1 h).1
theorem heap_set {w : World} {b : Nat} {v : Value} {t : TypeId} (u : Value) (h : w.heap[b]? = some (.cells #[v] t (0, 0))) : (w.setCell ⟨b, 0, none⟩ u).heap[b]? = some (.cells #[u] t (0, 0)) := by
  simp [World.setCell, Array.getElem?_modify, h]
theorem heap_set_other {w : World} {b b' off : Nat} {o : Obj} (u : Value) (h : w.heap[b]? = some o) (hne : b ≠ b') : (w.setCell ⟨b', off, none⟩ u).heap[b]? = some o := by
  rw [Below.heap_setCell _ _ _ _ hne]; exact h
theorem heap_alloc {w : World} {b : Nat} {o : Obj} (o' : Obj) (h : w.heap[b]? = some o) : (w.alloc o').heap[b]? = some o := by
  rw [Below.heap_alloc _ _ _ (heap_lt h)]; exact h
theorem heap_new (w : World) (o : Obj) : (w.alloc o).heap[w.heap.size]? = some o := World.alloc_heap_new w o

/-- 'Own' things abide whatever leaves the old blocks as they lay. -/
theorem Fr.ownsRow {S : Nat → Prop} {w w' : World} (h : Fr S w w') {base : Nat} {e : TypeId} {size : Nat} {v : Value} {n : Nat} {xs : List Value} (ho : w.ownsRow base e size v n xs)
    (hn : ∀ k, v.ownBlock = some k → ¬ S k) : w'.ownsRow base e size v n xs := by
  obtain ⟨h1, h2⟩ := ho
  refine ⟨h1, ?_⟩
  rcases h2 with h2 | ⟨g, cap, cur, rfl, hg, hh, r⟩
  · exact .inl h2
  · exact .inr ⟨g, cap, cur, rfl, hg, h.heap hh (hn g rfl), r⟩

/-- v is a slice of n elements whose cells read cs (nil, where there are none, or not). -/
def Sl (w : World) (v : Value) (n : Nat) (cs : List Value) : Prop :=
  ∃ a cap, v = .slice a n cap ∧ ((a = none → n = 0 ∧ cap = 0) ∧ n ≤ cap) ∧ (cs ≠ [] → ∃ b off, a = some ⟨b, off, none⟩) ∧ ∀ b off j u, a = some ⟨b, off, none⟩ → cs[j]? = some u → w.cell? ⟨b, off + j, none⟩ = some u

theorem Sl.of_owns {w : World} {base : Nat} {e : TypeId} {size : Nat} {v : Value} {n : Nat} {xs : List Value} (h : w.ownsRow base e size v n xs) : Sl w v n xs := by
  obtain ⟨h1, ⟨rfl, rfl⟩ | ⟨g, cap, cur, rfl, hg, hh, hn, hm, hc, ht⟩⟩ := h
  · simp at h1; subst h1
    exact ⟨none, 0, rfl, ⟨fun _ => ⟨rfl, rfl⟩, Nat.le_refl _⟩, fun h => absurd rfl h, fun b off j u h => by simp at h⟩
  · refine ⟨_, cap, rfl, ⟨by simp, hn⟩, fun _ => ⟨g, 0, rfl⟩, ?_⟩
    rintro b off j u ⟨rfl, rfl⟩ hj
    subst ht
    rw [List.getElem?_take] at hj
    split at hj
    · simp [World.cell?, hh, Nat.zero_add]; simpa using hj
    · simp at hj
/-- A slice that reads so, whose cells lie from a block on. -/
def Sn (base : Nat) (w : World) (v : Value) (n : Nat) (cs : List Value) : Prop := Sl w v n cs ∧ ∀ k, v.ownBlock = some k → cs ≠ [] → base ≤ k
theorem Sn.of_owns {w : World} {base : Nat} {e : TypeId} {size : Nat} {v : Value} {n : Nat} {xs : List Value} (h : w.ownsRow base e size v n xs) : Sn base w v n xs :=
  ⟨Sl.of_owns h, fun k e _ => by
    obtain ⟨h1, ⟨rfl, rfl⟩ | ⟨g, cap, cur, rfl, hg, -⟩⟩ := h
    · cases e
    · cases e; exact hg⟩
theorem Sn.nil (base : Nat) (w : World) : Sn base w (.slice none 0 0) 0 [] := ⟨⟨none, 0, rfl, ⟨fun _ => ⟨rfl, rfl⟩, Nat.le_refl _⟩, fun h => absurd rfl h, fun b off j u h => by simp at h⟩, fun k _ h => absurd rfl h⟩
theorem Sl.fr {S : Nat → Prop} {w w' : World} {v : Value} {n : Nat} {cs : List Value} (h : Sl w v n cs) (hf : Fr S w w') (hn : ∀ k, v.ownBlock = some k → cs ≠ [] → ¬ S k) : Sl w' v n cs := by
  obtain ⟨a, cap, rfl, h0, h1, h2⟩ := h
  refine ⟨a, cap, rfl, h0, h1, fun b off j u e hj => hf.cell (h2 b off j u e hj) (hn b ?_ ?_)⟩
  · subst e; rfl
  · rintro rfl; simp at hj
theorem Sl.fr0 {w w' : World} {v : Value} {n : Nat} {cs : List Value} (h : Sl w v n cs) (hf : Fr No w w') : Sl w' v n cs := h.fr hf (fun _ _ _ h => h)
theorem Sl.nil (w : World) : Sl w (.slice none 0 0) 0 [] := ⟨none, 0, rfl, ⟨fun _ => ⟨rfl, rfl⟩, Nat.le_refl _⟩, fun h => absurd rfl h, fun b off j u h => by simp at h⟩
theorem Sl.form {w : World} {v : Value} {n : Nat} {cs : List Value} (h : Sl w v n cs) : ∃ a cap, v = .slice a n cap := by obtain ⟨a, cap, rfl, _⟩ := h; exact ⟨a, cap, rfl⟩
theorem Sl.form0 {w : World} {v : Value} {n : Nat} {cs : List Value} (h : Sl w v n cs) : ∃ a cap, v = .slice a n cap ∧ (a = none → n = 0 ∧ cap = 0) ∧ n ≤ cap := by obtain ⟨a, cap, rfl, h0, _⟩ := h; exact ⟨a, cap, rfl, h0⟩
/-- Where there is a cell, the slice's address is a plain one, and the cells are there. -/
theorem Sl.at {w : World} {a : Option Addr} {cap n : Nat} {cs : List Value} (h : Sl w (.slice a n cap) n cs) (hne : cs ≠ []) : ∃ b off, a = some ⟨b, off, none⟩ ∧ b < w.heap.size ∧ ∀ j u, cs[j]? = some u → w.cell? ⟨b, off + j, none⟩ = some u := by
  obtain ⟨a', cap', e, _, h1, h2⟩ := h
  injection e with e1 _ e3
  subst e1
  obtain ⟨b, off, rfl⟩ := h1 hne
  have h3 : ∀ j u, cs[j]? = some u → w.cell? ⟨b, off + j, none⟩ = some u := fun j u hj => h2 b off j u rfl hj
  refine ⟨b, off, rfl, ?_, h3⟩
  cases cs with
  | nil => exact absurd rfl hne
  | cons c cs => exact cell_lt (h3 0 c rfl)

/-- A slice that has a cell lies in a block of the world's. -/
theorem Sl.lt {w : World} {v : Value} {n : Nat} {cs : List Value} (h : Sl w v n cs) {k : Nat} (e : v.ownBlock = some k) (hne : cs ≠ []) : k < w.heap.size := by
  obtain ⟨a, cap, rfl⟩ := h.form
  obtain ⟨b, off, rfl, hb, _⟩ := h.at hne
  cases e; exact hb

theorem Sl.le {w : World} {a : Option Addr} {n m cap : Nat} {cs : List Value} (h : Sl w (.slice a m cap) n cs) : n ≤ cap := by
  obtain ⟨a', cap', e, h0, _⟩ := h; injection e with _ e2 e3; subst e3; exact h0.2
/-- s[:k]. -/
theorem Sl.take {w : World} {a : Option Addr} {n cap : Nat} {cs : List Value} (h : Sl w (.slice a n cap) n cs) {k : Nat} (hk : k ≤ n) (size : Nat) : Sl w (.slice a k cap) k (cs.take (k * size)) := by
  obtain ⟨a', cap', e, h0, h1, h2⟩ := h
  injection e with e1 _ e3; subst e1; subst e3
  refine ⟨a, cap, rfl, ⟨fun e => ⟨by have := (h0.1 e).1; omega, (h0.1 e).2⟩, by omega⟩, fun hne => h1 (by rintro rfl; simp at hne), fun b off j u e hj => h2 b off j u e ?_⟩
  rw [List.getElem?_take] at hj
  split at hj
  · exact hj
  · cases hj
/-- s[k:]. -/
theorem Sl.drop {w : World} {a : Option Addr} {n cap : Nat} {cs : List Value} (h : Sl w (.slice a n cap) n cs) {k : Nat} (hk : k ≤ n) {size : Nat} (hcs : cs.length = n * size) :
    Sl w (.slice (if cap = k then a else a.map (·.add (k * size))) (n - k) (cap - k)) (n - k) (cs.drop (k * size)) := by
  obtain ⟨a', cap', e, h0, h1, h2⟩ := h
  injection e with e1 _ e3; subst e1; subst e3
  by_cases hc : cap = k
  · have hn : n = k := by omega
    subst hn
    rw [if_pos hc, List.drop_of_length_le (by omega)]
    exact ⟨a, _, rfl, ⟨fun e => by have := h0.1 e; omega, by omega⟩, fun h => absurd rfl h, fun b off j u _ h => by simp at h⟩
  · rw [if_neg hc]
    refine ⟨_, _, rfl, ⟨fun e => ?_, by omega⟩, fun hne => ?_, ?_⟩
    · cases a with
      | none => have := h0.1 rfl; omega
      | some _ => cases e
    · obtain ⟨b, off, rfl⟩ := h1 (by rintro rfl; simp at hne)
      by_cases hz : k * size = 0
      · exact ⟨b, off, by simp [Addr.add, hz]⟩
      · exact ⟨b, off + k * size, by simp [Addr.add, hz]⟩
    · intro b off j u e hj
      rw [List.getElem?_drop] at hj
      cases a with
      | none => cases e
      | some ad =>
        obtain ⟨b', off', e'⟩ := h1 (by rintro rfl; simp at hj)
        injection e' with e'
        subst e'
        have := h2 b' off' (k * size + j) u rfl hj
        simp only [Option.map_some, Option.some.injEq] at e
        by_cases hz : k * size = 0
        · simp only [Addr.add, hz, if_true] at e
          cases e
          rw [hz, Nat.zero_add] at this; exact this
        · simp only [Addr.add, hz, if_false] at e
          cases e
          rw [Nat.add_assoc]; exact this

end Go.Proofs.YtpcikbloflpahaaDoor
