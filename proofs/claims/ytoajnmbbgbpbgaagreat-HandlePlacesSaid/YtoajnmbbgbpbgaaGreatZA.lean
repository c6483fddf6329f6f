/-
  Words of this seat's own on worlds: what a call leaves as it was ('Fr'), what a slice reads as ('Sl').
-/
import Derived.Below
import Derived.Lib.Hide
import Derived.RangeFuncNested
import Derived.RangeFuncBound
import Derived.RangeFuncCalls
import Derived.RangeFuncLeaves
import Derived.Shelf.Abstract
import Derived.Shelf.RegionOpen
import Derived.WalkKit
import Derived.OwnWalkIn
import Derived.TacticsInMore
import Derived.LoopNIn
import Derived.LoopIn
import Derived.Maps.AppendAt
import Derived.Laws.AppendOwnNone
import Derived.Laws.OwnMore
import Derived.Deep.RegionLaw
import Derived.Laws.BitsLemmas
import Derived.Test.YtoajnmbbgbpbgaaGreatProg
import Derived.Deep.QuietTactic
import Derived.BigQuiet
import Derived.WalkSmall
import Derived.WalkSpells
namespace Go.Proofs.YtoajnmbbgbpbgaaGreat
set_option linter.unusedVariables false
set_option linter.unusedSimpArgs false
open Go.RowKit

/-- Of what lay in w nothing has turned, but for the blocks of S; no block has gone. -/
structure Fr (S : Nat → Prop) (w w' : World) : Prop where
  os : w'.os = w.os
  tape : w'.tape = w.tape
  output : w'.output = w.output
  size : w.heap.size ≤ w'.heap.size
  blk : ∀ k, k < w.heap.size → ¬ S k → w'.heap[k]? = w.heap[k]?

/-- No block at all. -/
abbrev No : Nat → Prop := fun _ => False

theorem Fr.refl (S : Nat → Prop) (w : World) : Fr S w w := ⟨rfl, rfl, rfl, Nat.le_refl _, fun _ _ _ => rfl⟩
theorem Fr.trans' {S T : Nat → Prop} {a b c : World} (h : Fr S a b) (k : Fr T b c) (hT : ∀ i, i < a.heap.size → T i → S i) : Fr S a c :=
  ⟨k.os.trans h.os, k.tape.trans h.tape, k.output.trans h.output, Nat.le_trans h.size k.size, fun i hi hn =>
    (k.blk i (Nat.lt_of_lt_of_le hi h.size) (fun ht => hn (hT i hi ht))).trans (h.blk i hi hn)⟩
theorem Fr.trans {S : Nat → Prop} {a b c : World} (h : Fr S a b) (k : Fr S b c) : Fr S a c := h.trans' k (fun _ _ h => h)
theorem Fr.mono {S T : Nat → Prop} {a b : World} (h : Fr S a b) (hT : ∀ i, i < a.heap.size → S i → T i) : Fr T a b :=
  ⟨h.os, h.tape, h.output, h.size, fun i hi hn => h.blk i hi (fun hs => hn (hT i hi hs))⟩
theorem Fr.no {S : Nat → Prop} {a b : World} (h : Fr No a b) : Fr S a b := h.mono (fun _ _ h => h.elim)
theorem Fr.drew {S : Nat → Prop} {a w : World} (h : Fr S a w) : Fr S a w.drew := ⟨h.os, h.tape, h.output, h.size, h.blk⟩
theorem Fr.drewN {S : Nat → Prop} {a w : World} (h : Fr S a w) (n : Nat) : Fr S a (w.drewN n) := ⟨h.os, h.tape, h.output, h.size, h.blk⟩
theorem Fr.alloc {S : Nat → Prop} {a w : World} (h : Fr S a w) (o : Obj) : Fr S a (w.alloc o) :=
  h.trans' (T := No) ⟨rfl, rfl, rfl, by simp, fun k hk _ => Below.heap_alloc _ _ _ hk⟩ (fun _ _ h => h.elim)
theorem Fr.setCell {S : Nat → Prop} {a w : World} (h : Fr S a w) {p : Addr} (hp : p.block < a.heap.size → S p.block) (u : Value) : Fr S a (w.setCell p u) :=
  h.trans' (T := fun k => k = p.block) ⟨rfl, rfl, rfl, by simp [World.setCell], fun k _ hn => Below.heap_setCell _ _ _ _ hn⟩ (fun i hi e => by subst e; exact hp hi)
theorem Fr.grown {S : Nat → Prop} {a w w' : World} (h : Fr S a w) {row : Option Nat} (hg : w.grownBy w' row) (hr : ∀ k, row = some k → k < a.heap.size → S k) : Fr S a w' :=
  h.trans' (T := fun k => row = some k) ⟨hg.os, hg.tape, hg.output, hg.size, fun k hk hn => hg.block k hk (fun e => hn e.symm)⟩ (fun i hi e => hr i e hi)
theorem Fr.below {w w' : World} (h : Fr No w w') : Below w.heap.size w w' := ⟨h.os, h.tape, h.output, h.size, fun k hk => h.blk k hk (fun h => h)⟩
theorem Fr.of_below {S : Nat → Prop} {w w' : World} (h : Below w.heap.size w w') : Fr S w w' := ⟨h.os, h.tape, h.output, h.size, fun k hk _ => h.block k hk⟩
theorem Fr.grownBy {w w' : World} (h : Fr No w w') (row : Option Nat) : w.grownBy w' row := ⟨h.os, h.tape, h.output, h.size, fun k hk _ => h.blk k hk (fun h => h)⟩
theorem Fr.keepsFrom {S : Nat → Prop} {w w' : World} (h : Fr S w w') {B : Nat} (hS : ∀ k, k < w.heap.size → S k → k < B) : KeepsFrom B w w' :=
  ⟨h.size, fun k o hB hk _ => (h.blk k (Array.getElem?_eq_some_iff.1 hk).1 (fun hs => by have := hS k (Array.getElem?_eq_some_iff.1 hk).1 hs; omega)).trans hk⟩
theorem Fr.heap {S : Nat → Prop} {w w' : World} (h : Fr S w w') {k : Nat} {o : Obj} (hk : w.heap[k]? = some o) (hn : ¬ S k) : w'.heap[k]? = some o :=
  (h.blk k (Array.getElem?_eq_some_iff.1 hk).1 hn).trans hk
theorem Fr.cell {S : Nat → Prop} {w w' : World} (h : Fr S w w') {b o : Nat} {v : Value} (hc : w.cell? ⟨b, o, none⟩ = some v) (hn : ¬ S b) : w'.cell? ⟨b, o, none⟩ = some v := by
  by_cases hb : b < w.heap.size
  · rw [World.cell?_of_block (w := w) (w' := w') (a := ⟨b, o, none⟩) (h.blk b hb hn)]; exact hc
  · exfalso; simp [World.cell?, Array.getElem?_eq_none (Nat.le_of_not_lt hb)] at hc
theorem cell_lt {w : World} {b o : Nat} {v : Value} (hc : w.cell? ⟨b, o, none⟩ = some v) : b < w.heap.size := by
  by_cases hb : b < w.heap.size
  · exact hb
  · exfalso; simp [World.cell?, Array.getElem?_eq_none (Nat.le_of_not_lt hb)] at hc
theorem Fr.frozen {S : Nat → Prop} {w w' : World} (h : Fr S w w') {b o : Nat} (hb : b < w.heap.size) (hn : ¬ S b) : w'.frozen? ⟨b, o, none⟩ = w.frozen? ⟨b, o, none⟩ :=
  World.frozen?_of_block (w := w) (w' := w') (a := ⟨b, o, none⟩) (h.blk b hb hn)
/-- A cell of an old world, read in a later one: the two rules that the walk takes by itself. -/
theorem Fr.rules {S : Nat → Prop} {w w' : World} (h : Fr S w w') : (∀ b o, b < w.heap.size → ¬ S b → w'.cell? ⟨b, o, none⟩ = w.cell? ⟨b, o, none⟩) ∧ (∀ b o, b < w.heap.size → ¬ S b → w'.frozen? ⟨b, o, none⟩ = w.frozen? ⟨b, o, none⟩) :=
  ⟨fun b o hb hn => World.cell?_of_block (w := w) (w' := w') (a := ⟨b, o, none⟩) (h.blk b hb hn), fun b o hb hn => h.frozen hb hn⟩
theorem Fr.rules0 {w w' : World} (h : Fr No w w') : (∀ b o, b < w.heap.size → w'.cell? ⟨b, o, none⟩ = w.cell? ⟨b, o, none⟩) ∧ (∀ b o, b < w.heap.size → w'.frozen? ⟨b, o, none⟩ = w.frozen? ⟨b, o, none⟩) :=
  ⟨fun b o hb => h.rules.1 b o hb (fun h => h), fun b o hb => h.rules.2 b o hb (fun h => h)⟩

theorem heap_cell {w : World} {b o : Nat} {cs : Array Value} {t : TypeId} {fr : Nat × Nat} {v : Value} (h : w.heap[b]? = some (.cells cs t fr)) (hv : cs[o]? = some v) : w.cell? ⟨b, o, none⟩ = some v := by
  simp [World.cell?, h, hv]
theorem heap_frozen {w : World} {b o : Nat} {cs : Array Value} {t : TypeId} (h : w.heap[b]? = some (.cells cs t (0, 0))) : w.frozen? ⟨b, o, none⟩ = false := by
  simp [World.frozen?, h]
theorem heap_lt {w : World} {b : Nat} {o : Obj} (h : w.heap[b]? = some o) : b < w.heap.size := (Array.getElem?_eq_some_iff.1 h).1
theorem heap_set {w : World} {b : Nat} {v : Value} {t : TypeId} (u : Value) (h : w.heap[b]? = some (.cells #[v] t (0, 0))) : (w.setCell ⟨b, 0, none⟩ u).heap[b]? = some (.cells #[u] t (0, 0)) := by
  simp [World.setCell, Array.getElem?_modify, h]
theorem heap_set_other {w : World} {b b' off : Nat} {o : Obj} (u : Value) (h : w.heap[b]? = some o) (hne : b ≠ b') : (w.setCell ⟨b', off, none⟩ u).heap[b]? = some o := by
  rw [Below.heap_setCell _ _ _ _ hne]; exact h
theorem heap_alloc {w : World} {b : Nat} {o : Obj} (o' : Obj) (h : w.heap[b]? = some o) : (w.alloc o').heap[b]? = some o := by
  rw [Below.heap_alloc _ _ _ (heap_lt h)]; exact h
theorem heap_new (w : World) (o : Obj) : (w.alloc o).heap[w.heap.size]? = some o := World.alloc_heap_new w o

/-- 'Own' things abide whatever leaves the old blocks as they lay. -/
theorem Fr.ownsRow {S : Nat → Prop} {w w' : World} (h : Fr S w w') {base : Nat} {e : TypeId} {size : Nat} {v : Value} {n : Nat} {xs : List Value} (ho : w.ownsRow base e size v n xs)
    (hn : ∀ k, v.ownBlock = some k → ¬ S k) : w'.ownsRow base e size v n xs := by
  obtain ⟨h1, h2⟩ := ho
  refine ⟨h1, ?_⟩
  rcases h2 with h2 | ⟨g, cap, cur, rfl, hg, hh, r⟩
  · exact .inl h2
  · exact .inr ⟨g, cap, cur, rfl, hg, h.heap hh (hn g rfl), r⟩

/-- v is a slice of n elements whose cells read cs (nil, where there are none, or not). -/
def Sl (w : World) (v : Value) (n : Nat) (cs : List Value) : Prop :=
  ∃ a cap, v = .slice a n cap ∧ ((a = none → n = 0 ∧ cap = 0) ∧ n ≤ cap) ∧ (cs ≠ [] → ∃ b off, a = some ⟨b, off, none⟩) ∧ ∀ b off j u, a = some ⟨b, off, none⟩ → cs[j]? = some u → w.cell? ⟨b, off + j, none⟩ = some u

theorem Sl.of_owns {w : World} {base : Nat} {e : TypeId} {size : Nat} {v : Value} {n : Nat} {xs : List Value} (h : w.ownsRow base e size v n xs) : Sl w v n xs := by
  obtain ⟨h1, ⟨rfl, rfl⟩ | ⟨g, cap, cur, rfl, hg, hh, hn, hm, hc, ht⟩⟩ := h
  · simp at h1; subst h1
    exact ⟨none, 0, rfl, ⟨fun _ => ⟨rfl, rfl⟩, Nat.le_refl _⟩, fun h => absurd rfl h, fun b off j u h => by simp at h⟩
  · refine ⟨_, cap, rfl, ⟨by simp, hn⟩, fun _ => ⟨g, 0, rfl⟩, ?_⟩
    rintro b off j u ⟨rfl, rfl⟩ hj
    subst ht
    rw [List.getElem?_take] at hj
    split at hj
    · simp [World.cell?, hh, Nat.zero_add]; simpa using hj
    · simp at hj
/-- A slice that reads so, whose cells lie from a block on. -/
def Sn (base : Nat) (w : World) (v : Value) (n : Nat) (cs : List Value) : Prop := Sl w v n cs ∧ ∀ k, v.ownBlock = some k → cs ≠ [] → base ≤ k
theorem Sn.of_owns {w : World} {base : Nat} {e : TypeId} {size : Nat} {v : Value} {n : Nat} {xs : List Value} (h : w.ownsRow base e size v n xs) : Sn base w v n xs :=
  ⟨Sl.of_owns h, fun k e _ => by
    obtain ⟨h1, ⟨rfl, rfl⟩ | ⟨g, cap, cur, rfl, hg, -⟩⟩ := h
    · cases e
    · cases e; exact hg⟩
theorem Sn.nil (base : Nat) (w : World) : Sn base w (.slice none 0 0) 0 [] := ⟨⟨none, 0, rfl, ⟨fun _ => ⟨rfl, rfl⟩, Nat.le_refl _⟩, fun h => absurd rfl h, fun b off j u h => by simp at h⟩, fun k _ h => absurd rfl h⟩
theorem Sl.fr {S : Nat → Prop} {w w' : World} {v : Value} {n : Nat} {cs : List Value} (h : Sl w v n cs) (hf : Fr S w w') (hn : ∀ k, v.ownBlock = some k → cs ≠ [] → ¬ S k) : Sl w' v n cs := by
  obtain ⟨a, cap, rfl, h0, h1, h2⟩ := h
  refine ⟨a, cap, rfl, h0, h1, fun b off j u e hj => hf.cell (h2 b off j u e hj) (hn b ?_ ?_)⟩
  · subst e; rfl
  · rintro rfl; simp at hj
theorem Sl.fr0 {w w' : World} {v : Value} {n : Nat} {cs : List Value} (h : Sl w v n cs) (hf : Fr No w w') : Sl w' v n cs := h.fr hf (fun _ _ _ h => h)
theorem Sl.nil (w : World) : Sl w (.slice none 0 0) 0 [] := ⟨none, 0, rfl, ⟨fun _ => ⟨rfl, rfl⟩, Nat.le_refl _⟩, fun h => absurd rfl h, fun b off j u h => by simp at h⟩
theorem Sl.form {w : World} {v : Value} {n : Nat} {cs : List Value} (h : Sl w v n cs) : ∃ a cap, v = .slice a n cap := by obtain ⟨a, cap, rfl, _⟩ := h; exact ⟨a, cap, rfl⟩
theorem Sl.form0 {w : World} {v : Value} {n : Nat} {cs : List Value} (h : Sl w v n cs) : ∃ a cap, v = .slice a n cap ∧ (a = none → n = 0 ∧ cap = 0) ∧ n ≤ cap := by obtain ⟨a, cap, rfl, h0, _⟩ := h; exact ⟨a, cap, rfl, h0⟩
/-- Where there is a cell, the slice's address is a plain one, and the cells are there. -/
theorem Sl.at {w : World} {a : Option Addr} {cap n : Nat} {cs : List Value} (h : Sl w (.slice a n cap) n cs) (hne : cs ≠ []) : ∃ b off, a = some ⟨b, off, none⟩ ∧ b < w.heap.size ∧ ∀ j u, cs[j]? = some u → w.cell? ⟨b, off + j, none⟩ = some u := by
  obtain ⟨a', cap', e, _, h1, h2⟩ := h
  injection e with e1 _ e3
  subst e1
  obtain ⟨b, off, rfl⟩ := h1 hne
  have h3 : ∀ j u, cs[j]? = some u → w.cell? ⟨b, off + j, none⟩ = some u := fun j u hj => h2 b off j u rfl hj
  refine ⟨b, off, rfl, ?_, h3⟩
  cases cs with
  | nil => exact absurd rfl hne
  | cons c cs => exact cell_lt (h3 0 c rfl)

/-- A slice that has a cell lies in a block of the world's. -/
theorem Sl.lt {w : World} {v : Value} {n : Nat} {cs : List Value} (h : Sl w v n cs) {k : Nat} (e : v.ownBlock = some k) (hne : cs ≠ []) : k < w.heap.size := by
  obtain ⟨a, cap, rfl⟩ := h.form
  obtain ⟨b, off, rfl, hb, _⟩ := h.at hne
  cases e; exact hb

theorem Sl.le {w : World} {a : Option Addr} {n m cap : Nat} {cs : List Value} (h : Sl w (.slice a m cap) n cs) : n ≤ cap := by
  obtain ⟨a', cap', e, h0, _⟩ := h; injection e with _ e2 e3; subst e3; exact h0.2
/-- s[:k]. -/
theorem Sl.take {w : World} {a : Option Addr} {n cap : Nat} {cs : List Value} (h : Sl w (.slice a n cap) n cs) {k : Nat} (hk : k ≤ n) (size : Nat) : Sl w (.slice a k cap) k (cs.take (k * size)) := by
  obtain ⟨a', cap', e, h0, h1, h2⟩ := h
  injection e with e1 _ e3; subst e1; subst e3
  refine ⟨a, cap, rfl, ⟨fun e => ⟨by have := (h0.1 e).1; omega, (h0.1 e).2⟩, by omega⟩, fun hne => h1 (by rintro rfl; simp at hne), fun b off j u e hj => h2 b off j u e ?_⟩
  rw [List.getElem?_take] at hj
  split at hj
  · exact hj
  · cases hj
/-- s[k:]. -/
theorem Sl.drop {w : World} {a : Option Addr} {n cap : Nat} {cs : List Value} (h : Sl w (.slice a n cap) n cs) {k : Nat} (hk : k ≤ n) {size : Nat} (hcs : cs.length = n * size) :
    Sl w (.slice (if cap = k then a else a.map (·.add (k * size))) (n - k) (cap - k)) (n - k) (cs.drop (k * size)) := by
  obtain ⟨a', cap', e, h0, h1, h2⟩ := h
  injection e with e1 _ e3; subst e1; subst e3
  by_cases hc : cap = k
  · have hn : n = k := by omega
    subst hn
    rw [if_pos hc, List.drop_of_length_le (by omega)]
    exact ⟨a, _, rfl, ⟨fun e => by have := h0.1 e; omega, by omega⟩, fun h => absurd rfl h, fun b off j u _ h => by simp at h⟩
  · rw [if_neg hc]
    refine ⟨_, _, rfl, ⟨fun e => ?_, by omega⟩, fun hne => ?_, ?_⟩
    · cases a with
      | none => have := h0.1 rfl; omega
      | some _ => cases e
    · obtain ⟨b, off, rfl⟩ := h1 (by rintro rfl; simp at hne)
      by_cases hz : k * size = 0
      · exact ⟨b, off, by simp [Addr.add, hz]⟩
      · exact ⟨b, off + k * size, by simp [Addr.add, hz]⟩
    · intro b off j u e hj
      rw [List.getElem?_drop] at hj
      cases a with
      | none => cases e
      | some ad =>
        obtain ⟨b', off', e'⟩ := h1 (by rintro rfl; simp at hj)
        injection e' with e'
        subst e'
        have := h2 b' off' (k * size + j) u rfl hj
        simp only [Option.map_some, Option.some.injEq] at e
        by_cases hz : k * size = 0
        · simp only [Addr.add, hz, if_true] at e
          cases e
          rw [hz, Nat.zero_add] at this; exact this
        · simp only [Addr.add, hz, if_false] at e
          cases e
          rw [Nat.add_assoc]; exact this

end Go.Proofs.YtoajnmbbgbpbgaaGreat
namespace Go.Proofs.YtoajnmbbgbpbgaaGreat
set_option linter.unusedVariables false
set_option linter.unusedSimpArgs false
open Go.RowKit

/-- A fence that lets all in, at whatever depth. -/
structure Opens (F : Fence) : Prop where
  depth : F.depth = none
  fn : ∀ f, F.fn f
theorem wide_depth : Fence.wide.depth = none := rfl
theorem inRound_depth (l : Nat) : (Fence.wide.inRound l).depth = none := rfl
theorem wide_fn (f : FuncId) : Fence.wide.fn f = True := rfl
theorem inRound_fn (l : Nat) (f : FuncId) : (Fence.wide.inRound l).fn f = True := rfl
theorem opens_wide : Opens Fence.wide := ⟨rfl, fun _ => trivial⟩
theorem Opens.inRound {F : Fence} (h : Opens F) (l : Nat) : Opens (F.inRound l) := ⟨h.depth, h.fn⟩

/-- The world at a piece of code, under a name. -/
theorem wpIn_gen {F : Fence} {n : Nat} {P : Program} {c : Code} {Q : Exit → Act → World → Prop} {a : Act} {w : World} (h : ∀ W0, W0 = w → c.wpIn F n P Q a W0) : c.wpIn F n P Q a w := h w rfl

/-- THE ITERATOR's CONTRACT: it hands on the elements of ys, one by one, and stops when it is told to. Kp: what of the world it leans on. -/
def Iter {α : Type} (F : Fence) (P : Program) (g : Nat) (lb : Array Value) (encs : α → Array Value) (Kp : World → Prop) (ys : List α) : Prop :=
  ∀ (l : Nat) (J : List α → World → Prop) (E : World → Prop) (W : World), Kp W →
    (∀ pre W W', J pre W → W.grownBy W' none → J pre W') →
    (∀ pre x W1, pre ++ [x] <+: ys → J pre W1 → Kp W1 → YieldAt F 0 P l (encs x) W1 fun e W' =>
      (e = .returned (.bool true) ∧ J (pre ++ [x]) W' ∧ Kp W') ∨ (e = .returned (.bool false) ∧ E W')) →
    (∀ W', J ys W' → Kp W' → E W') → J [] W →
    CallsIn F 0 P g (#[.func (.yield l) #[] #[]] ++ lb) W fun e W' => (∃ v, e = .returned v) ∧ E W'

theorem Iter.inRound {α : Type} {F : Fence} {P : Program} {g : Nat} {lb : Array Value} {encs : α → Array Value} {Kp : World → Prop} {ys : List α} (l : Nat)
    (h : Iter F P g lb encs Kp ys) : Iter (F.inRound l) P g lb encs Kp ys := by
  intro l' J E W hK hJ hY hE h0
  exact (h l' J E W hK hJ (fun pre x W1 hp hj hk => hY pre x W1 hp hj hk) hE h0)

/-- How the body of a round may be left. B: the heap's size where the loop begins. -/
def bodyQ {α : Type} (B : Nat) (Kp : World → Prop) (I : List α → World → Prop) (Ix : Code → List α → World → Prop) (xs : List α) (W : World) : Exit → Act → World → Prop
  | .normal, _, W' => KeepsFrom B W W' ∧ Kp W' ∧ I xs W'
  | .ret, _, W' => KeepsFrom B W W' ∧ Ix .ret xs W'
  | .exit id, _, W' => KeepsFrom B W W' ∧ Ix (.exit id) xs W'
  | .goto t, _, W' => KeepsFrom B W W' ∧ Ix (.goto t) xs W'
  | .panic _, _, _ => False
  | .outgrown, _, _ => False

variable {F : Fence} {P : Program}

/-- THE STATEMENT, OUTSIDE OF ANY ROUND. -/
theorem range_outer {α : Type} {g : Operand} {ps : Array Tmp} {assign body : Code} {Q : Exit → Act → World → Prop} {a : Act} {w : World}
    (hF : Opens F) (hro : F.round = none) {gf : Nat} {lb : Array Value} (hg : a.eval g = .func (.func gf) #[] lb) (eg : ∀ args w, (callFunc gf args).run P w = .ok (.enter gf args) w)
    {encs : α → Array Value} {Kp : World → Prop} {ys : List α} (hseq : Iter F P gf lb encs Kp ys) (hps : ∀ x, (encs x).size = ps.size)
    (hKp : OwnFrom w.heap.size (fun (_ : Unit) W => Kp W)) (hK0 : Kp w)
    (I : List α → World → Prop) (Ix : Code → List α → World → Prop) (hI : OwnFrom w.heap.size I) (hIx : ∀ c, OwnFrom w.heap.size (Ix c)) (h0 : I [] w)
    (hround : ∀ (l : Nat) (pre : List α) (x : α) (W : World), w.heap.size ≤ l → (∃ r, W.heap[l]? = some (.loop r)) → pre ++ [x] <+: ys → I pre W → Kp W →
      assign.wpIn (F.inRound l) 0 P (Exit.then (fun a₁ W₁ => KeepsFrom w.heap.size W W₁ ∧ I pre W₁ ∧ Kp W₁ ∧ ∀ W₂, W₁.grownBy W₂ (some l) → (∃ r, W₂.heap[l]? = some (.loop r)) → I pre W₂ → Kp W₂ →
        body.wpIn (F.inRound l) 0 P (bodyQ w.heap.size Kp I Ix (pre ++ [x]) W₂) a₁ W₂) (fun _ _ _ => False))
        { tmps := (ps.zip (encs x)).foldl (fun t (p, v) => t.setIfInBounds p v) a.tmps, defers := [] } W)
    (hdone : ∀ (D : Nat) (W : World), w.heap.size ≤ D → I ys W ∧ Kp W → W.heap[D]? = some (.deferred (some [])) → Q .normal { a with defers := { target := .collected D, args := #[] } :: a.defers } W)
    (hstop : ∀ (D : Nat) (c : Code) (pre : List α) (W : World), w.heap.size ≤ D → pre <+: ys → Ix c pre W → W.heap[D]? = some (.deferred (some [])) → c.wpIn F 0 P Q { a with defers := { target := .collected D, args := #[] } :: a.defers } W) :
    (Code.rangeFunc g ps assign body).wpIn F 0 P Q a w := by
  have hdep : F.depth.isSome = true → 1 ≤ 0 := fun h => by rw [hF.depth] at h; simp at h
  refine wpIn_rangeFunc ?_
  intro fn hfn
  rw [hro]
  obtain ⟨rec, hrec⟩ : ∃ rec : LoopState → Option Code → Loop, rec = fun st pe => { state := st, pending := pe, fn, tmps := a.tmps, params := ps, assign, body, defers := w.heap.size } := ⟨_, rfl⟩
  obtain ⟨W1, hW1⟩ : ∃ W1, (w.alloc (.deferred (some []))).alloc (.loop (rec .ready none)) = W1 := ⟨_, rfl⟩
  have hL1 : W1.heap[w.heap.size + 1]? = some (.loop (rec .ready none)) := by
    rw [← hW1]; have := World.alloc_heap_new (w.alloc (.deferred (some []))) (.loop (rec .ready none)); rwa [World.size_alloc] at this
  have hD1 : W1.heap[w.heap.size]? = some (.deferred (some [])) := by
    rw [← hW1]; exact (Below.heap_alloc _ _ _ (by simp)).trans (World.alloc_heap_new w _)
  have hI1 : I [] W1 := by rw [← hW1]; exact hI.alloc _ (hI.alloc _ h0)
  have hK1 : Kp W1 := by rw [← hW1]; exact hKp.alloc (s := ()) _ (hKp.alloc (s := ()) _ hK0)
  refine ⟨w.heap.size + 1, [{ target := .collected w.heap.size, args := #[] }], W1, { target := .fn (.func gf) lb, args := #[.func (.yield (w.heap.size + 1)) #[] #[]] }, W1, gf,
    #[.func (.yield (w.heap.size + 1)) #[] #[]] ++ lb, W1, ?_, ?_, ?_, ?_, hdep, ?_⟩
  · rw [← hW1, hrec]; exact run_enterLoop_outer _ _ _ _ _
  · simp only [resolve, hg]
    simp [go_sem]
  · intro f' hf'; exact hF.fn f'
  · simp [invoke, go_sem, eg]
  · have key := hseq (w.heap.size + 1)
      (fun pre W => I pre W ∧ W.heap[w.heap.size + 1]? = some (.loop (rec .ready none)) ∧ W.heap[w.heap.size]? = some (.deferred (some [])))
      (fun W => (I ys W ∧ Kp W ∧ W.heap[w.heap.size + 1]? = some (.loop (rec .ready none)) ∧ W.heap[w.heap.size]? = some (.deferred (some []))) ∨
        ∃ pre c, pre <+: ys ∧ Ix c pre W ∧ W.heap[w.heap.size + 1]? = some (.loop (rec .done (some c))) ∧ W.heap[w.heap.size]? = some (.deferred (some [])))
      W1 hK1
      (fun s A B hs hg' => ⟨hI s A B none hs.1 hg' (fun r e => by cases e),
        (hg'.block _ (Array.getElem?_eq_some_iff.1 hs.2.1).1 (by simp)).trans hs.2.1, (hg'.block _ (Array.getElem?_eq_some_iff.1 hs.2.2).1 (by simp)).trans hs.2.2⟩)
      ?_ (fun W' h hk => .inl ⟨h.1, hk, h.2⟩) ⟨hI1, hL1, hD1⟩
    · refine key.mono ?_
      rintro e W2 ⟨⟨v, rfl⟩, (⟨hi, hkp, hl, hk⟩ | ⟨pre, c, hpre, hi, hl, hk⟩)⟩
      · exact ⟨none, _, by have := run_endLoop (P := P) hl (by rw [hrec]; simp); rw [hrec] at this; exact this, hdone _ _ (Nat.le_refl _) ⟨hI.putObj _ hi (by omega) hl rfl, hKp.putObj (s := ()) _ hkp (by omega) hl rfl⟩ ((World.putObj_heap_other (by omega)).trans hk)⟩
      · exact ⟨some c, _, by have := run_endLoop (P := P) hl (by rw [hrec]; simp); rw [hrec] at this; exact this, hstop _ c pre _ (Nat.le_refl _) hpre ((hIx c).putObj _ hi (by omega) hl rfl) ((World.putObj_heap_other (by omega)).trans hk)⟩
    · -- one round
      rintro pre x W hpx ⟨hi, hl, hk⟩ hkp
      have hy := run_yield (P := P) (args := encs x) hl (by rw [hrec]; exact hps x)
      rw [hrec] at hy
      refine ⟨fn, _, assign, body, hy, roundIn_of_wpIn hfn (wpIn_mono (hround _ pre x W (by omega) ⟨_, hl⟩ hpx hi hkp) ?_)⟩
      clear hy
      rintro e a' Wa hq
      cases e with
      | normal =>
        obtain ⟨hkfa, hia, hkpa, hbody⟩ := hq
        replace hl := hkfa.same _ _ (by omega) hl rfl
        replace hk := hkfa.same _ _ (Nat.le_refl _) hk rfl
        have hlt : w.heap.size + 1 < Wa.heap.size := (Array.getElem?_eq_some_iff.1 hl).1
        refine ⟨_, run_beginRound hl (by rw [hrec]), ?_⟩
        have hl2 : (Wa.putObj (w.heap.size + 1) (.loop { rec .ready none with state := .busy })).heap[w.heap.size + 1]? = some (.loop { rec .ready none with state := .busy }) := World.putObj_heap_same hlt
        have hk2 : (Wa.putObj (w.heap.size + 1) (.loop { rec .ready none with state := .busy })).heap[w.heap.size]? = some (.deferred (some [])) := (World.putObj_heap_other (by omega)).trans hk
        refine wpIn_mono (hbody _ (grownBy_putObj' _ _ _) ⟨_, hl2⟩ (hI.putObj _ hia (by omega) hl rfl) (hKp.putObj (s := ()) _ hkpa (by omega) hl rfl)) ?_
        have fin : ∀ (jump : Option Code) (W3 : World), KeepsFrom w.heap.size (Wa.putObj (w.heap.size + 1) (.loop { rec .ready none with state := .busy })) W3 →
            (Instr.endRound (w.heap.size + 1) jump).run P W3 = .ok (.bool jump.isNone) (W3.putObj (w.heap.size + 1) (.loop (rec (if jump.isNone then .ready else .done) jump))) ∧
            W3.heap[w.heap.size + 1]? = some (.loop { rec .ready none with state := .busy }) ∧
            (W3.putObj (w.heap.size + 1) (.loop (rec (if jump.isNone then .ready else .done) jump))).heap[w.heap.size + 1]? = some (.loop (rec (if jump.isNone then .ready else .done) jump)) ∧
            (W3.putObj (w.heap.size + 1) (.loop (rec (if jump.isNone then .ready else .done) jump))).heap[w.heap.size]? = some (.deferred (some [])) := fun jump W3 hk3 => by
          have hl3 := hk3.same _ _ (by omega) hl2 rfl
          have := run_endRound (P := P) jump hl3
          rw [hrec] at this ⊢
          exact ⟨this, by rw [hrec] at hl3; exact hl3, World.putObj_heap_same (Array.getElem?_eq_some_iff.1 hl3).1, (World.putObj_heap_other (by omega)).trans (hk3.same _ _ (Nat.le_refl _) hk2 rfl)⟩
        rintro e a3 W3 hp
        cases e with
        | normal =>
          obtain ⟨hk3, hkp3, hi3⟩ := hp
          obtain ⟨hr, hl3, hl4, hk4⟩ := fin none W3 hk3
          exact ⟨_, _, hr, .inl ⟨rfl, ⟨hI.putObj _ hi3 (by omega) hl3 rfl, hl4, hk4⟩, hKp.putObj (s := ()) _ hkp3 (by omega) hl3 rfl⟩⟩
        | ret =>
          obtain ⟨hk3, hi3⟩ := hp
          obtain ⟨hr, hl3, hl4, hk4⟩ := fin (some .ret) W3 hk3
          exact ⟨_, _, hr, .inr ⟨rfl, .inr ⟨_, .ret, hpx, (hIx _).putObj _ hi3 (by omega) hl3 rfl, hl4, hk4⟩⟩⟩
        | exit id =>
          obtain ⟨hk3, hi3⟩ := hp
          obtain ⟨hr, hl3, hl4, hk4⟩ := fin (some (.exit id)) W3 hk3
          exact ⟨_, _, hr, .inr ⟨rfl, .inr ⟨_, .exit id, hpx, (hIx _).putObj _ hi3 (by omega) hl3 rfl, hl4, hk4⟩⟩⟩
        | goto t =>
          obtain ⟨hk3, hi3⟩ := hp
          obtain ⟨hr, hl3, hl4, hk4⟩ := fin (some (.goto t)) W3 hk3
          exact ⟨_, _, hr, .inr ⟨rfl, .inr ⟨_, .goto t, hpx, (hIx _).putObj _ hi3 (by omega) hl3 rfl, hl4, hk4⟩⟩⟩
        | panic ch => exact hp.elim
        | outgrown => exact hp.elim
      | ret => exact hq.elim
      | exit id => exact hq.elim
      | goto t => exact hq.elim
      | panic ch => exact hq.elim
      | outgrown => exact hq.elim

theorem ownFrom_fr {β : Type} {T : Nat → Prop} {W0 : World} {B : Nat} (hB : W0.heap.size ≤ B) : OwnFrom B (fun (_ : β) W => Fr T W0 W) :=
  fun _ _ _ _ hs hg hr => hs.grown hg (fun k e hk => by have := (hr k e).1; omega)

theorem ownFrom_and {β : Type} {B : Nat} {I I' : β → World → Prop} (h : OwnFrom B I) (h' : OwnFrom B I') : OwnFrom B (fun s W => I s W ∧ I' s W) := h.and h'

theorem ownFrom_heap {β : Type} {B b : Nat} {cs : Array Value} {t : TypeId} {fr : Nat × Nat} : OwnFrom B (fun (_ : β) W => W.heap[b]? = some (.cells cs t fr)) :=
  fun _ W W' row hs hg hr => (hg.block b (Array.getElem?_eq_some_iff.1 hs).1 (fun e => by obtain ⟨_, o, ho, hc⟩ := hr b e.symm; rw [hs] at ho; cases ho; cases hc)).trans hs
theorem ownsRow_from {B base : Nat} {e : TypeId} {size : Nat} {v : Value} {n : Nat} {xs : List Value} {W W' : World} {row : Option Nat} (h : W.ownsRow base e size v n xs) (hg : W.grownBy W' row)
    (hr : ∀ r, row = some r → B ≤ r ∧ ∃ o : Obj, W.heap[r]? = some o ∧ o.isCells = false) : W'.ownsRow base e size v n xs := by
  obtain ⟨h1, h2⟩ := h
  refine ⟨h1, ?_⟩
  rcases h2 with h2 | ⟨g, cap, cur, rfl, hgb, hh, r⟩
  · exact .inl h2
  · exact .inr ⟨g, cap, cur, rfl, hgb, ownFrom_heap (β := Unit) (B := B) () W W' row hh hg hr, r⟩
/-- Behind a loop at the function's return: the block for the rounds' deferred calls is taken; all else lies as it lay. -/
theorem heap_putObj_cells {W : World} {D b : Nat} {o : Obj} (o' : Obj) (hd : W.heap[D]? = some (.deferred (some []))) (h : W.heap[b]? = some o) (hc : o.isCells = true) : (W.putObj D o').heap[b]? = some o :=
  (World.putObj_heap_other (fun e => by subst e; rw [h] at hd; cases hd; cases hc)).trans h
theorem Fr.putObj {S : Nat → Prop} {w W : World} (h : Fr S w W) {D : Nat} (hD : w.heap.size ≤ D) (o' : Obj) : Fr S w (W.putObj D o') :=
  h.grown (grownBy_putObj' _ _ _) (fun k e hk => by cases e; omega)

/-- Conditions that speak of blocks below B alone (all others may turn). -/
theorem ownFrom_of_heap {β : Type} {B : Nat} {I : β → World → Prop}
    (h : ∀ s W W', I s W → W.os = W'.os → W.tape = W'.tape → W.output = W'.output → W.heap.size ≤ W'.heap.size → (∀ k, k < B → k < W.heap.size → W'.heap[k]? = W.heap[k]?) → (∀ (k : Nat) (o : Obj), W.heap[k]? = some o → o.isCells = true → W'.heap[k]? = some o) → I s W') : OwnFrom B I :=
  fun s W W' row hs hg hr => h s W W' hs hg.os.symm hg.tape.symm hg.output.symm hg.size
    (fun k hk hlt => hg.block k hlt (fun e => by have := (hr k e.symm).1; omega))
    (fun k o hk ho => (hg.block k (Array.getElem?_eq_some_iff.1 hk).1 (fun e => by obtain ⟨_, o', ho', hc⟩ := hr k e.symm; rw [hk] at ho'; cases ho'; rw [ho] at hc; cases hc)).trans hk)

end Go.Proofs.YtoajnmbbgbpbgaaGreat
namespace Go.Proofs.YtoajnmbbgbpbgaaGreat
set_option linter.unusedVariables false
set_option linter.unusedSimpArgs false
open Go.RowKit

/-- t is the type of slices of e; e's zero, its size in cells and in bytes. -/
structure Elem (P : Program) (t e : TypeId) (z : Value) (size bytes : Nat) : Prop where
  und : P.underlying t = some (.slice e)
  info : (P.info? e).map (fun i => (i.zero, i.size, i.bytes)) = some (some z, size, bytes)
  zs : z.cells.size = size
  pos : 0 < size

theorem append_in {F : Fence} {n : Nat} {P : Program} {w : World} {ops : Array Oper} {rest : List Oper} {o : Oper} {a : Act} {Q : Exit → Act → World → Prop}
    {t e : TypeId} {z : Value} {size bytes : Nat} (hE : Elem P t e z size bytes)
    (hg : o.guard = none) (s x : Operand) (hop : o.op = Op.call { callee := Callee.builtin Builtin.append, args := #[s, x], argTypes := #[t, t] })
    (base : Nat) (v : Value) (k : Nat) (xs : List Value) (hs : a.eval s = v) (hown : w.ownsRow base e size v k xs) (ad : Addr) (m c : Nat) (news : List Value) (hx : a.eval x = .slice (some ad) m c) (hn : news.length = m * size)
    (hc : ∀ j u, news[j]? = some u → w.cell? (ad.add j) = some u) (h1c : ∀ u ∈ news, u.oneCell' = true) (b1 : k + m ≤ maxLen) (b2 : (k + m) * bytes ≤ 140737488355328) (b3 : base ≤ w.heap.size)
    (hK : ∀ v' w', w'.ownsRow base e size v' (k + m) (xs ++ news) → w.grownBy w' v.ownBlock → (v' = .slice none 0 0 ↔ v = .slice none 0 0 ∧ m = 0) → wpListIn F n P ops Q rest (a.put o.dst v') w') :
    wpListIn F n P ops Q (o :: rest) a w := by
  obtain ⟨i0, hi, hz0, hz1, hz2⟩ := info_parts hE.info
  exact wpListIn_append_own w hg s x t hop base e i0 z size bytes hE.und hi hz0 hz1 hz2 hE.zs hE.pos v k xs hs hown ad m c news hx hn hc h1c b1 b2 b3 hK

theorem append_out {P : Program} {w : World} {ops : Array Oper} {rest : List Oper} {o : Oper} {a : Act} {Q : Exit → Act → World → Prop}
    {t e : TypeId} {z : Value} {size bytes : Nat} (hE : Elem P t e z size bytes)
    (hg : o.guard = none) (s x : Operand) (hop : o.op = Op.call { callee := Callee.builtin Builtin.append, args := #[s, x], argTypes := #[t, t] })
    (base : Nat) (v : Value) (k : Nat) (xs : List Value) (hs : a.eval s = v) (hown : w.ownsRow base e size v k xs) (ad : Addr) (m c : Nat) (news : List Value) (hx : a.eval x = .slice (some ad) m c) (hn : news.length = m * size)
    (hc : ∀ j u, news[j]? = some u → w.cell? (ad.add j) = some u) (h1c : ∀ u ∈ news, u.oneCell' = true) (b1 : k + m ≤ maxLen) (b2 : (k + m) * bytes ≤ 140737488355328) (b3 : base ≤ w.heap.size)
    (hK : ∀ v' w', w'.ownsRow base e size v' (k + m) (xs ++ news) → w.grownBy w' v.ownBlock → (v' = .slice none 0 0 ↔ v = .slice none 0 0 ∧ m = 0) → wpList P ops Q rest (a.put o.dst v') w') :
    wpList P ops Q (o :: rest) a w := by
  obtain ⟨i0, hi, hz0, hz1, hz2⟩ := info_parts hE.info
  exact wpList_append_own w hg s x t hop base e i0 z size bytes hE.und hi hz0 hz1 hz2 hE.zs hE.pos v k xs hs hown ad m c news hx hn hc h1c b1 b2 b3 hK

/-- 'append(s, x...)' where x reads as cs, nil or not. -/
theorem append_sl {P : Program} {w : World} {ops : Array Oper} {rest : List Oper} {o : Oper} {a : Act} {Q : Exit → Act → World → Prop}
    {t e : TypeId} {z : Value} {size bytes : Nat} (hE : Elem P t e z size bytes)
    (hg : o.guard = none) (s x : Operand) (hop : o.op = Op.call { callee := Callee.builtin Builtin.append, args := #[s, x], argTypes := #[t, t] })
    (base : Nat) (v : Value) (k : Nat) (xs : List Value) (hs : a.eval s = v) (hown : w.ownsRow base e size v k xs) {y : Value} {m : Nat} {cs : List Value} (hx : a.eval x = y) (hsl : Sl w y m cs) (hn : cs.length = m * size)
    (h1c : ∀ u ∈ cs, u.oneCell' = true) (b1 : k + m ≤ maxLen) (b2 : (k + m) * bytes ≤ 140737488355328) (b3 : base ≤ w.heap.size)
    (hK : ∀ v' w', w'.ownsRow base e size v' (k + m) (xs ++ cs) → w.grownBy w' v.ownBlock → wpList P ops Q rest (a.put o.dst v') w') :
    wpList P ops Q (o :: rest) a w := by
  obtain ⟨ad, cap, rfl, h0, h1, h2⟩ := hsl
  cases ad with
  | none =>
    obtain ⟨rfl, rfl⟩ := h0.1 rfl
    simp at hn
    subst hn
    obtain ⟨i0, hi, hz0, hz1, hz2⟩ := info_parts hE.info
    refine wpList_append_own_none hg s x t hop base e i0 size hE.und hi v k xs hs hown hx ?_
    exact hK v w (by simpa using hown) ⟨rfl, rfl, rfl, Nat.le_refl _, fun _ _ _ => rfl⟩
  | some ad =>
    refine append_out hE hg s x hop base v k xs hs hown ad m cap cs hx hn ?_ h1c b1 b2 b3 (fun v' w' r1 r2 _ => hK v' w' r1 r2)
    intro j u hj
    obtain ⟨b, off, e⟩ := h1 (by rintro rfl; simp at hj)
    injection e with e
    subst e
    have := h2 b off j u rfl hj
    by_cases hj0 : j = 0
    · subst hj0; simpa [Addr.add] using this
    · simpa [Addr.add, hj0] using this

theorem ownsRow_base {w : World} {base base' : Nat} {e : TypeId} {size : Nat} {v : Value} {n : Nat} {xs : List Value} (h : w.ownsRow base e size v n xs) (hb : base' ≤ base) : w.ownsRow base' e size v n xs := by
  obtain ⟨h1, h2 | ⟨g, cap, cur, e1, hg, r⟩⟩ := h
  · exact ⟨h1, .inl h2⟩
  · exact ⟨h1, .inr ⟨g, cap, cur, e1, Nat.le_trans hb hg, r⟩⟩

/-- A box of another type is no block of an owned row. -/
theorem not_row {w : World} {b : Nat} {cs : Array Value} {t e : TypeId} {fr : Nat × Nat} (h : w.heap[b]? = some (.cells cs t fr)) (hte : t ≠ e) {base size n : Nat} {v : Value} {xs : List Value} (hr : w.ownsRow base e size v n xs) : some b ≠ v.ownBlock := by
  obtain ⟨_, ⟨rfl, _⟩ | ⟨g, cap, cur, rfl, _, hh, _⟩⟩ := hr
  · simp [Value.ownBlock]
  · intro e; simp [Value.ownBlock] at e; subst e; rw [h] at hh; cases hh; exact hte rfl

/-- 'x = append(x, v)' where x lies in a box: behind the append, and behind the store into the box. -/
theorem app_box {W w3 : World} {b n0 e size t k m B : Nat} {r v' : Value} {xs ys : List Value} {tmp : Obj} (hb : W.heap[b]? = some (.cells #[r] t (0, 0))) (hte : t ≠ e) (hrow : W.ownsRow n0 e size r k xs)
    (hgrow : (W.alloc tmp).grownBy w3 r.ownBlock) (hown' : w3.ownsRow n0 e size v' m ys) :
    w3.cell? ⟨b, 0, none⟩ = some r ∧ w3.frozen? ⟨b, 0, none⟩ = false ∧ (w3.setCell ⟨b, 0, none⟩ v').heap[b]? = some (.cells #[v'] t (0, 0)) ∧ (w3.setCell ⟨b, 0, none⟩ v').ownsRow n0 e size v' m ys ∧
    KeepsFrom B W (w3.setCell ⟨b, 0, none⟩ v') ∧ ∀ (S : Nat → Prop) (w0 : World), Fr S w0 W → w0.heap.size ≤ n0 → S b → Fr S w0 (w3.setCell ⟨b, 0, none⟩ v') := by
  have h3 : w3.heap[b]? = some (.cells #[r] t (0, 0)) := (hgrow.block b (heap_lt (heap_alloc tmp hb)) (not_row hb hte hrow)).trans (heap_alloc tmp hb)
  refine ⟨heap_cell (o := 0) h3 rfl, heap_frozen h3, heap_set _ h3, ?_, ?_, ?_⟩
  · exact hown'.kept (grownBy_setCell' w3 b v') (.inr (not_row h3 hte hown').symm)
  · refine (((KeepsOthers.alloc W tmp).trans (KeepsOthers.of_grownBy hgrow fun j o ej hj => ?_)).trans (KeepsOthers.setCell _ _ _)).from _
    obtain ⟨_, ⟨rfl, _⟩ | ⟨g, cap, cur, rfl, _, hh, _⟩⟩ := hrow
    · simp [Value.ownBlock] at ej
    · obtain rfl : g = j := by simpa [Value.ownBlock] using ej
      rw [heap_alloc tmp hh] at hj; cases hj; rfl
  · intro S w0 hF hn hS
    refine ((hF.alloc tmp).grown hgrow (fun j ej hj => ?_)).setCell (fun _ => hS) _
    obtain ⟨_, ⟨rfl, _⟩ | ⟨g, cap, cur, rfl, hg, _, _⟩⟩ := hrow
    · simp [Value.ownBlock] at ej
    · obtain rfl : g = j := by simpa [Value.ownBlock] using ej
      omega

theorem grownBy_alloc {w w3 : World} {o : Obj} {row : Option Nat} (h : (w.alloc o).grownBy w3 row) : w.grownBy w3 row :=
  ⟨h.os, h.tape, h.output, by have := h.size; simp at this; omega, fun k hk hr => (h.block k (by simp; omega) hr).trans (Below.heap_alloc _ _ _ hk)⟩
theorem grownBy_drewN_alloc {w w3 : World} {n : Nat} {o : Obj} {row : Option Nat} (h : ((w.drewN n).alloc o).grownBy w3 row) : w.grownBy w3 row := by
  have := grownBy_alloc h; exact ⟨this.os, this.tape, this.output, this.size, this.block⟩

end Go.Proofs.YtoajnmbbgbpbgaaGreat
namespace Go.Proofs.YtoajnmbbgbpbgaaGreat
set_option linter.unusedVariables false
set_option linter.unusedSimpArgs false
open Go.RowKit

theorem run_append_sl {P : Program} {w : World} (t ty base : Nat) {e : TypeId} {z : Value} {size bytes : Nat} (hE : Elem P t e z size bytes) (v : Value) (k : Nat) (xs : List Value) (hown : w.ownsRow base e size v k xs)
    {y : Value} {m : Nat} {cs : List Value} (hsl : Sl w y m cs) (hn : cs.length = m * size) (h1c : ∀ u ∈ cs, u.oneCell' = true) (b1 : k + m ≤ maxLen) (b2 : (k + m) * bytes ≤ 140737488355328) (b3 : base ≤ w.heap.size) :
    ∃ v' w', (Builtin.append_ #[t, t] ty #[v, y]).run P w = .ok v' w' ∧ w'.ownsRow base e size v' (k + m) (xs ++ cs) ∧ w.grownBy w' v.ownBlock ∧ (v'.ownBlock = v.ownBlock ∨ v'.ownBlock = some w.heap.size) := by
  obtain ⟨i0, hi, hz0, hz1, hz2⟩ := info_parts hE.info
  obtain ⟨ad, cap, rfl, h0, h1, h2⟩ := hsl
  cases ad with
  | none =>
    obtain ⟨rfl, rfl⟩ := h0.1 rfl
    simp at hn
    subst hn
    exact ⟨v, w, run_append_owned_none (P := P) w base t ty e i0 size hE.und hi v k xs hown, by simpa using hown, ⟨rfl, rfl, rfl, Nat.le_refl _, fun _ _ _ => rfl⟩, .inl rfl⟩
  | some ad =>
    obtain ⟨v', w', hr, q2, q3, _, q5⟩ := run_append_own_at (P := P) w base t ty e i0 z size bytes hE.und hi hz0 hz1 hz2 hE.zs hE.pos v k xs hown ad m cap cs hn (by
      intro j u hj
      obtain ⟨b, off, e⟩ := h1 (by rintro rfl; simp at hj)
      injection e with e
      subst e
      have := h2 b off j u rfl hj
      by_cases hj0 : j = 0
      · subst hj0; simpa [Addr.add] using this
      · simpa [Addr.add, hj0] using this) h1c b1 b2 b3
    exact ⟨v', w', hr, q2, q3, q5⟩

theorem step_append_sl {P : Program} {w : World} {ops : Array Oper} {o : Oper} {a : Act} {K : Act → World → Prop} {Q : Exit → Act → World → Prop} {E : Prop} {t e : TypeId} {z : Value} {size bytes : Nat} (hE : Elem P t e z size bytes)
    (hgd : o.guard = none) (s x : Operand) (ho : o.op = .call { callee := .builtin .append, args := #[s, x], argTypes := #[t, t] })
    (base : Nat) (v : Value) (k : Nat) (xs : List Value) (hs : a.eval s = v) (hown : w.ownsRow base e size v k xs) {y : Value} {m : Nat} {cs : List Value} (hx : a.eval x = y) (hsl : Sl w y m cs) (hn : cs.length = m * size)
    (h1c : ∀ u ∈ cs, u.oneCell' = true) (b1 : k + m ≤ maxLen) (b2 : (k + m) * bytes ≤ 140737488355328) (b3 : base ≤ w.heap.size)
    (h : ∀ a' n' c' w', w'.ownsRow base e size (.slice a' n' c') (k + m) (xs ++ cs) → w.grownBy w' v.ownBlock → ((Value.slice a' n' c').ownBlock = v.ownBlock ∨ (Value.slice a' n' c').ownBlock = some w.heap.size) → K (a.put o.dst (.slice a' n' c')) w') :
    if Region.wanted o (yielded ops a.tmps) = true then Oper.wp P o a w K Q else E := by
  have hw : Region.wanted o (yielded ops a.tmps) = true := by simp [Region.wanted, hgd]
  rw [if_pos hw]
  obtain ⟨v', w', hr, h2, h3, h4⟩ := run_append_sl (P := P) t o.type base hE v k xs hown hsl hn h1c b1 b2 b3
  unfold Oper.wp execOp
  simp only [ho, resolve, invoke, builtin, Sem.run_bind, Sem.run_pure, Result.andThen_ok, List.map_toArray, List.map_cons, List.map_nil, hs, hx, hr]
  obtain ⟨a', c', e'⟩ := (Sl.of_owns h2).form
  subst e'
  exact h _ _ _ w' h2 h3 h4
end Go.Proofs.YtoajnmbbgbpbgaaGreat
namespace Go.Proofs.YtoajnmbbgbpbgaaGreat
set_option linter.unusedVariables false
set_option linter.unusedSimpArgs false

/-! ### Sets of blocks as a number's bits -/
def setB (s b : Int) : Int := bits .or .u32 s (2 ^ b.toNat % 4294967296)
def maskL (l : List Int) : Int := l.foldl setB 0
def maskN (l : List Int) : Nat := l.foldl (fun s b => s ||| 2 ^ b.toNat) 0

theorem wraps_u32 (n : Int) (h₀ : 0 ≤ n) (h₁ : n < 2 ^ 32) : IntKind.u32.wrap n = n := by rw [IntKind.wrap_u32]; omega
theorem or_u32 (a b : Nat) (ha : a < 2 ^ 32) (hb : b < 2 ^ 32) : bits .or .u32 a b = ((a ||| b : Nat) : Int) :=
  (bits_nat .u32 32 (by decide) wraps_u32 a b ha hb).2
theorem and_u32 (a b : Nat) (ha : a < 2 ^ 32) (hb : b < 2 ^ 32) : bits .and .u32 a b = ((a &&& b : Nat) : Int) :=
  (bits_nat .u32 32 (by decide) wraps_u32 a b ha hb).1
theorem pow_small (b : Int) (hb : b < 32) : (2 : Int) ^ b.toNat % 4294967296 = ((2 ^ b.toNat : Nat) : Int) := by
  have h1 : b.toNat ≤ 31 := by omega
  have h2 : (2 : Nat) ^ b.toNat ≤ 2 ^ 31 := Nat.pow_le_pow_right (by decide) h1
  rw [show (2 : Int) ^ b.toNat = ((2 ^ b.toNat : Nat) : Int) by simp]
  generalize (2 : Nat) ^ b.toNat = p at h2 ⊢
  omega
theorem setB_nat (s : Nat) (b : Int) (hs : s < 2 ^ 32) (hb : b < 32) : setB s b = ((s ||| 2 ^ b.toNat : Nat) : Int) := by
  rw [setB, pow_small b hb]
  exact or_u32 _ _ hs (Nat.pow_lt_pow_right (by decide) (by omega))
theorem or_lt (s : Nat) (b : Int) (hs : s < 2 ^ 32) (hb : b < 32) : s ||| 2 ^ b.toNat < 2 ^ 32 := Nat.or_lt_two_pow hs (Nat.pow_lt_pow_right (by decide) (by omega))
theorem mask_fold (l : List Int) (s : Nat) (hs : s < 2 ^ 32) (h : ∀ b ∈ l, b < 32) :
    l.foldl setB (s : Int) = ((l.foldl (fun s b => s ||| 2 ^ b.toNat) s : Nat) : Int) ∧ l.foldl (fun s b => s ||| 2 ^ b.toNat) s < 2 ^ 32 := by
  induction l generalizing s with
  | nil => exact ⟨rfl, hs⟩
  | cons b l ih =>
    have hb := h b (by simp)
    simp only [List.foldl_cons]
    rw [setB_nat s b hs hb]
    exact ih _ (or_lt s b hs hb) (fun c hc => h c (by simp [hc]))
theorem maskL_nat (l : List Int) (h : ∀ b ∈ l, b < 32) : maskL l = (maskN l : Int) ∧ maskN l < 2 ^ 32 := mask_fold l 0 (by decide) h
theorem fold_testBit (l : List Int) (s : Nat) (h : ∀ b ∈ l, 0 ≤ b) (i : Nat) :
    (l.foldl (fun s b => s ||| 2 ^ b.toNat) s).testBit i = (s.testBit i || decide ((i : Int) ∈ l)) := by
  induction l generalizing s with
  | nil => simp
  | cons b l ih =>
    rw [List.foldl_cons, ih _ (fun c hc => h c (by simp [hc])), Nat.testBit_or, Nat.testBit_two_pow]
    have hb := h b (by simp)
    by_cases e : (i : Int) = b
    · have : b.toNat = i := by omega
      simp [e, this]
    · have : ¬ b.toNat = i := by omega
      simp [e, this]
theorem maskN_testBit (l : List Int) (h : ∀ b ∈ l, 0 ≤ b) (i : Nat) : (maskN l).testBit i = decide ((i : Int) ∈ l) := by
  rw [maskN, fold_testBit l 0 h i]; simp
theorem shr_bit (s i : Nat) (hs : s < 2 ^ 32) (_hi : i < 32) : (bits .and .u32 ((s : Int) / 2 ^ i) 1 == 1) = s.testBit i := by
  rw [show (2 : Int) ^ i = ((2 ^ i : Nat) : Int) by simp, ← Int.natCast_ediv]
  have h1 : s / 2 ^ i < 2 ^ 32 := Nat.lt_of_le_of_lt (Nat.div_le_self _ _) hs
  have := and_u32 (s / 2 ^ i) 1 h1 (by decide)
  rw [show ((1 : Nat) : Int) = 1 by rfl] at this
  rw [this, Nat.and_one_is_mod, Nat.testBit_eq_decide_div_mod_eq]
  by_cases h : s / 2 ^ i % 2 = 1
  · simp [h]
  · have : s / 2 ^ i % 2 = 0 := by omega
    simp [this]
/-- 'seen >> b & 1 == 1'. -/
theorem mask_test (l : List Int) (h : ∀ b ∈ l, 0 ≤ b ∧ b < 32) (x : Int) (h0 : 0 ≤ x) (hx : x < 32) : (bits .and .u32 (maskL l / 2 ^ x.toNat) 1 == 1) = decide (x ∈ l) := by
  obtain ⟨h1, h2⟩ := maskL_nat l (fun b hb => (h b hb).2)
  rw [h1, shr_bit _ _ h2 (by omega), maskN_testBit l (fun b hb => (h b hb).1)]
  rw [Int.toNat_of_nonneg h0]
theorem maskL_snoc (l : List Int) (x : Int) : maskL (l ++ [x]) = setB (maskL l) x := by simp [maskL]

/-! ### What the program's iterator tells: the blocks, -1 where an extent can't be -/
def badX (e : Int) (x : Int × Int) : Bool := decide (x.1 < 9) || decide (x.1 > 32) || decide (x.2 < 1) || decide (x.2 > 32 - x.1) || decide (x.1 = e)
def run (x : Int × Int) : List Int := (List.range x.2.toNat).map (fun i : Nat => x.1 + (i : Int))
def blkSeq (e : Int) : List (Int × Int) → List Int
  | [] => []
  | x :: xs => if badX e x then [-1] else run x ++ blkSeq (x.1 + x.2) xs
theorem blkSeq_range (xs : List (Int × Int)) (e : Int) : ∀ b ∈ blkSeq e xs, b = -1 ∨ (9 ≤ b ∧ b < 32) := by
  induction xs generalizing e with
  | nil => simp [blkSeq]
  | cons x xs ih =>
    intro b hb
    rw [blkSeq] at hb
    split at hb
    · simp at hb; exact .inl hb
    · rename_i hbad
      rcases List.mem_append.1 hb with h | h
      · simp only [run, List.mem_map, List.mem_range] at h
        obtain ⟨i, hi, rfl⟩ := h
        simp only [badX, Bool.not_eq_true, Bool.or_eq_false_iff, decide_eq_false_iff_not] at hbad
        omega
      · exact ih _ b h
/-- Blocks that may be together: none below 0, none twice. -/
def okB (l : List Int) : Bool := decide ((∀ b ∈ l, 0 ≤ b) ∧ l.Nodup)
theorem okB_snoc (l : List Int) (x : Int) : okB (l ++ [x]) = (okB l && decide (0 ≤ x) && decide (x ∉ l)) := by
  rw [Bool.eq_iff_iff]
  simp only [okB, decide_eq_true_eq, Bool.and_eq_true, List.nodup_append, List.mem_append, List.mem_singleton]
  constructor
  · rintro ⟨h1, h2, _, h3⟩
    exact ⟨⟨⟨fun b hb => h1 b (.inl hb), h2⟩, h1 x (.inr rfl)⟩, fun hx => h3 x hx x rfl rfl⟩
  · rintro ⟨⟨⟨h1, h2⟩, h3⟩, h4⟩
    exact ⟨fun b hb => hb.elim (h1 b) (fun e => e ▸ h3), h2, by simp, fun a ha b hb e => h4 (by subst hb; exact e ▸ ha)⟩
theorem okB_prefix {l m : List Int} (h : l <+: m) (hm : okB m = true) : okB l = true := by
  obtain ⟨t, rfl⟩ := h
  simp only [okB, decide_eq_true_eq, List.nodup_append] at hm ⊢
  exact ⟨fun b hb => hm.1 b (by simp [hb]), hm.2.1⟩
theorem okB_length {l : List Int} (h : okB l = true) (hr : ∀ b ∈ l, b = -1 ∨ (9 ≤ b ∧ b < 32)) : l.length ≤ 33 := by
  have hd := of_decide_eq_true h
  have hsub : ∀ b ∈ l, b ∈ (List.range 33).map (fun i : Nat => (i : Int)) := fun b hb => by
    rw [List.mem_map]
    have h1 := hr b hb; have h2 := hd.1 b hb
    exact ⟨b.toNat, by rw [List.mem_range]; omega, by omega⟩
  have := hd.2.length_le_of_subset hsub
  simpa using this
/-- Check's answer, as a number. -/
def checkN (xs : List (Int × Int)) : Int := if okB (blkSeq (-1) xs) then 0 else 1
/-- The list's blocks; none of one that can't be. -/
def listF (xs : List (Int × Int)) : List Int := if okB (blkSeq (-1) xs) then blkSeq (-1) xs else []

theorem listF_range (xs : List (Int × Int)) : ∀ b ∈ listF xs, 0 ≤ b ∧ b < 32 := by
  intro b hb
  rw [listF] at hb
  split at hb
  · rename_i h
    have h1 := blkSeq_range xs (-1) b hb
    have h2 := (of_decide_eq_true h).1 b hb
    omega
  · simp at hb
theorem listF_length (xs : List (Int × Int)) : (listF xs).length ≤ 33 := by
  rw [listF]
  split
  · rename_i h; exact okB_length h (blkSeq_range xs (-1))
  · simp

/-! ### Growing and shrinking -/
/-- A block put behind a list of extents. -/
def joinF (l : List (Int × Int)) (b : Int) : List (Int × Int) :=
  match l.getLast? with
  | none => [(b, 1)]
  | some x => if x.1 + x.2 = b then l.dropLast ++ [(x.1, x.2 + 1)] else l ++ [(b, 1)]
/-- The program's loop: d blocks are still to be looked at. -/
def growL : Nat → List (Int × Int) → Nat → Int → Option (List (Int × Int) × Nat)
  | 0, out, used, n => if n ≤ 0 then some (out, used) else none
  | d + 1, out, used, n => if n ≤ 0 then some (out, used) else
      if used.testBit (31 - d) then growL d out used n else growL d (joinF out (31 - d : Nat)) (used ||| 2 ^ (31 - d)) (n - 1)
def growF (xs : List (Int × Int)) (used : Nat) (n : Int) : Option (List (Int × Int) × Nat) := growL 23 xs used n
/-- Extents that lie as they should: so joins don't leave the numbers. -/
def fine (l : List (Int × Int)) : Prop := ∀ x ∈ l, 0 ≤ x.1 ∧ 0 ≤ x.2 ∧ x.1 + x.2 ≤ 32
theorem joinF_fine (l : List (Int × Int)) (b : Int) (h : fine l) (hb : 0 ≤ b ∧ b < 32) : fine (joinF l b) := by
  rcases List.eq_nil_or_concat l with rfl | ⟨l', ⟨x1, x2⟩, rfl⟩
  · intro x hx; simp [joinF] at hx; subst hx; simp; omega
  · rw [List.concat_eq_append] at *
    have hx := h (x1, x2) (by simp)
    intro y hy
    simp only [joinF, List.getLast?_append, List.getLast?_singleton, Option.some_or, List.dropLast_concat] at hy
    split at hy
    · rename_i e
      rcases List.mem_append.1 hy with h1 | h1
      · exact h y (by simp [h1])
      · simp at h1; subst h1; simp at hx ⊢; omega
    · rcases List.mem_append.1 hy with h1 | h1
      · exact h y h1
      · simp at h1; subst h1; simp; omega
theorem joinF_length (l : List (Int × Int)) (b : Int) : (joinF l b).length ≤ l.length + 1 := by
  rcases List.eq_nil_or_concat l with rfl | ⟨l', ⟨x1, x2⟩, rfl⟩
  · simp [joinF]
  · rw [List.concat_eq_append]
    simp only [joinF, List.getLast?_append, List.getLast?_singleton, Option.some_or, List.dropLast_concat]
    split <;> simp
theorem badX_fine {e : Int} {x : Int × Int} (h : badX e x = false) : 0 ≤ x.1 ∧ 0 ≤ x.2 ∧ x.1 + x.2 ≤ 32 := by
  simp only [badX, Bool.or_eq_false_iff, decide_eq_false_iff_not] at h; omega
theorem fine_of_ok (xs : List (Int × Int)) (e : Int) (h : ∀ b ∈ blkSeq e xs, 0 ≤ b) : fine xs := by
  induction xs generalizing e with
  | nil => intro x hx; cases hx
  | cons x xs ih =>
    rw [blkSeq] at h
    split at h
    · have := h (-1) (by simp); omega
    · rename_i hb
      intro y hy
      rcases List.mem_cons.1 hy with rfl | hy
      · exact badX_fine (by simpa using hb)
      · exact ih (x.1 + x.2) (fun b hb => h b (List.mem_append.2 (.inr hb))) y hy

/-! ### Blocks taken out of a set -/
def dif (a b : Nat) : Nat := (BitVec.ofNat 32 a &&& ~~~ BitVec.ofNat 32 b).toNat
theorem dif_lt (a b : Nat) : dif a b < 2 ^ 32 := (BitVec.ofNat 32 a &&& ~~~ BitVec.ofNat 32 b).isLt
theorem dif_testBit (a b i : Nat) : (dif a b).testBit i = (decide (i < 32) && a.testBit i && !b.testBit i) := by
  rw [dif, BitVec.testBit_toNat, BitVec.getLsbD_and, BitVec.getLsbD_not, BitVec.getLsbD_ofNat, BitVec.getLsbD_ofNat]
  by_cases h : i < 32 <;> simp [h]
theorem andNot_u32 (a b : Nat) : bits .andNot .u32 a b = (dif a b : Int) := by
  have h := dif_lt a b
  simp only [bits]
  rw [show BitVec.ofInt IntKind.u32.bits (a : Int) = BitVec.ofNat 32 a from BitVec.ofInt_natCast 32 a, show BitVec.ofInt IntKind.u32.bits (b : Int) = BitVec.ofNat 32 b from BitVec.ofInt_natCast 32 b]
  exact wraps_u32 _ (by omega) (by exact_mod_cast h)
/-- A set without some blocks, one by one. -/
def dropL (used : Nat) (l : List Int) : Nat := l.foldl (fun s b => dif s (2 ^ b.toNat)) used
theorem dropL_snoc (used : Nat) (l : List Int) (b : Int) : dropL used (l ++ [b]) = dif (dropL used l) (2 ^ b.toNat) := by simp [dropL]
theorem dropL_lt (used : Nat) (l : List Int) (h : used < 2 ^ 32) : dropL used l < 2 ^ 32 := by
  rcases List.eq_nil_or_concat l with rfl | ⟨l', b, rfl⟩
  · exact h
  · rw [List.concat_eq_append, dropL_snoc]; exact dif_lt _ _
theorem dropL_mask (used : Nat) (l : List Int) (hu : used < 2 ^ 32) (h : ∀ b ∈ l, 0 ≤ b) : dropL used l = dif used (maskN l) := by
  have key : ∀ (l : List Int) (s : Nat), s < 2 ^ 32 → (∀ b ∈ l, 0 ≤ b) → ∀ i, (dropL s l).testBit i = (s.testBit i && !decide ((i : Int) ∈ l)) := by
    intro l
    induction l with
    | nil => intro s _ _ i; simp [dropL]
    | cons b l ih =>
      intro s hs hl i
      have hb := hl b (by simp)
      have := ih (dif s (2 ^ b.toNat)) (dif_lt _ _) (fun c hc => hl c (by simp [hc])) i
      simp only [dropL, List.foldl_cons] at this ⊢
      rw [this, dif_testBit, Nat.testBit_two_pow]
      have h32 : s.testBit i = true → i < 32 := fun ht => by
        by_cases hi : i < 32
        · exact hi
        · rw [Nat.testBit_lt_two_pow (Nat.lt_of_lt_of_le hs (Nat.pow_le_pow_right (by decide) (by omega)))] at ht; cases ht
      by_cases e : (i : Int) = b
      · have : b.toNat = i := by omega
        simp [e, this]
      · have : ¬ b.toNat = i := by omega
        cases hst : s.testBit i <;> simp [e, this]
        intro; have := h32 hst; omega
  apply Nat.eq_of_testBit_eq
  intro i
  rw [key l used hu h i, dif_testBit, maskN_testBit l h i]
  by_cases hi : i < 32
  · simp [hi]
  · rw [Nat.testBit_lt_two_pow (Nat.lt_of_lt_of_le hu (Nat.pow_le_pow_right (by decide) (by omega)))]; simp

/-! ### The reference's way to grow -/
def moreF (used : Nat) (n : Int) : Nat → List Int → List Int
  | 0, acc => acc
  | d + 1, acc => if (acc.length : Int) < n then (if used.testBit (31 - d) then moreF used n d acc else moreF used n d (acc ++ [((31 - d : Nat) : Int)])) else acc
def joinsL (l : List Int) : List (Int × Int) := l.foldl joinF []
theorem joinsL_snoc (l : List Int) (b : Int) : joinsL (l ++ [b]) = joinF (joinsL l) b := by simp [joinsL]
def growR (xs : List (Int × Int)) (used : Nat) (n : Int) : Option (List (Int × Int) × Nat) :=
  let more := moreF used n 23 []
  if (more.length : Int) < n then none else some (joinsL (listF xs ++ more), used ||| maskN more)
theorem moreF_range (used : Nat) (n : Int) (d : Nat) (acc : List Int) (h : ∀ b ∈ acc, 0 ≤ b ∧ b < 32) : ∀ b ∈ moreF used n d acc, 0 ≤ b ∧ b < 32 := by
  induction d generalizing acc with
  | zero => exact h
  | succ d ih =>
    rw [moreF]
    split
    · split
      · exact ih acc h
      · exact ih _ (fun b hb => by rcases List.mem_append.1 hb with hb | hb; exact h b hb; simp at hb; omega)
    · exact h
theorem moreF_length (used : Nat) (n : Int) (d : Nat) (acc : List Int) : (moreF used n d acc).length ≤ acc.length + d := by
  induction d generalizing acc with
  | zero => simp [moreF]
  | succ d ih =>
    rw [moreF]
    split
    · split
      · have := ih acc; omega
      · have := ih (acc ++ [((31 - d : Nat) : Int)]); simp at this; omega
    · omega
/-- The runs of extents that are good lead back to the extents. -/
theorem joins_run (acc : List (Int × Int)) (x1 : Int) (m : Nat) (h : ∀ y, acc.getLast? = some y → y.1 + y.2 ≠ x1) :
    (run (x1, ((m + 1 : Nat) : Int))).foldl joinF acc = acc ++ [(x1, ((m + 1 : Nat) : Int))] := by
  induction m with
  | zero =>
    simp only [run, Int.toNat_natCast]
    simp only [List.range_succ, List.range_zero, List.nil_append, List.map_cons, List.map_nil, List.foldl_cons, List.foldl_nil, joinF]
    rcases List.eq_nil_or_concat acc with rfl | ⟨acc', y, rfl⟩
    · simp
    · rw [List.concat_eq_append] at *
      have := h y (by simp)
      simp [this]
  | succ m ih =>
    have : run (x1, ((m + 1 + 1 : Nat) : Int)) = run (x1, ((m + 1 : Nat) : Int)) ++ [x1 + ((m + 1 : Nat) : Int)] := by
      simp only [run, Int.toNat_natCast]; rw [List.range_succ (n := m + 1)]; simp
    rw [this, List.foldl_append, ih]
    simp [joinF]
theorem joins_seq (xs : List (Int × Int)) (e : Int) (acc : List (Int × Int)) (h : ∀ b ∈ blkSeq e xs, 0 ≤ b) (he : ∀ y, acc.getLast? = some y → y.1 + y.2 = e) : (blkSeq e xs).foldl joinF acc = acc ++ xs := by
  induction xs generalizing e acc with
  | nil => simp [blkSeq]
  | cons x xs ih =>
    rw [blkSeq] at h ⊢
    split at h
    · have := h (-1) (by simp); omega
    · rename_i hb
      rw [if_neg hb, List.foldl_append]
      have hb' : badX e x = false := by simpa using hb
      obtain ⟨x1, x2⟩ := x
      have hx2 : ∃ m : Nat, x2 = ((m + 1 : Nat) : Int) := by
        simp only [badX, Bool.or_eq_false_iff, decide_eq_false_iff_not] at hb'
        exact ⟨(x2 - 1).toNat, by omega⟩
      obtain ⟨m, rfl⟩ := hx2
      rw [joins_run acc x1 m (fun y hy e' => by
        simp only [badX, Bool.or_eq_false_iff, decide_eq_false_iff_not] at hb'
        have := he y hy; omega)]
      rw [ih (x1 + ((m + 1 : Nat) : Int)) _ (fun b hb => h b (List.mem_append.2 (.inr hb))) (fun y hy => by simp at hy; subst hy; rfl)]
      simp
theorem joinsL_list (xs : List (Int × Int)) (h : okB (blkSeq (-1) xs) = true) : joinsL (listF xs) = xs := by
  rw [listF, if_pos h, joinsL, joins_seq xs (-1) [] (of_decide_eq_true h).1 (by simp)]; rfl
/-- Both ways to grow come to the same. -/
theorem grow_same (xs : List (Int × Int)) (used : Nat) (n : Int) (hn : 0 ≤ n) (h : okB (blkSeq (-1) xs) = true) : growF xs used n = growR xs used n := by
  have key : ∀ (d : Nat) (acc : List Int), d ≤ 23 → (acc.length : Int) ≤ n → (∀ b ∈ acc, 0 ≤ b ∧ b < 32 - (d : Int)) →
      growL d (acc.foldl joinF xs) (used ||| maskN acc) (n - acc.length) =
        (if ((moreF used n d acc).length : Int) < n then none else some ((moreF used n d acc).foldl joinF xs, used ||| maskN (moreF used n d acc))) := by
    intro d
    induction d with
    | zero =>
      intro acc _ hl hr
      rw [growL, moreF]
      by_cases hc : (acc.length : Int) < n
      · rw [if_neg (by omega), if_pos hc]
      · rw [if_pos (by omega), if_neg hc]
    | succ d ih =>
      intro acc hd hl hr
      rw [growL, moreF]
      by_cases hc : (acc.length : Int) < n
      · rw [if_neg (by omega), if_pos hc]
        have htb : (used ||| maskN acc).testBit (31 - d) = used.testBit (31 - d) := by
          rw [Nat.testBit_or, maskN_testBit acc (fun b hb => (hr b hb).1)]
          have : ¬ (((31 - d : Nat) : Int) ∈ acc) := fun hin => by have := (hr _ hin).2; omega
          simp [this]
        rw [htb]
        by_cases ht : used.testBit (31 - d) = true
        · rw [if_pos ht, if_pos ht]
          exact ih acc (by omega) hl (fun b hb => by have := hr b hb; omega)
        · rw [if_neg ht, if_neg ht]
          have := ih (acc ++ [((31 - d : Nat) : Int)]) (by omega) (by simp; omega) (fun b hb => by
            rcases List.mem_append.1 hb with hb | hb
            · have := hr b hb; omega
            · simp at hb; omega)
          rw [← this, List.foldl_append]
          have hm : maskN (acc ++ [((31 - d : Nat) : Int)]) = maskN acc ||| 2 ^ (31 - d) := by simp [maskN]
          rw [hm, ← Nat.or_assoc]
          simp only [List.foldl_cons, List.foldl_nil, List.length_append, List.length_cons, List.length_nil]
          congr 1
          omega
      · rw [if_pos (by omega), if_neg hc, if_neg (by omega)]
  have := key 23 [] (by omega) (by simpa using hn) (by simp)
  simp only [List.foldl_nil, List.length_nil] at this
  rw [growF, growR]
  have h0 : used ||| maskN [] = used := by simp [maskN]
  rw [h0] at this
  simp only [Int.natCast_zero, Int.sub_zero] at this
  rw [this]
  simp only [joinsL, List.foldl_append]
  rw [show (listF xs).foldl joinF [] = xs from joinsL_list xs h]

end Go.Proofs.YtoajnmbbgbpbgaaGreat
namespace Go.Proofs.YtoajnmbbgbpbgaaGreat
set_option linter.unusedVariables false
set_option linter.unusedSimpArgs false
open Go.RowKit Go.Shelf
attribute [local go_sem] Oper.semAt_some wide_depth inRound_depth wide_fn inRound_fn

def extCells (xs : List (Int × Int)) : List Value := xs.flatMap fun x => [.int .i64 x.1, .int .i64 x.2]

theorem extCells_get (xs : List (Int × Int)) (k : Nat) (h : k < xs.length) : (extCells xs)[k * 2]? = some (.int .i64 xs[k].1) ∧ (extCells xs)[k * 2 + 1]? = some (.int .i64 xs[k].2) := by
  induction xs generalizing k with
  | nil => simp at h
  | cons x xs ih =>
    cases k with
    | zero => simp [extCells]
    | succ k =>
      have := ih k (by simpa using h)
      simp only [extCells, List.flatMap_cons, Nat.succ_mul] at this ⊢
      simpa using this

theorem run_len (x : Int × Int) : (run x).length = x.2.toNat := by simp [run]

set_option maxHeartbeats 2000000 in
theorem blocks1_iter (Bn : Nat) (v : Value) (xs : List (Int × Int)) (W0 : World) (hlen : xs.length ≤ 100) (T : Nat → Prop) (hTB : ¬ T Bn) (hTv : ∀ k, v.ownBlock = some k → extCells xs ≠ [] → ¬ T k)
    (hBn : W0.cell? ⟨Bn, 0, none⟩ = some v) (hv : Sl W0 v xs.length (extCells xs)) :
    Iter Fence.wide Tryz.prog 139 #[.pointer (some ⟨Bn, 0, none⟩)] (fun x => #[.int .i64 x]) (Fr T W0) (blkSeq (-1) xs) := by
  intro l J E W hK hJ hY hE h0
  obtain ⟨a, cap, rfl⟩ := hv.form
  have hBn' := hK.cell hBn hTB
  have hE' := Lib.hid hE
  clear hE
  refine callsIn_of_wp Tryz.func139 rfl trivial ?_ rfl
  simp only [Tryz.ntmps139, List.size_toArray, List.length_cons, List.length_nil, Nat.reduceAdd, Nat.reduceSub, Array.replicate_succ, Array.replicate_zero, List.push_toArray, List.append_toArray, List.nil_append, List.cons_append]
  gi_wp2
  gi_loopw [3, 9] (fun en i wr => ∃ (k : Nat) (e0 : Int) (pre : List Int), k ≤ xs.length ∧ i = .int .i64 k ∧ en = .int .i64 e0 ∧ blkSeq (-1) xs = pre ++ blkSeq e0 (xs.drop k) ∧ J pre wr ∧ Fr T W0 wr)
    (fun _ i _ => xs.length - (intOf i).toNat)
  case atStart => exact ⟨0, -1, [], by omega, rfl, rfl, by simp, h0, hK⟩
  case round =>
    obtain ⟨k, e0, pre, hk, rfl, rfl, hys, hJs, hKr⟩ := hrel
    by_cases hlt : k < xs.length
    · have hne : extCells xs ≠ [] := by intro e; have := extCells_get xs k hlt; rw [e] at this; simp at this
      obtain ⟨b, off, rfl, hb, hc⟩ := hv.at hne
      have hc1 := hKr.cell (hc _ _ (extCells_get xs k hlt).1) (hTv b rfl hne)
      have hc2 := hKr.cell (hc _ _ (extCells_get xs k hlt).2) (hTv b rfl hne)
      rw [List.drop_eq_getElem_cons hlt] at hys
      revert hys hc1 hc2
      generalize xs[k] = x
      obtain ⟨x1, x2⟩ := x
      dsimp only
      rw [← Nat.add_assoc]
      intro hys hc1 hc2
      have hW1 : wr.grownBy (wr.alloc (.cells #[.int .i64 x1, .int .i64 x2] 139)) none := World.grownBy_alloc _ _ _
      have hJ1 := hJ _ _ _ hJs hW1
      have hK1 : Fr T W0 (wr.alloc (.cells #[.int .i64 x1, .int .i64 x2] 139)) := hKr.alloc _
      clear hW1 hc hne
      by_cases hbad : badX e0 (x1, x2) = true
      · have hys' : blkSeq (-1) xs = pre ++ [-1] := by rw [hys, blkSeq, if_pos hbad]
        obtain ⟨fn, tmps, assign, body, hy, hR⟩ := hY pre (-1) _ (by rw [hys']; exact List.prefix_refl _) hJ1 hK1
        have HY := Lib.hid hys'
        have hbad' : x1 < 9 ∨ (9 ≤ x1 ∧ 32 < x1) ∨ (9 ≤ x1 ∧ x1 ≤ 32 ∧ x2 < 1) ∨ (9 ≤ x1 ∧ x1 ≤ 32 ∧ 1 ≤ x2 ∧ 32 - x1 < x2) ∨ (9 ≤ x1 ∧ x1 ≤ 32 ∧ 1 ≤ x2 ∧ x2 ≤ 32 - x1 ∧ (x1 == e0) = true) := by
          simp only [badX, Bool.or_eq_true, decide_eq_true_eq] at hbad; rw [beq_iff_eq]; omega
        clear hys hys' hv hbad
        rcases hbad' with q1 | ⟨q1, q2⟩ | ⟨q1, q2, q3⟩ | ⟨q1, q2, q3, q4⟩ | ⟨q1, q2, q3, q4, q5⟩
        all_goals
          gi_wp2
          refine hR.mono ?_
          rintro e W3 (⟨rfl, hJ3, hk3⟩ | ⟨rfl, hJx3⟩)
          · gi_wp2
            refine bodyPost_ret (results_none rfl _ _ _) rfl ?_
            exact ⟨⟨_, rfl⟩, hE'.out _ (by rw [HY.out]; exact hJ3) hk3⟩
          · gi_wp2
            refine bodyPost_ret (results_none rfl _ _ _) rfl ?_
            exact ⟨⟨_, rfl⟩, hJx3⟩
      · have hys' : blkSeq (-1) xs = pre ++ run (x1, x2) ++ blkSeq (x1 + x2) (xs.drop (k + 1)) := by rw [hys, blkSeq, if_neg hbad]; simp
        simp only [badX, Bool.not_eq_true, Bool.or_eq_false_iff, decide_eq_false_iff_not] at hbad
        obtain ⟨⟨⟨⟨g1, g2⟩, g3⟩, g4⟩, g5⟩ := hbad
        have g5' : (x1 == e0) = false := by simpa using g5
        have HY := Lib.hid hys'
        clear hys hys' hv g5
        gi_wp2
        obtain ⟨wo, rfl⟩ : ∃ wo : World, wo = wr := ⟨_, rfl⟩
        gi_loopw [6] (fun i ws => ∃ (m : Nat), (m : Int) ≤ x2 ∧ i = .int .i64 (x1 + m) ∧ J (pre ++ (run (x1, x2)).take m) ws ∧ Fr T W0 ws)
          (fun i _ => (x1 + x2 - intOf i).toNat)
        case atStart => exact ⟨0, by omega, by simp, by simpa using hJ1, hK1⟩
        case round =>
          obtain ⟨m, hm, rfl, hJm, hKm⟩ := hrel
          by_cases hlt2 : (m : Int) < x2
          · have hrun : (run (x1, x2)).take (m + 1) = (run (x1, x2)).take m ++ [x1 + (m : Int)] := by
              rw [List.take_succ_eq_append_getElem (by rw [run_len]; omega)]; simp [run]
            obtain ⟨fn, tmps, assign, body, hy, hR⟩ := hY (pre ++ (run (x1, x2)).take m) (x1 + (m : Int)) wr (by
              rw [HY.out, List.append_assoc, List.append_assoc]; refine (List.prefix_append_right_inj _).2 ?_
              rw [← hrun]; exact (List.take_prefix _ _).trans (List.prefix_append _ _)) hJm hKm
            have HR := Lib.hid hrun
            clear hrun
            gi_wp2
            refine hR.mono ?_
            rintro e W3 (⟨rfl, hJ3, hk3⟩ | ⟨rfl, hJx3⟩)
            · gi_wp2
              go_roundw
              case rel => exact ⟨m + 1, by omega, by go_num, by rw [HR.out, ← List.append_assoc]; exact hJ3, hk3⟩
              case measure => simp [intOf]; omega
            · gi_wp2
              refine bodyPost_ret (results_none rfl _ _ _) rfl ?_
              exact ⟨⟨_, rfl⟩, hJx3⟩
          · gi_wp2
            go_roundw
            case rel => exact ⟨k + 1, _, pre ++ run (x1, x2), by omega, by go_num, rfl, HY.out, by rw [List.take_of_length_le (by rw [run_len]; simp; omega)] at hJm; exact hJm, hKm⟩
            case measure => simp [intOf]; omega
    · have hk' : k = xs.length := by omega
      rw [List.drop_of_length_le (by omega)] at hys
      have HY := Lib.hid hys
      clear hys hk' hv
      gi_wp2
      go_end0
      exact ⟨⟨_, rfl⟩, hE'.out _ (by rw [HY.out]; simpa [blkSeq] using hJs) hKr⟩

end Go.Proofs.YtoajnmbbgbpbgaaGreat
namespace Go.Proofs.YtoajnmbbgbpbgaaGreat
set_option linter.unusedVariables false
set_option linter.unusedSimpArgs false
open Go.RowKit Go.Shelf
attribute [local go_sem] Oper.semAt_some wide_depth inRound_depth wide_fn inRound_fn

/-- blocks: a closure over a box that holds the list. -/
theorem blocks_calls (a : Option Addr) (n cap : Nat) (w : World) :
    Calls Tryz.prog 133 #[.slice a n cap] w fun e w' => e = .returned (.func (.func 139) #[] #[.pointer (some ⟨w.heap.size, 0, none⟩)]) ∧ w' = w.alloc (.cells #[.slice a n cap] 93) := by
  go_enter Tryz.func133, Tryz.ntmps133
  go_wp2
  go_ret
  exact ⟨rfl, rfl⟩

set_option maxHeartbeats 2000000 in
theorem check_calls (v : Value) (xs : List (Int × Int)) (w : World) (hlen : xs.length ≤ 100) (hv : Sl w v xs.length (extCells xs)) :
    Calls Tryz.prog 131 #[v] w fun e w' => e = .returned (.int .i64 (checkN xs)) ∧ Fr No w w' := by
  obtain ⟨a, cap, rfl⟩ := hv.form
  refine (callsIn_wide (n := 0)).1 ?_
  refine callsIn_of_wp_marks Tryz.func131 rfl trivial ?_ rfl
  simp only [Tryz.ntmps131, List.size_toArray, List.length_cons, List.length_nil, Nat.reduceAdd, Nat.reduceSub, Array.replicate_succ, Array.replicate_zero, List.push_toArray, List.append_toArray, List.nil_append, List.cons_append]
  gi_wp2_with (gi_at_call 133; refine (callsIn_wide.2 (blocks_calls _ _ _ _)).mono ?_; rintro e w' ⟨rfl, rfl⟩)
  refine wpIn_gen fun W0 hW0 => ?_
  have hs : w.heap.size + 1 + 1 < W0.heap.size := by rw [hW0]; simp
  have hF : Fr No w W0 := by rw [hW0]; exact (((Fr.refl _ _).alloc _).alloc _).alloc _
  have b2 : W0.heap[w.heap.size]? = some (.cells #[.int .i64 0] 35 (0, 0)) := by rw [hW0]; exact heap_alloc _ (heap_alloc _ (heap_new _ _))
  have b3 : W0.heap[w.heap.size + 1]? = some (.cells #[.int .u32 0] 76 (0, 0)) := by rw [hW0]; exact heap_alloc _ (by simpa using heap_new (w.alloc _) _)
  have b4 : W0.heap[w.heap.size + 1 + 1]? = some (.cells #[.slice a xs.length cap] 93 (0, 0)) := by rw [hW0]; simpa using heap_new ((w.alloc _).alloc _) _
  clear hW0
  refine range_outer opens_wide rfl (gf := 139) (lb := #[.pointer (some ⟨w.heap.size + 1 + 1, 0, none⟩)]) rfl (enters_of Tryz.func139 (by kernel_rfl) rfl)
    (blocks1_iter (w.heap.size + 1 + 1) (.slice a xs.length cap) xs W0 hlen (fun k => k = w.heap.size ∨ k = w.heap.size + 1) (by omega) ?hTv (heap_cell b4 rfl) (hv.fr0 hF)) (by intro x; rfl)
    (ownFrom_fr (Nat.le_refl _)) (Fr.refl _ _)
    (fun pre W => okB pre = true ∧ W.heap[w.heap.size]? = some (.cells #[.int .i64 0] 35 (0, 0)) ∧ W.heap[w.heap.size + 1]? = some (.cells #[.int .u32 (maskL pre)] 76 (0, 0)))
    (fun c pre W => (c = .ret ∧ okB pre = false ∧ W.heap[w.heap.size]? = some (.cells #[.int .i64 1] 35 (0, 0))) ∧ Fr (fun k => k = w.heap.size ∨ k = w.heap.size + 1) W0 W)
    ?hI ?hIx ⟨rfl, b2, b3⟩ ?hround ?hdone ?hstop
  case hTv => exact fun k e hne hk => by have := hv.lt e hne; omega
  case hI => exact ownFrom_of_heap fun pre W W' ⟨h1, h2, h3⟩ _ _ _ _ _ hc => ⟨h1, hc _ _ h2 rfl, hc _ _ h3 rfl⟩
  case hIx => exact fun c => ownFrom_and (ownFrom_of_heap fun pre W W' ⟨h1, h2, h3⟩ _ _ _ _ _ hc => ⟨h1, h2, hc _ _ h3 rfl⟩) (ownFrom_fr (by omega))
  case hround =>
    rintro l pre x W hl _ hpx ⟨hok, h2, h3⟩ hK
    gi_wp2
    refine ⟨KeepsFrom.refl _ _, ⟨hok, h2, h3⟩, hK, ?_⟩
    rintro W2 hg _ ⟨_, h2, h3⟩ hK2
    have c2 : W2.cell? ⟨w.heap.size, 0, none⟩ = some (.int .i64 0) := heap_cell (o := 0) h2 rfl
    have c3 : W2.cell? ⟨w.heap.size + 1, 0, none⟩ = some (.int .u32 (maskL pre)) := heap_cell (o := 0) h3 rfl
    have f2 := heap_frozen (o := 0) h2
    have f3 := heap_frozen (o := 0) h3
    have hx1 : x = -1 ∨ (9 ≤ x ∧ x < 32) := blkSeq_range xs (-1) x (hpx.subset (by simp))
    have hbad : okB (pre ++ [x]) = false → bodyQ W0.heap.size (Fr (fun k => k = w.heap.size ∨ k = w.heap.size + 1) W0)
        (fun pre W => okB pre = true ∧ W.heap[w.heap.size]? = some (.cells #[.int .i64 0] 35 (0, 0)) ∧ W.heap[w.heap.size + 1]? = some (.cells #[.int .u32 (maskL pre)] 76 (0, 0)))
        (fun c pre W => (c = .ret ∧ okB pre = false ∧ W.heap[w.heap.size]? = some (.cells #[.int .i64 1] 35 (0, 0))) ∧ Fr (fun k => k = w.heap.size ∨ k = w.heap.size + 1) W0 W)
        (pre ++ [x]) W2 .ret { tmps := #[], defers := [] } (W2.setCell ⟨w.heap.size, 0, none⟩ (.int .i64 1)) := fun e =>
      ⟨(KeepsOthers.setCell _ _ _).from _, ⟨rfl, e, heap_set _ h2⟩, hK2.setCell (fun _ => .inl rfl) _⟩
    by_cases hx : x < 0
    · have hbad' := Lib.hid (hbad (by rw [okB_snoc]; simp; omega))
      clear hbad
      gi_wp2
      exact hbad'.out
    · have hr : ∀ b ∈ pre, 0 ≤ b ∧ b < 32 := fun b hb => by
        have h1 := blkSeq_range xs (-1) b (hpx.subset (by simp [hb]))
        have h2 : 0 ≤ b := (of_decide_eq_true hok).1 b hb
        omega
      have ht := mask_test pre hr x (by omega) (by omega)
      have hx32 : x < 32 := by omega
      by_cases hin : x ∈ pre
      · have hbad' := Lib.hid (hbad (by rw [okB_snoc]; simp [hin]))
        clear hbad
        rw [decide_eq_true hin] at ht
        gi_wp2
        exact hbad'.out
      · have hok' : okB (pre ++ [x]) = true := by rw [okB_snoc, hok]; simp [hin]; omega
        have HO := Lib.hid hok'
        rw [decide_eq_false hin] at ht
        clear hbad hok' hin hr
        gi_wp2
        gi_region
        all_goals gi_wp2
        all_goals exact ⟨((KeepsOthers.setCell _ _ _).trans (KeepsOthers.drew _)).from _, (hK2.setCell (fun _ => .inr rfl) _).drew, HO.out, heap_set_other _ h2 (by omega), by rw [maskL_snoc, setB, ← IntKind.wrap_u32]; exact heap_set _ h3⟩
  case hdone =>
    rintro D W hD ⟨⟨hok, h2, h3⟩, hK⟩ hd
    have c2 : W.cell? ⟨w.heap.size, 0, none⟩ = some (.int .i64 0) := heap_cell (o := 0) h2 rfl
    have f2 := heap_frozen (o := 0) h2
    have e0 : checkN xs = 0 := by rw [checkN, hok]; rfl
    have HE := Lib.hid e0
    clear e0 hok
    gi_wp2
    have hd' : (W.setCell ⟨w.heap.size, 0, none⟩ (.int .i64 0)).heap[D]? = some (.deferred (some [])) := (KeepsOthers.setCell _ _ _).same _ _ hd rfl
    refine ⟨by simp, .inl ⟨_, _, rfl, run_takeDeferred hd', ?_⟩⟩
    have c5 : World.cell? _ ⟨w.heap.size, 0, none⟩ = some (.int .i64 0) := heap_cell (o := 0) (heap_putObj_cells (.deferred none) hd' (heap_set (.int .i64 0) h2) rfl) rfl
    refine ⟨.int .i64 0, ?_, by rw [HE.out], ?_⟩
    · simp [results, Tryz.f131, go_sem, c5]
    · exact (hF.trans' ((hK.setCell (p := ⟨w.heap.size, 0, none⟩) (fun _ => .inl rfl) _).putObj hD _) (by omega))
  case hstop =>
    rintro D c pre W hD hpre ⟨⟨rfl, hok, h2⟩, hFW⟩ hd
    have e0 : checkN xs = 1 := by
      rw [checkN, if_neg]
      intro h; rw [okB_prefix hpre h] at hok; cases hok
    have HE := Lib.hid e0
    clear e0 hok
    gi_wp2
    refine ⟨by simp, .inl ⟨_, _, rfl, run_takeDeferred hd, ?_⟩⟩
    have c5 : World.cell? _ ⟨w.heap.size, 0, none⟩ = some (.int .i64 1) := heap_cell (o := 0) (heap_putObj_cells (.deferred none) hd h2 rfl) rfl
    refine ⟨.int .i64 1, ?_, by rw [HE.out], ?_⟩
    · simp [results, Tryz.f131, go_sem, c5]
    · exact (hF.trans' (hFW.putObj hD _) (by omega))

theorem el_int : Elem Tryz.prog 33 3 (.int .i64 0) 1 8 := ⟨by kernel_rfl, by kernel_rfl, rfl, by decide⟩
theorem el_ext : Elem Tryz.prog 93 139 (.agg #[.int .i64 0, .int .i64 0]) 2 16 := ⟨by kernel_rfl, by kernel_rfl, rfl, by decide⟩

def ints (l : List Int) : List Value := l.map (Value.int .i64)

set_option maxHeartbeats 2000000 in
theorem list_calls (v : Value) (xs : List (Int × Int)) (w : World) (hlen : xs.length ≤ 100) (hv : Sl w v xs.length (extCells xs)) :
    Calls Tryz.prog 121 #[v] w fun e w' => ∃ r, e = .returned r ∧ w'.ownsRow w.heap.size 3 1 r (listF xs).length (ints (listF xs)) ∧ Fr No w w' := by
  have hck := check_calls v xs (w.alloc (.cells #[.slice none 0 0] 33)) hlen (hv.fr0 ((Fr.refl _ _).alloc _))
  obtain ⟨a, cap, rfl⟩ := hv.form
  have HC := Lib.hid hck
  clear hck
  have hb0 := heap_new w (.cells #[.slice none 0 0] 33)
  by_cases hok : okB (blkSeq (-1) xs) = true
  · have e0 : (checkN xs == 0) = true := by rw [checkN, hok]; rfl
    have eL : listF xs = blkSeq (-1) xs := by rw [listF, hok]; rfl
    have hlenB : (blkSeq (-1) xs).length ≤ 33 := okB_length hok (blkSeq_range xs (-1))
    have HL := Lib.hid eL
    clear eL hok
    refine (callsIn_wide (n := 0)).1 ?_
    refine callsIn_of_wp_marks Tryz.func121 rfl trivial ?_ rfl
    simp only [Tryz.ntmps121, List.size_toArray, List.length_cons, List.length_nil, Nat.reduceAdd, Nat.reduceSub, Array.replicate_succ, Array.replicate_zero, List.push_toArray, List.append_toArray, List.nil_append, List.cons_append]
    gi_wp2_with (first | (gi_at_call 131; refine (callsIn_wide.2 HC.out).mono ?_; rintro e w1 ⟨rfl, hF1⟩) | (gi_at_call 133; refine (callsIn_wide.2 (blocks_calls _ _ _ _)).mono ?_; rintro e w' ⟨rfl, rfl⟩))
    refine wpIn_gen fun W0 hW0 => ?_
    have hF : Fr No w W0 := by rw [hW0]; exact (((Fr.refl _ _).alloc _).trans' hF1 (fun _ _ h => h)).alloc _
    have hlt : w.heap.size < w1.heap.size := by have := hF1.size; simp at this; omega
    have hs : w1.heap.size < W0.heap.size := by rw [hW0]; simp
    have b3 : W0.heap[w.heap.size]? = some (.cells #[.slice none 0 0] 33 (0, 0)) := by rw [hW0]; exact heap_alloc _ (hF1.heap hb0 (fun h => h))
    have b4 : W0.heap[w1.heap.size]? = some (.cells #[.slice a xs.length cap] 93 (0, 0)) := by rw [hW0]; exact heap_new _ _
    clear hW0
    refine range_outer opens_wide rfl (gf := 139) (lb := #[.pointer (some ⟨w1.heap.size, 0, none⟩)]) rfl (enters_of Tryz.func139 (by kernel_rfl) rfl)
      (blocks1_iter w1.heap.size (.slice a xs.length cap) xs W0 hlen (fun k => k = w.heap.size) (by omega) ?hTv (heap_cell b4 rfl) (hv.fr0 hF)) (by intro x; rfl)
      (ownFrom_fr (Nat.le_refl _)) (Fr.refl _ _)
      (fun pre W => ∃ r, W.heap[w.heap.size]? = some (.cells #[r] 33 (0, 0)) ∧ W.ownsRow W0.heap.size 3 1 r pre.length (ints pre))
      (fun c pre W => False)
      ?hI ?hIx ⟨_, b3, World.ownsRow_nil _ _ _ _⟩ ?hround ?hdone ?hstop
    case hTv => exact fun k e hne hk => by have := hv.lt e hne; omega
    case hI => exact fun pre W W' row ⟨r, h1, h2⟩ hg hr => ⟨r, (ownFrom_heap (β := Unit)) () W W' row h1 hg hr, ownsRow_from h2 hg hr⟩
    case hIx => exact fun c s W W' row h hg hr => h
    case hround =>
      rintro l pre x W hl _ hpx ⟨r, h1, h2⟩ hK
      gi_wp2
      refine ⟨KeepsFrom.refl _ _, ⟨r, h1, h2⟩, hK, ?_⟩
      rintro W2 hg _ ⟨r2, h1, h2⟩ hK2
      have hpl : pre.length + 1 ≤ 33 := by have := hpx.length_le; simp at this; omega
      have c3 : W2.cell? ⟨w.heap.size, 0, none⟩ = some r2 := heap_cell (o := 0) h1 rfl
      have hsz := hK2.size
      gi_wp2_with (gi_at_builtin; refine append_in el_int rfl _ _ rfl W0.heap.size r2 _ _ rfl (h2.alloc _) ⟨W2.heap.size, 0, none⟩ 1 1 [.int .i64 x] rfl rfl (cell_one_new _ _ _) (by simp [Value.oneCell']) (by unfold maxLen; omega) (by omega) (by simp; omega) ?_; intro v' w3 hown' hgrow _; obtain ⟨g', cap', rfl⟩ := ownsRow_succ hown'; obtain ⟨q1, q2, q3, q4, q5, q6⟩ := app_box (B := W0.heap.size) h1 (by decide) h2 hgrow hown')
      exact ⟨q5, q6 _ _ hK2 (Nat.le_refl _) rfl, _, q3, by simpa [ints] using q4⟩
    case hdone =>
      rintro D W hD ⟨⟨r, h1, h2⟩, hK⟩ hd
      have c3 : W.cell? ⟨w.heap.size, 0, none⟩ = some r := heap_cell (o := 0) h1 rfl
      gi_wp2
      refine ⟨by simp, .inl ⟨_, _, rfl, run_takeDeferred hd, ?_⟩⟩
      refine ⟨_, results_tmp rfl _ _ _, r, rfl, ?_, ?_⟩
      · rw [HL.out]; exact ownsRow_base (ownsRow_from (B := 0) h2 (grownBy_putObj' _ D _) (fun k e => by cases e; exact ⟨Nat.zero_le _, _, hd, rfl⟩)) (by omega)
      · exact hF.trans' (hK.putObj hD _) (by omega)
    case hstop => rintro D c pre W hD hpre h hd; exact h.elim
  · have e0 : (checkN xs == 0) = false := by rw [checkN, if_neg hok]; rfl
    have eL : listF xs = [] := by rw [listF, if_neg hok]
    have HL := Lib.hid eL
    clear eL hok
    refine (callsIn_wide (n := 0)).1 ?_
    refine callsIn_of_wp Tryz.func121 rfl trivial ?_ rfl
    simp only [Tryz.ntmps121, List.size_toArray, List.length_cons, List.length_nil, Nat.reduceAdd, Nat.reduceSub, Array.replicate_succ, Array.replicate_zero, List.push_toArray, List.append_toArray, List.nil_append, List.cons_append]
    gi_wp2_with (gi_at_call 131; refine (callsIn_wide.2 HC.out).mono ?_; rintro e w1 ⟨rfl, hF1⟩; have c1 : w1.cell? ⟨w.heap.size, 0, none⟩ = some (.slice none 0 0) := heap_cell (o := 0) (hF1.heap hb0 (fun h => h)) rfl)
    refine bodyPost_ret (results_tmp rfl _ _ _) rfl ⟨_, rfl, ?_, ((Fr.refl _ _).alloc _).trans hF1⟩
    rw [HL.out]; exact World.ownsRow_nil _ _ _ _

end Go.Proofs.YtoajnmbbgbpbgaaGreat
namespace Go.Proofs.YtoajnmbbgbpbgaaGreat
set_option linter.unusedVariables false
set_option linter.unusedSimpArgs false
open Go.RowKit Go.Shelf

theorem ints_get (l : List Int) (k : Nat) (h : k < l.length) : (ints l)[k]? = some (.int .i64 l[k]) := by simp [ints, h]
theorem ints_ne (l : List Int) (k : Nat) (h : k < l.length) : ints l ≠ [] := by intro e; have := ints_get l k h; rw [e] at this; simp at this

theorem total_calls (v : Value) (xs : List (Int × Int)) (w : World) (hlen : xs.length ≤ 100) (hv : Sl w v xs.length (extCells xs)) :
    Calls Tryz.prog 116 #[v] w fun e w' => e = .returned (.int .i64 (listF xs).length) ∧ Fr No w w' := by
  have HL := Lib.hid (list_calls v xs w hlen hv)
  obtain ⟨a, cap, rfl⟩ := hv.form
  go_enter Tryz.func116, Tryz.ntmps116
  go_wp2_with (go_at_call 121; refine HL.out.mono ?_; rintro e w1 ⟨r, rfl, hr, hF⟩; obtain ⟨a2, cap2, rfl⟩ := (Sl.of_owns hr).form)
  go_ret
  exact ⟨rfl, hF⟩

theorem block_calls (v : Value) (xs : List (Int × Int)) (n : Int) (w : World) (hlen : xs.length ≤ 100) (hv : Sl w v xs.length (extCells xs)) :
    Calls Tryz.prog 96 #[v, .int .i64 n] w fun e w' => e = .returned (if 0 ≤ n ∧ n < (listF xs).length then .tuple #[.int .i64 ((listF xs).getD n.toNat 0), .int .i64 0] else .tuple #[.int .i64 0, .int .i64 1]) ∧ Fr No w w' := by
  have HL := Lib.hid (list_calls v xs w hlen hv)
  obtain ⟨a, cap, rfl⟩ := hv.form
  by_cases h0 : 0 ≤ n
  · by_cases h1 : n < (listF xs).length
    · rw [if_pos ⟨h0, h1⟩]
      obtain ⟨k, rfl⟩ := Int.eq_ofNat_of_zero_le h0
      have h2 : k < (listF xs).length := by omega
      have hg := ints_get _ k h2
      have hne := ints_ne _ k h2
      go_enter Tryz.func96, Tryz.ntmps96
      go_wp2_with (go_at_call 121; refine HL.out.mono ?_; rintro e w1 ⟨r, rfl, hr, hF⟩; obtain ⟨a2, cap2, rfl⟩ := (Sl.of_owns hr).form; obtain ⟨b, off, rfl, hb, hc⟩ := (Sl.of_owns hr).at hne; have hc1 := hc _ _ hg)
      go_ret2
      exact ⟨by simp [List.getD, h2], hF⟩
    · rw [if_neg (by omega)]
      go_enter Tryz.func96, Tryz.ntmps96
      go_wp2_with (go_at_call 121; refine HL.out.mono ?_; rintro e w1 ⟨r, rfl, hr, hF⟩; obtain ⟨a2, cap2, rfl⟩ := (Sl.of_owns hr).form)
      go_ret2
      exact ⟨rfl, hF⟩
  · rw [if_neg (by omega)]
    go_enter Tryz.func96, Tryz.ntmps96
    go_wp2_with (go_at_call 121; refine HL.out.mono ?_; rintro e w1 ⟨r, rfl, hr, hF⟩; obtain ⟨a2, cap2, rfl⟩ := (Sl.of_owns hr).form)
    go_ret2
    exact ⟨rfl, hF⟩

/-- The bits of a list of blocks: the reference's. -/
theorem set_calls (v : Value) (l : List Int) (w : World) (hl : l.length ≤ 1000) (h0 : ∀ b ∈ l, 0 ≤ b ∧ b < 32) (hv : Sl w v l.length (ints l)) :
    Calls Tryz.prog 107 #[v] w fun e w' => e = .returned (.int .u32 (maskL l)) ∧ w = w' := by
  obtain ⟨a, cap, rfl⟩ := hv.form
  go_enter Tryz.func107, Tryz.ntmps107
  go_wp2
  go_loop [3, 8] (fun s i => ∃ k : Nat, k ≤ l.length ∧ i = .int .i64 k ∧ s = .int .u32 (maskL (l.take k))) (fun _ i => l.length - (intOf i).toNat)
  case atStart => exact ⟨0, Nat.zero_le _, rfl, rfl⟩
  case round =>
    obtain ⟨k, hk, rfl, rfl⟩ := hrel
    by_cases hlt : k < l.length
    · obtain ⟨b, off, rfl, hb, hc⟩ := hv.at (ints_ne _ k hlt)
      have hc1 := hc _ _ (ints_get _ k hlt)
      have hx := h0 _ (List.getElem_mem hlt)
      have hs : maskL (l.take (k + 1)) = setB (maskL (l.take k)) l[k] := by rw [List.take_succ_eq_append_getElem hlt, maskL_snoc]
      revert hc1 hx hs
      generalize l[k] = x
      intro hc1 hx hs
      have HS := Lib.hid hs
      obtain ⟨hx0, hx1⟩ := hx
      clear hs h0 hc hv
      go_wp2
      go_round
      case rel => exact ⟨k + 1, by omega, by go_num, by rw [HS.out, setB]⟩
      case measure => simp [intOf]; omega
    · go_wp2
      go_ret
      exact ⟨by rw [List.take_of_length_le (by omega)]; rfl, rfl⟩

set_option maxHeartbeats 400000 in
theorem bits_calls (v : Value) (xs : List (Int × Int)) (w : World) (hlen : xs.length ≤ 100) (hv : Sl w v xs.length (extCells xs)) :
    Calls Tryz.prog 106 #[v] w fun e w' => e = .returned (.int .u32 (maskL (listF xs))) ∧ Fr No w w' := by
  have HL := Lib.hid (list_calls v xs w hlen hv)
  have h0 := listF_range xs
  have hl := listF_length xs
  obtain ⟨a, cap, rfl⟩ := hv.form
  generalize listF xs = l at *
  go_enter Tryz.func106, Tryz.ntmps106
  go_wp2_with (go_at_call 121; refine HL.out.mono ?_; rintro e w1 ⟨r, rfl, hr, hF⟩; replace hr := Sl.of_owns hr; obtain ⟨a2, cap2, rfl⟩ := hr.form)
  go_loop [3, 9] (fun s i => ∃ k : Nat, k ≤ l.length ∧ i = .int .i64 k ∧ s = .int .u32 (maskL (l.take k))) (fun _ i => l.length - (intOf i).toNat)
  case atStart => exact ⟨0, Nat.zero_le _, rfl, rfl⟩
  case round =>
    obtain ⟨k, hk, rfl, rfl⟩ := hrel
    by_cases hlt : k < l.length
    · obtain ⟨b, off, rfl, hb, hc⟩ := hr.at (ints_ne _ k hlt)
      have hc1 := hc _ _ (ints_get _ k hlt)
      have hx := h0 _ (List.getElem_mem hlt)
      have hs : maskL (l.take (k + 1)) = setB (maskL (l.take k)) l[k] := by rw [List.take_succ_eq_append_getElem hlt, maskL_snoc]
      revert hc1 hx hs
      generalize l[k] = x
      intro hc1 hx hs
      have HS := Lib.hid hs
      obtain ⟨hx0, hx1⟩ := hx
      clear hs h0 hc hv
      go_wp2
      go_round
      case rel => exact ⟨k + 1, by omega, by go_num, by rw [HS.out, setB]⟩
      case measure => simp [intOf]; omega
    · go_wp2
      go_ret
      exact ⟨by rw [List.take_of_length_le (by omega)]; rfl, hF⟩

theorem extCells_set (l : List (Int × Int)) (x1 x2 y : Int) : (extCells (l ++ [(x1, x2)])).set (l.length * 2 + 1) (.int .i64 y) = extCells (l ++ [(x1, y)]) := by
  induction l with
  | nil => rfl
  | cons a l ih =>
    simp only [extCells, List.cons_append, List.flatMap_cons, List.nil_append, List.length_cons, Nat.succ_mul] at ih ⊢
    rw [show l.length * 2 + 2 + 1 = (l.length * 2 + 1) + 1 + 1 by omega, List.set_cons_succ, List.set_cons_succ, ih]
theorem extCells_snoc (l : List (Int × Int)) (x : Int × Int) : extCells (l ++ [x]) = extCells l ++ [.int .i64 x.1, .int .i64 x.2] := by simp [extCells]
theorem joinF_hit (l : List (Int × Int)) (x1 x2 b : Int) (h : x1 + x2 = b) : joinF (l ++ [(x1, x2)]) b = l ++ [(x1, x2 + 1)] := by simp [joinF, h]
theorem joinF_miss (l : List (Int × Int)) (x1 x2 b : Int) (h : ¬ x1 + x2 = b) : joinF (l ++ [(x1, x2)]) b = l ++ [(x1, x2)] ++ [(b, 1)] := by simp [joinF, h]

theorem extCells_one (l : List (Int × Int)) : ∀ u ∈ extCells l, u.oneCell' = true := by
  intro u hu
  simp only [extCells, List.mem_flatMap, List.mem_cons, List.not_mem_nil, or_false] at hu
  obtain ⟨x, _, rfl | rfl⟩ := hu <;> rfl
theorem extCells_len (l : List (Int × Int)) : (extCells l).length = l.length * 2 := by
  induction l with
  | nil => rfl
  | cons x l ih => simp only [extCells, List.flatMap_cons, List.length_append, List.length_cons, List.length_nil] at ih ⊢; omega

set_option maxHeartbeats 2000000 in
theorem join_calls (n0 : Nat) (v : Value) (l : List (Int × Int)) (b : Int) (w : World) (hl : l.length ≤ 1000) (hr : ∀ x ∈ l, 0 ≤ x.1 ∧ x.1 ≤ 100 ∧ 0 ≤ x.2 ∧ x.2 ≤ 100) (hb0 : 0 ≤ b ∧ b ≤ 100) (hn0 : n0 ≤ w.heap.size)
    (hv : w.ownsRow n0 139 2 v l.length (extCells l)) :
    Calls Tryz.prog 132 #[v, .int .i64 b] w fun e w' => ∃ r, e = .returned r ∧ w'.ownsRow n0 139 2 r (joinF l b).length (extCells (joinF l b)) ∧ w.grownBy w' v.ownBlock := by
  obtain ⟨hb1, hb2⟩ := hb0
  rcases List.eq_nil_or_concat l with rfl | ⟨l', ⟨x1, x2⟩, rfl⟩
  · obtain ⟨_, ⟨rfl, _⟩ | ⟨g, cap, cur, rfl, hg, hh, q⟩⟩ := id hv
    · go_enter Tryz.func132, Tryz.ntmps132
      go_wp2
      go_quiet (fail)
      go_wp2_with (at_builtin; refine append_out el_ext rfl _ _ rfl n0 (.slice none 0 0) _ _ rfl (World.ownsRow.alloc (w := w.drewN _) hv _) ⟨w.heap.size, 0, none⟩ 1 1 [.int .i64 b, .int .i64 1] rfl rfl (cell_two_new _ _ _ _) (by simp [Value.oneCell']) (by unfold maxLen; simp) (by simp) (by simp; omega) ?_; intro v' w3 hown' hgrow _)
      go_ret
      exact ⟨v', rfl, hown', grownBy_drewN_alloc hgrow⟩
    · go_enter Tryz.func132, Tryz.ntmps132
      go_wp2
      go_quiet (fail)
      go_wp2_with (at_builtin; refine append_out el_ext rfl _ _ rfl n0 (.slice (some ⟨g, 0, none⟩) 0 cap) _ _ rfl (World.ownsRow.alloc (w := w.drewN _) hv _) ⟨w.heap.size, 0, none⟩ 1 1 [.int .i64 b, .int .i64 1] rfl rfl (cell_two_new _ _ _ _) (by simp [Value.oneCell']) (by unfold maxLen; simp) (by simp) (by simp; omega) ?_; intro v' w3 hown' hgrow _)
      go_ret
      exact ⟨v', rfl, hown', grownBy_drewN_alloc hgrow⟩
  · rw [List.concat_eq_append] at *
    have hx := hr (x1, x2) (by simp)
    obtain ⟨r1, r2, r3, r4⟩ := hx
    have hll : l'.length ≤ 999 := by simp at hl; omega
    rw [List.length_append, List.length_singleton] at hv
    obtain ⟨g, cap, rfl⟩ := ownsRow_succ hv
    have e1 : (extCells (l' ++ [(x1, x2)]))[l'.length * 2]? = some (.int .i64 x1) := by have := (extCells_get (l' ++ [(x1, x2)]) l'.length (by simp)).1; simpa using this
    have e2 : (extCells (l' ++ [(x1, x2)]))[l'.length * 2 + 1]? = some (.int .i64 x2) := by have := (extCells_get (l' ++ [(x1, x2)]) l'.length (by simp)).2; simpa using this
    have c1 := (hv.cellAt (l'.length * 2) (by omega)).trans e1
    have c2 := (hv.cellAt (l'.length * 2 + 1) (by omega)).trans e2
    have f2 := hv.frozenAt (l'.length * 2 + 1)
    clear e1 e2 hr hl
    by_cases hxb : x1 + x2 = b
    · have hxb' : (x1 + x2 == b) = true := by simpa using hxb
      have hst := hv.stored (l'.length * 2 + 1) (.int .i64 (x2 + 1))
      rw [extCells_set] at hst
      rw [joinF_hit _ _ _ _ hxb]
      have HST := Lib.hid hst
      clear hst hxb
      go_enter Tryz.func132, Tryz.ntmps132
      go_wp2
      go_quiet (fail)
      go_wp2
      go_ret
      obtain ⟨q1, q2⟩ := HST.out
      rw [List.length_append, List.length_singleton]
      exact ⟨_, rfl, q1, ⟨q2.os, q2.tape, q2.output, q2.size, q2.block⟩⟩
    · have hxb' : (x1 + x2 == b) = false := by simpa using hxb
      rw [joinF_miss _ _ _ _ hxb]
      clear hxb
      go_enter Tryz.func132, Tryz.ntmps132
      go_wp2
      go_quiet (fail)
      go_wp2_with (at_builtin; refine append_out el_ext rfl _ _ rfl n0 (.slice (some ⟨g, 0, none⟩) (l'.length + 1) cap) _ _ rfl (World.ownsRow.alloc (w := w.drewN _) hv _) ⟨w.heap.size, 0, none⟩ 1 1 [.int .i64 b, .int .i64 1] rfl rfl (cell_two_new _ _ _ _) (by simp [Value.oneCell']) (by unfold maxLen; omega) (by omega) (by simp; omega) ?_; intro v' w3 hown' hgrow _)
      go_ret
      exact ⟨v', rfl, by rw [extCells_snoc, List.length_append, List.length_append]; exact hown', grownBy_drewN_alloc hgrow⟩

end Go.Proofs.YtoajnmbbgbpbgaaGreat
namespace Go.Proofs.YtoajnmbbgbpbgaaGreat
set_option linter.unusedVariables false
set_option linter.unusedSimpArgs false
open Go.RowKit Go.Shelf

theorem shr_bit_int (s : Nat) (x : Int) (hs : s < 2 ^ 32) (h0 : 0 ≤ x) (h1 : x < 32) : (bits .and .u32 ((s : Int) / 2 ^ x.toNat) 1 == 1) = s.testBit x.toNat := shr_bit s x.toNat hs (by omega)

/-- What Grow comes to, where the list and the number may be. -/
def GrowPost (w : World) (res : Option (List (Int × Int) × Nat)) (e : Ending) (w' : World) : Prop :=
  Fr No w w' ∧ match res with
    | some (out, u) => ∃ r, e = .returned (.tuple #[r, .int .u32 u, .int .i64 0]) ∧ w'.ownsRow w.heap.size 139 2 r out.length (extCells out)
    | none => e = .returned (.tuple #[.slice none 0 0, .int .u32 0, .int .i64 50])

theorem grow_bad (v : Value) (xs : List (Int × Int)) (used n : Int) (w : World) (hlen : xs.length ≤ 100) (hv : Sl w v xs.length (extCells xs)) (hbad : ¬ (okB (blkSeq (-1) xs) = true ∧ 0 ≤ n)) :
    Calls Tryz.prog 119 #[v, .int .u32 used, .int .i64 n] w fun e w' => Fr No w w' ∧ e = .returned (.tuple #[.slice none 0 0, .int .u32 0, .int .i64 1]) := by
  have HC := Lib.hid (check_calls v xs w hlen hv)
  obtain ⟨a, cap, rfl⟩ := hv.form
  by_cases hok : okB (blkSeq (-1) xs) = true
  · have e0 : (checkN xs != 0) = false := by rw [checkN, hok]; rfl
    have hn : n < 0 := by simp only [hok, true_and] at hbad; omega
    clear hbad hok hv
    go_enter Tryz.func119, Tryz.ntmps119
    go_wp2_with (go_at_call 131; refine HC.out.mono ?_; rintro e w1 ⟨rfl, hF1⟩)
    go_step3
    go_wp2_with (go_at_call 131; refine HC.out.mono ?_; rintro e w1 ⟨rfl, hF1⟩)
    rw [Exit.noGoto_ret]
    go_ret3
    exact ⟨hF1, rfl⟩
  · have e0 : (checkN xs != 0) = true := by rw [checkN, if_neg hok]; rfl
    clear hbad hok hv
    go_enter Tryz.func119, Tryz.ntmps119
    go_wp2_with (go_at_call 131; refine HC.out.mono ?_; rintro e w1 ⟨rfl, hF1⟩)
    go_step3
    go_wp2_with (go_at_call 131; refine HC.out.mono ?_; rintro e w1 ⟨rfl, hF1⟩)
    rw [Exit.noGoto_ret]
    go_ret3
    exact ⟨hF1, rfl⟩

set_option maxHeartbeats 2000000 in
theorem grow_ok (v : Value) (xs : List (Int × Int)) (used : Nat) (n : Int) (w : World) (hlen : xs.length ≤ 100) (hu : used < 2 ^ 32) (hv : Sl w v xs.length (extCells xs)) (hok : okB (blkSeq (-1) xs) = true) (hn0 : 0 ≤ n) (hn2 : n < 9223372036854775808) :
    Calls Tryz.prog 119 #[v, .int .u32 used, .int .i64 n] w (GrowPost w (growF xs used n)) := by
  have HC := Lib.hid (check_calls v xs w hlen hv)
  obtain ⟨a, cap, rfl⟩ := hv.form
  have e0 : (checkN xs != 0) = false := by rw [checkN, hok]; rfl
  have hf : fine xs := fine_of_ok xs (-1) (of_decide_eq_true hok).1
  clear hok
  go_enter Tryz.func119, Tryz.ntmps119
  go_wp2_with (go_at_call 131; refine HC.out.mono ?_; rintro e w1 ⟨rfl, hF1⟩)
  go_step3
  go_wp2_with (first | (go_at_call 131; refine HC.out.mono ?_; rintro e w1 ⟨rfl, hF1⟩; have hv1 := hv.fr0 hF1) | (at_builtin; go_must (refine append_sl el_ext rfl _ _ rfl w.heap.size (.slice none 0 0) 0 [] rfl (World.ownsRow_nil _ _ _ _) rfl hv1 (extCells_len xs) (extCells_one xs) (by unfold maxLen; omega) (by omega) hF1.size ?_); intro v' w3 hown' hgrow))
  have hF3 : Fr No w w3 := hF1.grown hgrow (by intro k e; cases e)
  simp only [Nat.zero_add, List.nil_append] at hown'
  clear hgrow hF1 hv1 hv
  go_step3
  go_wp2
  go_loopw [1, 2, 9, 10] (fun u m o b wr => ∃ (d un : Nat) (mi : Int) (out : List (Int × Int)), u = .int .u32 un ∧ m = .int .i64 mi ∧ b = .int .i64 (32 - d : Int) ∧ d ≤ 23 ∧ 0 ≤ mi ∧ mi ≤ n ∧ un < 2 ^ 32 ∧ out.length + d ≤ 123 ∧ fine out ∧
      growF xs used n = growL d out un mi ∧ wr.ownsRow w.heap.size 139 2 o out.length (extCells out) ∧ Fr No w wr)
    (fun _ _ _ b _ => (32 - intOf b).toNat)
  case atStart => exact ⟨23, used, n, xs, rfl, rfl, rfl, by omega, hn0, by omega, hu, by omega, hf, rfl, hown', hF3⟩
  case round =>
    obtain ⟨d, un, mi, out, rfl, rfl, rfl, hd, hm0, hmn, hun, hol, hfo, hgf, hrow, hFr⟩ := hrel
    have HG := Lib.hid hgf
    clear hgf
    by_cases hm : 0 < mi
    · cases d with
      | zero =>
        have hgn : growF xs used n = none := by rw [HG.out, growL, if_neg (by omega)]
        have HN := Lib.hid hgn
        clear hgn hf hfo
        go_wp2
        rw [Exit.noGoto_ret]
        go_ret3
        exact ⟨hFr, by rw [HN.out]; rfl⟩
      | succ d =>
        have hb1 : (32 - ((d + 1 : Nat) : Int)) = ((31 - d : Nat) : Int) := by omega
        rw [hb1]
        have hbl : 31 - d < 32 := by omega
        have hbg : 8 < 31 - d := by omega
        have hbit := shr_bit un (31 - d) hun hbl
        have hnext : growF xs used n = if un.testBit (31 - d) then growL d out un mi else growL d (joinF out (31 - d : Nat)) (un ||| 2 ^ (31 - d)) (mi - 1) := by rw [HG.out, growL, if_neg (by omega)]
        have hd2 : (31 - d) + d = 31 := by omega
        generalize 31 - d = q at *
        by_cases ht : un.testBit q = true
        · rw [if_pos ht] at hnext
          rw [ht] at hbit
          have HN := Lib.hid hnext
          clear hnext hf hb1 ht
          go_wp2
          exact ⟨⟨d, un, mi, out, rfl, rfl, by congr 1; omega, by omega, hm0, hmn, hun, by omega, hfo, HN.out, hrow, hFr⟩, by simp [intOf]; omega⟩
        · rw [if_neg ht] at hnext
          rw [Bool.not_eq_true] at ht
          rw [ht] at hbit
          have HN := Lib.hid hnext
          clear hnext hf hb1 ht
          go_wp2_with (go_at_call 132; refine (join_calls w.heap.size _ out q _ (by omega) (fun x hx => by have := hfo x hx; omega) (by omega) hFr.size hrow).mono ?_; rintro e w4 ⟨r4, rfl, hrow4, hg4⟩)
          have hor := or_lt un (q : Int) hun (by omega)
          have hq := pow_small (q : Int) (by omega)
          have hoe := or_u32 un (2 ^ q) hun (Nat.pow_lt_pow_right (by decide) hbl)
          rw [Int.toNat_natCast] at hor hq
          rw [hq, hoe]
          have hjl := joinF_length out (q : Int)
          exact ⟨⟨d, un ||| 2 ^ q, mi - 1, joinF out q, rfl, rfl, by congr 1; omega, by omega, by omega, by omega, hor, by omega, joinF_fine out q hfo (by omega), HN.out, hrow4, hFr.grown hg4 (fun k e hk => by have := (hrow.lt k e).1; omega)⟩, by simp [intOf]; omega⟩
    · have hgn : growF xs used n = some (out, un) := by rw [HG.out]; cases d <;> (rw [growL, if_pos (by omega)])
      have HN := Lib.hid hgn
      clear hgn hf hfo
      go_wp2
      go_ret3
      exact ⟨hFr, by rw [HN.out]; exact ⟨_, rfl, hrow⟩⟩

/-! ### Shrink -/
theorem joinsL_fine (l : List Int) (h : ∀ b ∈ l, 0 ≤ b ∧ b < 32) : fine (joinsL l) ∧ (joinsL l).length ≤ l.length := by
  have key : ∀ (l : List Int) (o : List (Int × Int)), fine o → (∀ b ∈ l, 0 ≤ b ∧ b < 32) → fine (l.foldl joinF o) ∧ (l.foldl joinF o).length ≤ o.length + l.length := by
    intro l
    induction l with
    | nil => intro o ho _; exact ⟨ho, by simp⟩
    | cons b l ih =>
      intro o ho hl
      obtain ⟨h1, h2⟩ := ih (joinF o b) (joinF_fine o b ho (hl b (by simp))) (fun c hc => hl c (by simp [hc]))
      refine ⟨h1, ?_⟩
      have := joinF_length o b
      simp only [List.foldl_cons, List.length_cons]; omega
  have := key l [] (fun x hx => by cases hx) h
  simpa [joinsL] using this

def ShrinkPost (w : World) (res : Option (List (Int × Int) × Nat)) (e : Ending) (w' : World) : Prop :=
  Fr No w w' ∧ match res with
    | some (out, u) => ∃ r, e = .returned (.tuple #[r, .int .u32 u, .int .i64 0]) ∧ w'.ownsRow w.heap.size 139 2 r out.length (extCells out)
    | none => e = .returned (.tuple #[.slice none 0 0, .int .u32 0, .int .i64 1])
def shrinkF (xs : List (Int × Int)) (used : Nat) (n : Int) : Option (List (Int × Int) × Nat) :=
  if okB (blkSeq (-1) xs) = true ∧ 0 ≤ n ∧ n ≤ (listF xs).length then some (joinsL ((listF xs).take n.toNat), dropL used ((listF xs).drop n.toNat)) else none

set_option maxHeartbeats 2000000 in
set_option maxRecDepth 100000 in
theorem shrink_calls (v : Value) (xs : List (Int × Int)) (used : Nat) (n : Int) (w : World) (hlen : xs.length ≤ 100) (hu : used < 2 ^ 32) (hv : Sl w v xs.length (extCells xs)) (hn1 : -9223372036854775808 ≤ n) (hn2 : n < 9223372036854775808) :
    Calls Tryz.prog 118 #[v, .int .u32 used, .int .i64 n] w (ShrinkPost w (shrinkF xs used n)) := by
  have HL := Lib.hid (list_calls v xs w hlen hv)
  have HC := Lib.hid (fun (w1 : World) (h : Fr No w w1) => check_calls v xs w1 hlen (hv.fr0 h))
  obtain ⟨a, cap, rfl⟩ := hv.form
  have hlr := listF_range xs
  have hll := listF_length xs
  have hchk : okB (blkSeq (-1) xs) = true ∧ checkN xs = 0 ∨ ¬ okB (blkSeq (-1) xs) = true ∧ checkN xs = 1 := by
    by_cases h : okB (blkSeq (-1) xs) = true
    · exact .inl ⟨h, by rw [checkN, h]; rfl⟩
    · exact .inr ⟨h, by rw [checkN, if_neg h]⟩
  rcases hchk with ⟨hok, hcn⟩ | ⟨hok, hcn⟩
  · have e0 : (checkN xs != 0) = false := by rw [hcn]; rfl
    by_cases hn : 0 ≤ n ∧ n ≤ (listF xs).length
    · obtain ⟨h0, h1⟩ := hn
      have hres : shrinkF xs used n = some (joinsL ((listF xs).take n.toNat), dropL used ((listF xs).drop n.toNat)) := by rw [shrinkF, if_pos ⟨hok, h0, h1⟩]
      rw [hres]
      clear hres hok hcn hv
      obtain ⟨k0, rfl⟩ := Int.eq_ofNat_of_zero_le h0
      rw [Int.toNat_natCast]
      generalize listF xs = l at *
      have h1' : k0 ≤ l.length := by omega
      have hd1 : decide ((k0 : Int) < 0) = false := by simp
      have hd2 : decide (l.length < k0) = false := by simp; omega
      have HLR := Lib.hid hlr
      clear hlr hn1 hn2
      go_enter Tryz.func118, Tryz.ntmps118
      go_wp2_with (first | (go_at_call 121; refine HL.out.mono ?_; rintro e w1 ⟨r, rfl, hr, hF1⟩; replace hr := Sl.of_owns hr; obtain ⟨a2, cap2, rfl⟩ := hr.form) | (go_at_call 131; refine (HC.out _ hF1).mono ?_; rintro e w2 ⟨rfl, hF2⟩))
      have hr2 := hr.fr0 hF2
      have hF := hF1.trans hF2
      clear hr hF1 hF2
      go_loopw [1, 10, 30] (fun u o i wr => ∃ (k un : Nat), k ≤ l.length ∧ i = .int .i64 k ∧ u = .int .u32 un ∧ un = dropL used ((l.take k).drop k0) ∧ un < 2 ^ 32 ∧
          wr.ownsRow w2.heap.size 139 2 o (joinsL (l.take (min k k0))).length (extCells (joinsL (l.take (min k k0)))) ∧ Fr No w2 wr)
        (fun _ _ i _ => l.length - (intOf i).toNat)
      case atStart => exact ⟨0, used, Nat.zero_le _, rfl, rfl, by simp [dropL], hu, by simp [joinsL]; exact World.ownsRow_nil _ _ _ _, Fr.refl _ _⟩
      case round =>
        obtain ⟨k, un, hk, rfl, rfl, hun, hun2, hrow, hFr⟩ := hrel
        have HU := Lib.hid hun
        clear hun
        by_cases hlt : k < l.length
        · obtain ⟨b, off, rfl, hb, hc⟩ := hr2.at (ints_ne _ k hlt)
          have hc1 := (hFr.cell (hc _ _ (ints_get _ k hlt)) (fun h => h))
          obtain ⟨hx0, hx1⟩ := HLR.out _ (List.getElem_mem hlt)
          have htk : l.take (k + 1) = l.take k ++ [l[k]] := List.take_succ_eq_append_getElem hlt
          have hjf := joinsL_fine (l.take (min k k0)) (fun b hb => HLR.out b (List.mem_of_mem_take hb))
          obtain ⟨hjf1, hjf2⟩ := hjf
          have hmin : (l.take (min k k0)).length ≤ 33 := by rw [List.length_take]; omega
          by_cases hkk : k < k0
          · have hn1 : joinsL (l.take (min (k + 1) k0)) = joinF (joinsL (l.take (min k k0))) l[k] := by
              rw [Nat.min_eq_left (by omega), Nat.min_eq_left (by omega), htk, joinsL_snoc]
            have hn2 : (l.take (k + 1)).drop k0 = (l.take k).drop k0 := by
              rw [List.drop_of_length_le (by rw [List.length_take]; omega), List.drop_of_length_le (by rw [List.length_take]; omega)]
            have HN := Lib.hid (And.intro hn1 hn2)
            have HJ := Lib.hid hjf1
            clear hn1 hn2 htk hr2 hc hjf1
            revert hc1 hx0 hx1 HN
            generalize l[k] = x
            intro hc1 hx0 hx1 HN
            go_wp2_with (go_at_call 132; refine (join_calls w2.heap.size _ _ x _ (by omega) (fun x hx => by have := HJ.out x hx; omega) (by omega) hFr.size hrow).mono ?_; rintro e w4 ⟨r4, rfl, hrow4, hg4⟩)
            go_roundw
            case rel => exact ⟨k + 1, un, by omega, by go_num, rfl, by rw [HN.out.2]; exact HU.out, hun2, by rw [HN.out.1]; exact hrow4, hFr.grown hg4 (fun k e hk => by have := (hrow.lt k e).1; omega)⟩
            case measure => simp [intOf]; omega
          · have hn1 : joinsL (l.take (min (k + 1) k0)) = joinsL (l.take (min k k0)) := by
              rw [Nat.min_eq_right (by omega), Nat.min_eq_right (by omega)]
            have hn2 : (l.take (k + 1)).drop k0 = (l.take k).drop k0 ++ [l[k]] := by
              rw [htk, List.drop_append_of_le_length (by rw [List.length_take]; omega)]
            have HN := Lib.hid (And.intro hn1 hn2)
            have HJ := Lib.hid hjf1
            clear hn1 hn2 htk hr2 hc hjf1
            revert hc1 hx0 hx1 HN
            generalize l[k] = x
            intro hc1 hx0 hx1 HN
            go_wp2
            have hq := pow_small x (by omega)
            have hdn := andNot_u32 un (2 ^ x.toNat)
            rw [hq, hdn]
            exact ⟨⟨k + 1, dif un (2 ^ x.toNat), by omega, by go_num, rfl, by rw [HN.out.2, dropL_snoc, ← HU.out], dif_lt _ _, by rw [HN.out.1]; exact hrow, hFr⟩, by simp [intOf]; omega⟩
        · have hkl : k = l.length := by omega
          have HK := Lib.hid hkl
          clear hkl hr2
          go_wp2
          go_ret3
          have hm : min k k0 = k0 := by have := HK.out; omega
          have hun : un = dropL used (l.drop k0) := by rw [HU.out, HK.out, List.take_length]
          rw [hm] at hrow
          exact ⟨hF.trans hFr, _, by rw [hun]; rfl, ownsRow_base hrow hF.size⟩
    · have hres : shrinkF xs used n = none := by rw [shrinkF, if_neg (by omega)]
      rw [hres]
      clear hres hok hcn hv
      generalize listF xs = l at *
      have HLR := Lib.hid hlr
      clear hlr
      by_cases h0 : 0 ≤ n
      · have h1 : (l.length : Int) < n := by omega
        clear hn hn2
        go_enter Tryz.func118, Tryz.ntmps118
        go_wp2_with (first | (go_at_call 121; refine HL.out.mono ?_; rintro e w1 ⟨r, rfl, hr, hF1⟩; replace hr := Sl.of_owns hr; obtain ⟨a2, cap2, rfl⟩ := hr.form) | (go_at_call 131; refine (HC.out _ hF1).mono ?_; rintro e w2 ⟨rfl, hF2⟩))
        go_ret3
        exact ⟨hF1.trans hF2, rfl⟩
      · clear hn hn2 hn1
        go_enter Tryz.func118, Tryz.ntmps118
        go_wp2_with (first | (go_at_call 121; refine HL.out.mono ?_; rintro e w1 ⟨r, rfl, hr, hF1⟩; replace hr := Sl.of_owns hr; obtain ⟨a2, cap2, rfl⟩ := hr.form) | (go_at_call 131; refine (HC.out _ hF1).mono ?_; rintro e w2 ⟨rfl, hF2⟩))
        go_ret3
        exact ⟨hF1.trans hF2, rfl⟩
  · have e0 : (checkN xs != 0) = true := by rw [hcn]; rfl
    have hres : shrinkF xs used n = none := by rw [shrinkF, if_neg (by simp [hok])]
    rw [hres]
    clear hres hok hcn hv hlr hn1 hn2
    go_enter Tryz.func118, Tryz.ntmps118
    go_wp2_with (first | (go_at_call 121; refine HL.out.mono ?_; rintro e w1 ⟨r, rfl, hr, hF1⟩; replace hr := Sl.of_owns hr; obtain ⟨a2, cap2, rfl⟩ := hr.form) | (go_at_call 131; refine (HC.out _ hF1).mono ?_; rintro e w2 ⟨rfl, hF2⟩))
    go_ret3
    exact ⟨hF1.trans hF2, rfl⟩

end Go.Proofs.YtoajnmbbgbpbgaaGreat
