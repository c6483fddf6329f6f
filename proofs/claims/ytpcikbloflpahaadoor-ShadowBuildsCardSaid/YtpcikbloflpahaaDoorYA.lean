/-
  Words of this seat's own on worlds: what a call leaves as it was ('Fr'), what a slice reads as ('Sl').
-/
import Derived.Below
import Derived.Lib.Hide
import Derived.RangeFuncNested
import Derived.RangeFuncBound
import Derived.RangeFuncCalls
import Derived.RangeFuncLeaves
import Derived.Shelf.Abstract
import Derived.Shelf.RegionOpen
import Derived.WalkKit
import Derived.OwnWalkIn
import Derived.TacticsInMore
import Derived.LoopNIn
import Derived.LoopIn
import Derived.Maps.AppendAt
import Derived.Laws.AppendOwnNone
import Derived.Laws.OwnMore
import Derived.Deep.RegionLaw
import Derived.Test.YtpcikbloflpahaaDoorProg
import Derived.Deep.QuietTactic
import Derived.BigQuiet
import Derived.WalkSmall
import Derived.WalkSpells
import Derived.Deep.AppendLies
import Derived.Lib.BufferWrite
import Derived.Laws.CopyRow
import Derived.Laws.MakeOwn
import Derived.Laws.BytesString
import Derived.Laws.BytesArg
namespace Go.Proofs.YtpcikbloflpahaaDoor
set_option linter.unusedVariables false
set_option linter.unusedSimpArgs false
open Go.RowKit

/-- Of what lay in w nothing has turned, but for the blocks of S; no block has gone. -/
structure Fr (S : Nat → Prop) (w w' : World) : Prop where
  os : w'.os = w.os
  tape : w'.tape = w.tape
  output : w'.output = w.output
  size : w.heap.size ≤ w'.heap.size
  blk : ∀ k, k < w.heap.size → ¬ S k → w'.heap[k]? = w.heap[k]?

/-- No block at all. -/
abbrev No : Nat → Prop := fun _ => False

theorem Fr.refl (S : Nat → Prop) (w : World) : Fr S w w := ⟨rfl, rfl, rfl, Nat.le_refl _, fun _ _ _ => rfl⟩
theorem Fr.trans' {S T : Nat → Prop} {a b c : World} (h : Fr S a b) (k : Fr T b c) (hT : ∀ i, i < a.heap.size → T i → S i) : Fr S a c :=
  ⟨k.os.trans h.os, k.tape.trans h.tape, k.output.trans h.output, Nat.le_trans h.size k.size, fun i hi hn =>
    (k.blk i (Nat.lt_of_lt_of_le hi h.size) (fun ht => hn (hT i hi ht))).trans (h.blk i hi hn)⟩
theorem Fr.trans {S : Nat → Prop} {a b c : World} (h : Fr S a b) (k : Fr S b c) : Fr S a c := h.trans' k (fun _ _ h => h)
theorem Fr.mono {S T : Nat → Prop} {a b : World} (h : Fr S a b) (hT : ∀ i, i < a.heap.size → S i → T i) : Fr T a b :=
  ⟨h.os, h.tape, h.output, h.size, fun i hi hn => h.blk i hi (fun hs => hn (hT i hi hs))⟩
theorem Fr.no {S : Nat → Prop} {a b : World} (h : Fr No a b) : Fr S a b := h.mono (fun _ _ h => h.elim)
theorem Fr.drew {S : Nat → Prop} {a w : World} (h : Fr S a w) : Fr S a w.drew := ⟨h.os, h.tape, h.output, h.size, h.blk⟩
theorem Fr.drewN {S : Nat → Prop} {a w : World} (h : Fr S a w) (n : Nat) : Fr S a (w.drewN n) := ⟨h.os, h.tape, h.output, h.size, h.blk⟩
theorem Fr.alloc {S : Nat → Prop} {a w : World} (h : Fr S a w) (o : Obj) : Fr S a (w.alloc o) :=
  h.trans' (T := No) ⟨rfl, rfl, rfl, by simp, fun k hk _ => Below.heap_alloc _ _ _ hk⟩ (fun _ _ h => h.elim)
theorem Fr.setCell {S : Nat → Prop} {a w : World} (h : Fr S a w) {p : Addr} (hp : p.block < a.heap.size → S p.block) (u : Value) : Fr S a (w.setCell p u) :=
  h.trans' (T := fun k => k = p.block) ⟨rfl, rfl, rfl, by simp [World.setCell], fun k _ hn => Below.heap_setCell _ _ _ _ hn⟩ (fun i hi e => by subst e; exact hp hi)
theorem Fr.grown {S : Nat → Prop} {a w w' : World} (h : Fr S a w) {row : Option Nat} (hg : w.grownBy w' row) (hr : ∀ k, row = some k → k < a.heap.size → S k) : Fr S a w' :=
  h.trans' (T := fun k => row = some k) ⟨hg.os, hg.tape, hg.output, hg.size, fun k hk hn => hg.block k hk (fun e => hn e.symm)⟩ (fun i hi e => hr i e hi)
theorem Fr.below {w w' : World} (h : Fr No w w') : Below w.heap.size w w' := ⟨h.os, h.tape, h.output, h.size, fun k hk => h.blk k hk (fun h => h)⟩
theorem Fr.of_below {S : Nat → Prop} {w w' : World} (h : Below w.heap.size w w') : Fr S w w' := ⟨h.os, h.tape, h.output, h.size, fun k hk _ => h.block k hk⟩
theorem Fr.grownBy {w w' : World} (h : Fr No w w') (row : Option Nat) : w.grownBy w' row := ⟨h.os, h.tape, h.output, h.size, fun k hk _ => h.blk k hk (fun h => h)⟩
theorem Fr.keepsFrom {S : Nat → Prop} {w w' : World} (h : Fr S w w') {B : Nat} (hS : ∀ k, k < w.heap.size → S k → k < B) : KeepsFrom B w w' :=
  ⟨h.size, fun k o hB hk _ => (h.blk k (Array.getElem?_eq_some_iff.1 hk).1 (fun hs => by have := hS k (Array.getElem?_eq_some_iff.1 hk).1 hs; omega)).trans hk⟩
theorem Fr.heap {S : Nat → Prop} {w w' : World} (h : Fr S w w') {k : Nat} {o : Obj} (hk : w.heap[k]? = some o) (hn : ¬ S k) : w'.heap[k]? = some o :=
  (h.blk k (Array.getElem?_eq_some_iff.1 hk).1 hn).trans hk
theorem Fr.cell {S : Nat → Prop} {w w' : World} (h : Fr S w w') {b o : Nat} {v : Value} (hc : w.cell? ⟨b, o, none⟩ = some v) (hn : ¬ S b) : w'.cell? ⟨b, o, none⟩ = some v := by
  by_cases hb : b < w.heap.size
  · rw [World.cell?_of_block (w := w) (w' := w') (a := ⟨b, o, none⟩) (h.blk b hb hn)]; exact hc
  · exfalso; simp [World.cell?, Array.getElem?_eq_none (Nat.le_of_not_lt hb)] at hc
theorem cell_lt {w : World} {b o : Nat} {v : Value} (hc : w.cell? ⟨b, o, none⟩ = some v) : b < w.heap.size := by
  by_cases hb : b < w.heap.size
  · exact hb
  · exfalso; simp [World.cell?, Array.getElem?_eq_none (Nat.le_of_not_lt hb)] at hc
theorem Fr.frozen {S : Nat → Prop} {w w' : World} (h : Fr S w w') {b o : Nat} (hb : b < w.heap.size) (hn : ¬ S b) : w'.frozen? ⟨b, o, none⟩ = w.frozen? ⟨b, o, none⟩ :=
  World.frozen?_of_block (w := w) (w' := w') (a := ⟨b, o, none⟩) (h.blk b hb hn)
/-- A cell of an old world, read in a later one: the two rules that the walk takes by itself. -/
theorem Fr.rules {S : Nat → Prop} {w w' : World} (h : Fr S w w') : (∀ b o, b < w.heap.size → ¬ S b → w'.cell? ⟨b, o, none⟩ = w.cell? ⟨b, o, none⟩) ∧ (∀ b o, b < w.heap.size → ¬ S b → w'.frozen? ⟨b, o, none⟩ = w.frozen? ⟨b, o, none⟩) :=
  ⟨fun b o hb hn => World.cell?_of_block (w := w) (w' := w') (a := ⟨b, o, none⟩) (h.blk b hb hn), fun b o hb hn => h.frozen hb hn⟩
theorem Fr.rules0 {w w' : World} (h : Fr No w w') : (∀ b o, b < w.heap.size → w'.cell? ⟨b, o, none⟩ = w.cell? ⟨b, o, none⟩) ∧ (∀ b o, b < w.heap.size → w'.frozen? ⟨b, o, none⟩ = w.frozen? ⟨b, o, none⟩) :=
  ⟨fun b o hb => h.rules.1 b o hb (fun h => h), fun b o hb => h.rules.2 b o hb (fun h => h)⟩

theorem heap_cell {w : World} {b o : Nat} {cs : Array Value} {t : TypeId} {fr : Nat × Nat} {v : Value} (h : w.heap[b]? = some (.cells cs t fr)) (hv : cs[o]? = some v) : w.cell? ⟨b, o, none⟩ = some v := by
  simp [World.cell?, h, hv]
theorem heap_frozen {w : World} {b o : Nat} {cs : Array Value} {t : TypeId} (h : w.heap[b]? = some (.cells cs t (0, 0))) : w.frozen? ⟨b, o, none⟩ = false := by
  simp [World.frozen?, h]
theorem heap_lt {w : World} {b : Nat} {o : Obj} (h : w.heap[b]? = some o) : b < w.heap.size := (Array.getElem?_eq_some_iff.1 h).1
theorem heap_set {w : World} {b : Nat} {v : Value} {t : TypeId} (u : Value) (h : w.heap[b]? = some (.cells #[v] t (0, 0))) : (w.setCell ⟨b, 0, none⟩ u).heap[b]? = some (.cells #[u] t (0, 0)) := by
  simp [World.setCell, Array.getElem?_modify, h]
theorem heap_set_other {w : World} {b b' off : Nat} {o : Obj} (u : Value) (h : w.heap[b]? = some o) (hne : b ≠ b') : (w.setCell ⟨b', off, none⟩ u).heap[b]? = some o := by
  rw [Below.heap_setCell _ _ _ _ hne]; exact h
theorem heap_alloc {w : World} {b : Nat} {o : Obj} (o' : Obj) (h : w.heap[b]? = some o) : (w.alloc o').heap[b]? = some o := by
  rw [Below.heap_alloc _ _ _ (heap_lt h)]; exact h
theorem heap_new (w : World) (o : Obj) : (w.alloc o).heap[w.heap.size]? = some o := World.alloc_heap_new w o

/-- 'Own' things abide whatever leaves the old blocks as they lay. -/
theorem Fr.ownsRow {S : Nat → Prop} {w w' : World} (h : Fr S w w') {base : Nat} {e : TypeId} {size : Nat} {v : Value} {n : Nat} {xs : List Value} (ho : w.ownsRow base e size v n xs)
    (hn : ∀ k, v.ownBlock = some k → ¬ S k) : w'.ownsRow base e size v n xs := by
  obtain ⟨h1, h2⟩ := ho
  refine ⟨h1, ?_⟩
  rcases h2 with h2 | ⟨g, cap, cur, rfl, hg, hh, r⟩
  · exact .inl h2
  · exact .inr ⟨g, cap, cur, rfl, hg, h.heap hh (hn g rfl), r⟩

/-- v is a slice of n elements whose cells read cs (nil, where there are none, or not). -/
def Sl (w : World) (v : Value) (n : Nat) (cs : List Value) : Prop :=
  ∃ a cap, v = .slice a n cap ∧ ((a = none → n = 0 ∧ cap = 0) ∧ n ≤ cap) ∧ (cs ≠ [] → ∃ b off, a = some ⟨b, off, none⟩) ∧ ∀ b off j u, a = some ⟨b, off, none⟩ → cs[j]? = some u → w.cell? ⟨b, off + j, none⟩ = some u

theorem Sl.of_owns {w : World} {base : Nat} {e : TypeId} {size : Nat} {v : Value} {n : Nat} {xs : List Value} (h : w.ownsRow base e size v n xs) : Sl w v n xs := by
  obtain ⟨h1, ⟨rfl, rfl⟩ | ⟨g, cap, cur, rfl, hg, hh, hn, hm, hc, ht⟩⟩ := h
  · simp at h1; subst h1
    exact ⟨none, 0, rfl, ⟨fun _ => ⟨rfl, rfl⟩, Nat.le_refl _⟩, fun h => absurd rfl h, fun b off j u h => by simp at h⟩
  · refine ⟨_, cap, rfl, ⟨by simp, hn⟩, fun _ => ⟨g, 0, rfl⟩, ?_⟩
    rintro b off j u ⟨rfl, rfl⟩ hj
    subst ht
    rw [List.getElem?_take] at hj
    split at hj
    · simp [World.cell?, hh, Nat.zero_add]; simpa using hj
    · simp at hj
/-- A slice that reads so, whose cells lie from a block on. -/
def Sn (base : Nat) (w : World) (v : Value) (n : Nat) (cs : List Value) : Prop := Sl w v n cs ∧ ∀ k, v.ownBlock = some k → cs ≠ [] → base ≤ k
theorem Sn.of_owns {w : World} {base : Nat} {e : TypeId} {size : Nat} {v : Value} {n : Nat} {xs : List Value} (h : w.ownsRow base e size v n xs) : Sn base w v n xs :=
  ⟨Sl.of_owns h, fun k e _ => by
    obtain ⟨h1, ⟨rfl, rfl⟩ | ⟨g, cap, cur, rfl, hg, -⟩⟩ := h
    · cases e
    · cases e; exact hg⟩
theorem Sn.nil (base : Nat) (w : World) : Sn base w (.slice none 0 0) 0 [] := ⟨⟨none, 0, rfl, ⟨fun _ => ⟨rfl, rfl⟩, Nat.le_refl _⟩, fun h => absurd rfl h, fun b off j u h => by simp at h⟩, fun k _ h => absurd rfl h⟩
theorem Sl.fr {S : Nat → Prop} {w w' : World} {v : Value} {n : Nat} {cs : List Value} (h : Sl w v n cs) (hf : Fr S w w') (hn : ∀ k, v.ownBlock = some k → cs ≠ [] → ¬ S k) : Sl w' v n cs := by
  obtain ⟨a, cap, rfl, h0, h1, h2⟩ := h
  refine ⟨a, cap, rfl, h0, h1, fun b off j u e hj => hf.cell (h2 b off j u e hj) (hn b ?_ ?_)⟩
  · subst e; rfl
  · rintro rfl; simp at hj
theorem Sl.fr0 {w w' : World} {v : Value} {n : Nat} {cs : List Value} (h : Sl w v n cs) (hf : Fr No w w') : Sl w' v n cs := h.fr hf (fun _ _ _ h => h)
theorem Sl.nil (w : World) : Sl w (.slice none 0 0) 0 [] := ⟨none, 0, rfl, ⟨fun _ => ⟨rfl, rfl⟩, Nat.le_refl _⟩, fun h => absurd rfl h, fun b off j u h => by simp at h⟩
theorem Sl.form {w : World} {v : Value} {n : Nat} {cs : List Value} (h : Sl w v n cs) : ∃ a cap, v = .slice a n cap := by obtain ⟨a, cap, rfl, _⟩ := h; exact ⟨a, cap, rfl⟩
theorem Sl.form0 {w : World} {v : Value} {n : Nat} {cs : List Value} (h : Sl w v n cs) : ∃ a cap, v = .slice a n cap ∧ (a = none → n = 0 ∧ cap = 0) ∧ n ≤ cap := by obtain ⟨a, cap, rfl, h0, _⟩ := h; exact ⟨a, cap, rfl, h0⟩
/-- Where there is a cell, the slice's address is a plain one, and the cells are there. -/
theorem Sl.at {w : World} {a : Option Addr} {cap n : Nat} {cs : List Value} (h : Sl w (.slice a n cap) n cs) (hne : cs ≠ []) : ∃ b off, a = some ⟨b, off, none⟩ ∧ b < w.heap.size ∧ ∀ j u, cs[j]? = some u → w.cell? ⟨b, off + j, none⟩ = some u := by
  obtain ⟨a', cap', e, _, h1, h2⟩ := h
  injection e with e1 _ e3
  subst e1
  obtain ⟨b, off, rfl⟩ := h1 hne
  have h3 : ∀ j u, cs[j]? = some u → w.cell? ⟨b, off + j, none⟩ = some u := fun j u hj => h2 b off j u rfl hj
  refine ⟨b, off, rfl, ?_, h3⟩
  cases cs with
  | nil => exact absurd rfl hne
  | cons c cs => exact cell_lt (h3 0 c rfl)

/-- A slice that has a cell lies in a block of the world's. -/
theorem Sl.lt {w : World} {v : Value} {n : Nat} {cs : List Value} (h : Sl w v n cs) {k : Nat} (e : v.ownBlock = some k) (hne : cs ≠ []) : k < w.heap.size := by
  obtain ⟨a, cap, rfl⟩ := h.form
  obtain ⟨b, off, rfl, hb, _⟩ := h.at hne
  cases e; exact hb

theorem Sl.le {w : World} {a : Option Addr} {n m cap : Nat} {cs : List Value} (h : Sl w (.slice a m cap) n cs) : n ≤ cap := by
  obtain ⟨a', cap', e, h0, _⟩ := h; injection e with _ e2 e3; subst e3; exact h0.2
/-- s[:k]. -/
theorem Sl.take {w : World} {a : Option Addr} {n cap : Nat} {cs : List Value} (h : Sl w (.slice a n cap) n cs) {k : Nat} (hk : k ≤ n) (size : Nat) : Sl w (.slice a k cap) k (cs.take (k * size)) := by
  obtain ⟨a', cap', e, h0, h1, h2⟩ := h
  injection e with e1 _ e3; subst e1; subst e3
  refine ⟨a, cap, rfl, ⟨fun e => ⟨by have := (h0.1 e).1; omega, (h0.1 e).2⟩, by omega⟩, fun hne => h1 (by rintro rfl; simp at hne), fun b off j u e hj => h2 b off j u e ?_⟩
  rw [List.getElem?_take] at hj
  split at hj
  · exact hj
  · cases hj
/-- s[k:]. -/
theorem Sl.drop {w : World} {a : Option Addr} {n cap : Nat} {cs : List Value} (h : Sl w (.slice a n cap) n cs) {k : Nat} (hk : k ≤ n) {size : Nat} (hcs : cs.length = n * size) :
    Sl w (.slice (if cap = k then a else a.map (·.add (k * size))) (n - k) (cap - k)) (n - k) (cs.drop (k * size)) := by
  obtain ⟨a', cap', e, h0, h1, h2⟩ := h
  injection e with e1 _ e3; subst e1; subst e3
  by_cases hc : cap = k
  · have hn : n = k := by omega
    subst hn
    rw [if_pos hc, List.drop_of_length_le (by omega)]
    exact ⟨a, _, rfl, ⟨fun e => by have := h0.1 e; omega, by omega⟩, fun h => absurd rfl h, fun b off j u _ h => by simp at h⟩
  · rw [if_neg hc]
    refine ⟨_, _, rfl, ⟨fun e => ?_, by omega⟩, fun hne => ?_, ?_⟩
    · cases a with
      | none => have := h0.1 rfl; omega
      | some _ => cases e
    · obtain ⟨b, off, rfl⟩ := h1 (by rintro rfl; simp at hne)
      by_cases hz : k * size = 0
      · exact ⟨b, off, by simp [Addr.add, hz]⟩
      · exact ⟨b, off + k * size, by simp [Addr.add, hz]⟩
    · intro b off j u e hj
      rw [List.getElem?_drop] at hj
      cases a with
      | none => cases e
      | some ad =>
        obtain ⟨b', off', e'⟩ := h1 (by rintro rfl; simp at hj)
        injection e' with e'
        subst e'
        have := h2 b' off' (k * size + j) u rfl hj
        simp only [Option.map_some, Option.some.injEq] at e
        by_cases hz : k * size = 0
        · simp only [Addr.add, hz, if_true] at e
          cases e
          rw [hz, Nat.zero_add] at this; exact this
        · simp only [Addr.add, hz, if_false] at e
          cases e
          rw [Nat.add_assoc]; exact this

end Go.Proofs.YtpcikbloflpahaaDoor
namespace Go.Proofs.YtpcikbloflpahaaDoor
set_option linter.unusedVariables false
set_option linter.unusedSimpArgs false
open Go.RowKit

/-- A fence that lets all in, at whatever depth. -/
structure Opens (F : Fence) : Prop where
  depth : F.depth = none
  fn : ∀ f, F.fn f
theorem wide_depth : Fence.wide.depth = none := rfl
theorem inRound_depth (l : Nat) : (Fence.wide.inRound l).depth = none := rfl
theorem wide_fn (f : FuncId) : Fence.wide.fn f = True := rfl
theorem inRound_fn (l : Nat) (f : FuncId) : (Fence.wide.inRound l).fn f = True := rfl
theorem opens_wide : Opens Fence.wide := ⟨rfl, fun _ => trivial⟩
theorem Opens.inRound {F : Fence} (h : Opens F) (l : Nat) : Opens (F.inRound l) := ⟨h.depth, h.fn⟩

/-- The world at a piece of code, under a name. -/
theorem wpIn_gen {F : Fence} {n : Nat} {P : Program} {c : Code} {Q : Exit → Act → World → Prop} {a : Act} {w : World} (h : ∀ W0, W0 = w → c.wpIn F n P Q a W0) : c.wpIn F n P Q a w := h w rfl

/-- THE ITERATOR's CONTRACT: it hands on the elements of ys, one by one, and stops when it is told to. Kp: what of the world it leans on. -/
def Iter {α : Type} (F : Fence) (P : Program) (g : Nat) (lb : Array Value) (encs : α → Array Value) (Kp : World → Prop) (ys : List α) : Prop :=
  ∀ (l : Nat) (J : List α → World → Prop) (E : World → Prop) (W : World), Kp W →
    (∀ pre W W', J pre W → W.grownBy W' none → J pre W') →
    (∀ pre x W1, pre ++ [x] <+: ys → J pre W1 → Kp W1 → YieldAt F 0 P l (encs x) W1 fun e W' =>
      (e = .returned (.bool true) ∧ J (pre ++ [x]) W' ∧ Kp W') ∨ (e = .returned (.bool false) ∧ E W')) →
    (∀ W', J ys W' → Kp W' → E W') → J [] W →
    CallsIn F 0 P g (#[.func (.yield l) #[] #[]] ++ lb) W fun e W' => (∃ v, e = .returned v) ∧ E W'

theorem Iter.inRound {α : Type} {F : Fence} {P : Program} {g : Nat} {lb : Array Value} {encs : α → Array Value} {Kp : World → Prop} {ys : List α} (l : Nat)
    (h : Iter F P g lb encs Kp ys) : Iter (F.inRound l) P g lb encs Kp ys := by
  intro l' J E W hK hJ hY hE h0
  exact (h l' J E W hK hJ (fun pre x W1 hp hj hk => hY pre x W1 hp hj hk) hE h0)

/-- How the body of a round may be left. B: the heap's size where the loop begins. -/
def bodyQ {α : Type} (B : Nat) (Kp : World → Prop) (I : List α → World → Prop) (Ix : Code → List α → World → Prop) (xs : List α) (W : World) : Exit → Act → World → Prop
  | .normal, _, W' => KeepsFrom B W W' ∧ Kp W' ∧ I xs W'
  | .ret, _, W' => KeepsFrom B W W' ∧ Ix .ret xs W'
  | .exit id, _, W' => KeepsFrom B W W' ∧ Ix (.exit id) xs W'
  | .goto t, _, W' => KeepsFrom B W W' ∧ Ix (.goto t) xs W'
  | .panic _, _, _ => False
  | .outgrown, _, _ => False

variable {F : Fence} {P : Program}

/-- THE STATEMENT, OUTSIDE OF ANY ROUND. -/
theorem range_outer {α : Type} {g : Operand} {ps : Array Tmp} {assign body : Code} {Q : Exit → Act → World → Prop} {a : Act} {w : World}
    (hF : Opens F) (hro : F.round = none) {gf : Nat} {lb : Array Value} (hg : a.eval g = .func (.func gf) #[] lb) (eg : ∀ args w, (callFunc gf args).run P w = .ok (.enter gf args) w)
    {encs : α → Array Value} {Kp : World → Prop} {ys : List α} (hseq : Iter F P gf lb encs Kp ys) (hps : ∀ x, (encs x).size = ps.size)
    (hKp : OwnFrom w.heap.size (fun (_ : Unit) W => Kp W)) (hK0 : Kp w)
    (I : List α → World → Prop) (Ix : Code → List α → World → Prop) (hI : OwnFrom w.heap.size I) (hIx : ∀ c, OwnFrom w.heap.size (Ix c)) (h0 : I [] w)
    (hround : ∀ (l : Nat) (pre : List α) (x : α) (W : World), w.heap.size ≤ l → (∃ r, W.heap[l]? = some (.loop r)) → pre ++ [x] <+: ys → I pre W → Kp W →
      assign.wpIn (F.inRound l) 0 P (Exit.then (fun a₁ W₁ => KeepsFrom w.heap.size W W₁ ∧ I pre W₁ ∧ Kp W₁ ∧ ∀ W₂, W₁.grownBy W₂ (some l) → (∃ r, W₂.heap[l]? = some (.loop r)) → I pre W₂ → Kp W₂ →
        body.wpIn (F.inRound l) 0 P (bodyQ w.heap.size Kp I Ix (pre ++ [x]) W₂) a₁ W₂) (fun _ _ _ => False))
        { tmps := (ps.zip (encs x)).foldl (fun t (p, v) => t.setIfInBounds p v) a.tmps, defers := [] } W)
    (hdone : ∀ (D : Nat) (W : World), w.heap.size ≤ D → I ys W ∧ Kp W → W.heap[D]? = some (.deferred (some [])) → Q .normal { a with defers := { target := .collected D, args := #[] } :: a.defers } W)
    (hstop : ∀ (D : Nat) (c : Code) (pre : List α) (W : World), w.heap.size ≤ D → pre <+: ys → Ix c pre W → W.heap[D]? = some (.deferred (some [])) → c.wpIn F 0 P Q { a with defers := { target := .collected D, args := #[] } :: a.defers } W) :
    (Code.rangeFunc g ps assign body).wpIn F 0 P Q a w := by
  have hdep : F.depth.isSome = true → 1 ≤ 0 := fun h => by rw [hF.depth] at h; simp at h
  refine wpIn_rangeFunc ?_
  intro fn hfn
  rw [hro]
  obtain ⟨rec, hrec⟩ : ∃ rec : LoopState → Option Code → Loop, rec = fun st pe => { state := st, pending := pe, fn, tmps := a.tmps, params := ps, assign, body, defers := w.heap.size } := ⟨_, rfl⟩
  obtain ⟨W1, hW1⟩ : ∃ W1, (w.alloc (.deferred (some []))).alloc (.loop (rec .ready none)) = W1 := ⟨_, rfl⟩
  have hL1 : W1.heap[w.heap.size + 1]? = some (.loop (rec .ready none)) := by
    rw [← hW1]; have := World.alloc_heap_new (w.alloc (.deferred (some []))) (.loop (rec .ready none)); rwa [World.size_alloc] at this
  have hD1 : W1.heap[w.heap.size]? = some (.deferred (some [])) := by
    rw [← hW1]; exact (Below.heap_alloc _ _ _ (by simp)).trans (World.alloc_heap_new w _)
  have hI1 : I [] W1 := by rw [← hW1]; exact hI.alloc _ (hI.alloc _ h0)
  have hK1 : Kp W1 := by rw [← hW1]; exact hKp.alloc (s := ()) _ (hKp.alloc (s := ()) _ hK0)
  refine ⟨w.heap.size + 1, [{ target := .collected w.heap.size, args := #[] }], W1, { target := .fn (.func gf) lb, args := #[.func (.yield (w.heap.size + 1)) #[] #[]] }, W1, gf,
    #[.func (.yield (w.heap.size + 1)) #[] #[]] ++ lb, W1, ?_, ?_, ?_, ?_, hdep, ?_⟩
  · rw [← hW1, hrec]; exact run_enterLoop_outer _ _ _ _ _
  · simp only [resolve, hg]
    simp [go_sem]
  · intro f' hf'; exact hF.fn f'
  · simp [invoke, go_sem, eg]
  · have key := hseq (w.heap.size + 1)
      (fun pre W => I pre W ∧ W.heap[w.heap.size + 1]? = some (.loop (rec .ready none)) ∧ W.heap[w.heap.size]? = some (.deferred (some [])))
      (fun W => (I ys W ∧ Kp W ∧ W.heap[w.heap.size + 1]? = some (.loop (rec .ready none)) ∧ W.heap[w.heap.size]? = some (.deferred (some []))) ∨
        ∃ pre c, pre <+: ys ∧ Ix c pre W ∧ W.heap[w.heap.size + 1]? = some (.loop (rec .done (some c))) ∧ W.heap[w.heap.size]? = some (.deferred (some [])))
      W1 hK1
      (fun s A B hs hg' => ⟨hI s A B none hs.1 hg' (fun r e => by cases e),
        (hg'.block _ (Array.getElem?_eq_some_iff.1 hs.2.1).1 (by simp)).trans hs.2.1, (hg'.block _ (Array.getElem?_eq_some_iff.1 hs.2.2).1 (by simp)).trans hs.2.2⟩)
      ?_ (fun W' h hk => .inl ⟨h.1, hk, h.2⟩) ⟨hI1, hL1, hD1⟩
    · refine key.mono ?_
      rintro e W2 ⟨⟨v, rfl⟩, (⟨hi, hkp, hl, hk⟩ | ⟨pre, c, hpre, hi, hl, hk⟩)⟩
      · exact ⟨none, _, by have := run_endLoop (P := P) hl (by rw [hrec]; simp); rw [hrec] at this; exact this, hdone _ _ (Nat.le_refl _) ⟨hI.putObj _ hi (by omega) hl rfl, hKp.putObj (s := ()) _ hkp (by omega) hl rfl⟩ ((World.putObj_heap_other (by omega)).trans hk)⟩
      · exact ⟨some c, _, by have := run_endLoop (P := P) hl (by rw [hrec]; simp); rw [hrec] at this; exact this, hstop _ c pre _ (Nat.le_refl _) hpre ((hIx c).putObj _ hi (by omega) hl rfl) ((World.putObj_heap_other (by omega)).trans hk)⟩
    · -- one round
      rintro pre x W hpx ⟨hi, hl, hk⟩ hkp
      have hy := run_yield (P := P) (args := encs x) hl (by rw [hrec]; exact hps x)
      rw [hrec] at hy
      refine ⟨fn, _, assign, body, hy, roundIn_of_wpIn hfn (wpIn_mono (hround _ pre x W (by omega) ⟨_, hl⟩ hpx hi hkp) ?_)⟩
      clear hy
      rintro e a' Wa hq
      cases e with
      | normal =>
        obtain ⟨hkfa, hia, hkpa, hbody⟩ := hq
        replace hl := hkfa.same _ _ (by omega) hl rfl
        replace hk := hkfa.same _ _ (Nat.le_refl _) hk rfl
        have hlt : w.heap.size + 1 < Wa.heap.size := (Array.getElem?_eq_some_iff.1 hl).1
        refine ⟨_, run_beginRound hl (by rw [hrec]), ?_⟩
        have hl2 : (Wa.putObj (w.heap.size + 1) (.loop { rec .ready none with state := .busy })).heap[w.heap.size + 1]? = some (.loop { rec .ready none with state := .busy }) := World.putObj_heap_same hlt
        have hk2 : (Wa.putObj (w.heap.size + 1) (.loop { rec .ready none with state := .busy })).heap[w.heap.size]? = some (.deferred (some [])) := (World.putObj_heap_other (by omega)).trans hk
        refine wpIn_mono (hbody _ (grownBy_putObj' _ _ _) ⟨_, hl2⟩ (hI.putObj _ hia (by omega) hl rfl) (hKp.putObj (s := ()) _ hkpa (by omega) hl rfl)) ?_
        have fin : ∀ (jump : Option Code) (W3 : World), KeepsFrom w.heap.size (Wa.putObj (w.heap.size + 1) (.loop { rec .ready none with state := .busy })) W3 →
            (Instr.endRound (w.heap.size + 1) jump).run P W3 = .ok (.bool jump.isNone) (W3.putObj (w.heap.size + 1) (.loop (rec (if jump.isNone then .ready else .done) jump))) ∧
            W3.heap[w.heap.size + 1]? = some (.loop { rec .ready none with state := .busy }) ∧
            (W3.putObj (w.heap.size + 1) (.loop (rec (if jump.isNone then .ready else .done) jump))).heap[w.heap.size + 1]? = some (.loop (rec (if jump.isNone then .ready else .done) jump)) ∧
            (W3.putObj (w.heap.size + 1) (.loop (rec (if jump.isNone then .ready else .done) jump))).heap[w.heap.size]? = some (.deferred (some [])) := fun jump W3 hk3 => by
          have hl3 := hk3.same _ _ (by omega) hl2 rfl
          have := run_endRound (P := P) jump hl3
          rw [hrec] at this ⊢
          exact ⟨this, by rw [hrec] at hl3; exact hl3, World.putObj_heap_same (Array.getElem?_eq_some_iff.1 hl3).1, (World.putObj_heap_other (by omega)).trans (hk3.same _ _ (Nat.le_refl _) hk2 rfl)⟩
        rintro e a3 W3 hp
        cases e with
        | normal =>
          obtain ⟨hk3, hkp3, hi3⟩ := hp
          obtain ⟨hr, hl3, hl4, hk4⟩ := fin none W3 hk3
          exact ⟨_, _, hr, .inl ⟨rfl, ⟨hI.putObj _ hi3 (by omega) hl3 rfl, hl4, hk4⟩, hKp.putObj (s := ()) _ hkp3 (by omega) hl3 rfl⟩⟩
        | ret =>
          obtain ⟨hk3, hi3⟩ := hp
          obtain ⟨hr, hl3, hl4, hk4⟩ := fin (some .ret) W3 hk3
          exact ⟨_, _, hr, .inr ⟨rfl, .inr ⟨_, .ret, hpx, (hIx _).putObj _ hi3 (by omega) hl3 rfl, hl4, hk4⟩⟩⟩
        | exit id =>
          obtain ⟨hk3, hi3⟩ := hp
          obtain ⟨hr, hl3, hl4, hk4⟩ := fin (some (.exit id)) W3 hk3
          exact ⟨_, _, hr, .inr ⟨rfl, .inr ⟨_, .exit id, hpx, (hIx _).putObj _ hi3 (by omega) hl3 rfl, hl4, hk4⟩⟩⟩
        | goto t =>
          obtain ⟨hk3, hi3⟩ := hp
          obtain ⟨hr, hl3, hl4, hk4⟩ := fin (some (.goto t)) W3 hk3
          exact ⟨_, _, hr, .inr ⟨rfl, .inr ⟨_, .goto t, hpx, (hIx _).putObj _ hi3 (by omega) hl3 rfl, hl4, hk4⟩⟩⟩
        | panic ch => exact hp.elim
        | outgrown => exact hp.elim
      | ret => exact hq.elim
      | exit id => exact hq.elim
      | goto t => exact hq.elim
      | panic ch => exact hq.elim
      | outgrown => exact hq.elim

theorem ownFrom_fr {β : Type} {T : Nat → Prop} {W0 : World} {B : Nat} (hB : W0.heap.size ≤ B) : OwnFrom B (fun (_ : β) W => Fr T W0 W) :=
  fun _ _ _ _ hs hg hr => hs.grown hg (fun k e hk => by have := (hr k e).1; omega)

theorem ownFrom_and {β : Type} {B : Nat} {I I' : β → World → Prop} (h : OwnFrom B I) (h' : OwnFrom B I') : OwnFrom B (fun s W => I s W ∧ I' s W) := h.and h'

theorem ownFrom_heap {β : Type} {B b : Nat} {cs : Array Value} {t : TypeId} {fr : Nat × Nat} : OwnFrom B (fun (_ : β) W => W.heap[b]? = some (.cells cs t fr)) :=
  fun _ W W' row hs hg hr => (hg.block b (Array.getElem?_eq_some_iff.1 hs).1 (fun e => by obtain ⟨_, o, ho, hc⟩ := hr b e.symm; rw [hs] at ho; cases ho; cases hc)).trans hs
theorem ownsRow_from {B base : Nat} {e : TypeId} {size : Nat} {v : Value} {n : Nat} {xs : List Value} {W W' : World} {row : Option Nat} (h : W.ownsRow base e size v n xs) (hg : W.grownBy W' row)
    (hr : ∀ r, row = some r → B ≤ r ∧ ∃ o : Obj, W.heap[r]? = some o ∧ o.isCells = false) : W'.ownsRow base e size v n xs := by
  obtain ⟨h1, h2⟩ := h
  refine ⟨h1, ?_⟩
  rcases h2 with h2 | ⟨g, cap, cur, rfl, hgb, hh, r⟩
  · exact .inl h2
  · exact .inr ⟨g, cap, cur, rfl, hgb, ownFrom_heap (β := Unit) (B := B) () W W' row hh hg hr, r⟩
/-- Behind a loop at the function's return: the block for the rounds' deferred calls is taken; all else lies as it lay. -/
theorem heap_putObj_cells {W : World} {D b : Nat} {o : Obj} (o' : Obj) (hd : W.heap[D]? = some (.deferred (some []))) (h : W.heap[b]? = some o) (hc : o.isCells = true) : (W.putObj D o').heap[b]? = some o :=
  (World.putObj_heap_other (fun e => by subst e; rw [h] at hd; cases hd; cases hc)).trans h
theorem Fr.putObj {S : Nat → Prop} {w W : World} (h : Fr S w W) {D : Nat} (hD : w.heap.size ≤ D) (o' : Obj) : Fr S w (W.putObj D o') :=
  h.grown (grownBy_putObj' _ _ _) (fun k e hk => by cases e; omega)

/-- Conditions that speak of blocks below B alone (all others may turn). -/
theorem ownFrom_of_heap {β : Type} {B : Nat} {I : β → World → Prop}
    (h : ∀ s W W', I s W → W.os = W'.os → W.tape = W'.tape → W.output = W'.output → W.heap.size ≤ W'.heap.size → (∀ k, k < B → k < W.heap.size → W'.heap[k]? = W.heap[k]?) → (∀ (k : Nat) (o : Obj), W.heap[k]? = some o → o.isCells = true → W'.heap[k]? = some o) → I s W') : OwnFrom B I :=
  fun s W W' row hs hg hr => h s W W' hs hg.os.symm hg.tape.symm hg.output.symm hg.size
    (fun k hk hlt => hg.block k hlt (fun e => by have := (hr k e.symm).1; omega))
    (fun k o hk ho => (hg.block k (Array.getElem?_eq_some_iff.1 hk).1 (fun e => by obtain ⟨_, o', ho', hc⟩ := hr k e.symm; rw [hk] at ho'; cases ho'; rw [ho] at hc; cases hc)).trans hk)

end Go.Proofs.YtpcikbloflpahaaDoor
namespace Go.Proofs.YtpcikbloflpahaaDoor
set_option linter.unusedVariables false
set_option linter.unusedSimpArgs false
open Go.RowKit

/-- t is the type of slices of e; e's zero, its size in cells and in bytes. -/
structure Elem (P : Program) (t e : TypeId) (z : Value) (size bytes : Nat) : Prop where
  und : P.underlying t = some (.slice e)
  info : (P.info? e).map (fun i => (i.zero, i.size, i.bytes)) = some (some z, size, bytes)
  zs : z.cells.size = size
  pos : 0 < size

theorem append_in {F : Fence} {n : Nat} {P : Program} {w : World} {ops : Array Oper} {rest : List Oper} {o : Oper} {a : Act} {Q : Exit → Act → World → Prop}
    {t e : TypeId} {z : Value} {size bytes : Nat} (hE : Elem P t e z size bytes)
    (hg : o.guard = none) (s x : Operand) (hop : o.op = Op.call { callee := Callee.builtin Builtin.append, args := #[s, x], argTypes := #[t, t] })
    (base : Nat) (v : Value) (k : Nat) (xs : List Value) (hs : a.eval s = v) (hown : w.ownsRow base e size v k xs) (ad : Addr) (m c : Nat) (news : List Value) (hx : a.eval x = .slice (some ad) m c) (hn : news.length = m * size)
    (hc : ∀ j u, news[j]? = some u → w.cell? (ad.add j) = some u) (h1c : ∀ u ∈ news, u.oneCell' = true) (b1 : k + m ≤ maxLen) (b2 : (k + m) * bytes ≤ 140737488355328) (b3 : base ≤ w.heap.size)
    (hK : ∀ v' w', w'.ownsRow base e size v' (k + m) (xs ++ news) → w.grownBy w' v.ownBlock → (v' = .slice none 0 0 ↔ v = .slice none 0 0 ∧ m = 0) → wpListIn F n P ops Q rest (a.put o.dst v') w') :
    wpListIn F n P ops Q (o :: rest) a w := by
  obtain ⟨i0, hi, hz0, hz1, hz2⟩ := info_parts hE.info
  exact wpListIn_append_own w hg s x t hop base e i0 z size bytes hE.und hi hz0 hz1 hz2 hE.zs hE.pos v k xs hs hown ad m c news hx hn hc h1c b1 b2 b3 hK

theorem append_out {P : Program} {w : World} {ops : Array Oper} {rest : List Oper} {o : Oper} {a : Act} {Q : Exit → Act → World → Prop}
    {t e : TypeId} {z : Value} {size bytes : Nat} (hE : Elem P t e z size bytes)
    (hg : o.guard = none) (s x : Operand) (hop : o.op = Op.call { callee := Callee.builtin Builtin.append, args := #[s, x], argTypes := #[t, t] })
    (base : Nat) (v : Value) (k : Nat) (xs : List Value) (hs : a.eval s = v) (hown : w.ownsRow base e size v k xs) (ad : Addr) (m c : Nat) (news : List Value) (hx : a.eval x = .slice (some ad) m c) (hn : news.length = m * size)
    (hc : ∀ j u, news[j]? = some u → w.cell? (ad.add j) = some u) (h1c : ∀ u ∈ news, u.oneCell' = true) (b1 : k + m ≤ maxLen) (b2 : (k + m) * bytes ≤ 140737488355328) (b3 : base ≤ w.heap.size)
    (hK : ∀ v' w', w'.ownsRow base e size v' (k + m) (xs ++ news) → w.grownBy w' v.ownBlock → (v' = .slice none 0 0 ↔ v = .slice none 0 0 ∧ m = 0) → wpList P ops Q rest (a.put o.dst v') w') :
    wpList P ops Q (o :: rest) a w := by
  obtain ⟨i0, hi, hz0, hz1, hz2⟩ := info_parts hE.info
  exact wpList_append_own w hg s x t hop base e i0 z size bytes hE.und hi hz0 hz1 hz2 hE.zs hE.pos v k xs hs hown ad m c news hx hn hc h1c b1 b2 b3 hK

/-- 'append(s, x...)' where x reads as cs, nil or not. -/
theorem append_sl {P : Program} {w : World} {ops : Array Oper} {rest : List Oper} {o : Oper} {a : Act} {Q : Exit → Act → World → Prop}
    {t e : TypeId} {z : Value} {size bytes : Nat} (hE : Elem P t e z size bytes)
    (hg : o.guard = none) (s x : Operand) (hop : o.op = Op.call { callee := Callee.builtin Builtin.append, args := #[s, x], argTypes := #[t, t] })
    (base : Nat) (v : Value) (k : Nat) (xs : List Value) (hs : a.eval s = v) (hown : w.ownsRow base e size v k xs) {y : Value} {m : Nat} {cs : List Value} (hx : a.eval x = y) (hsl : Sl w y m cs) (hn : cs.length = m * size)
    (h1c : ∀ u ∈ cs, u.oneCell' = true) (b1 : k + m ≤ maxLen) (b2 : (k + m) * bytes ≤ 140737488355328) (b3 : base ≤ w.heap.size)
    (hK : ∀ v' w', w'.ownsRow base e size v' (k + m) (xs ++ cs) → w.grownBy w' v.ownBlock → wpList P ops Q rest (a.put o.dst v') w') :
    wpList P ops Q (o :: rest) a w := by
  obtain ⟨ad, cap, rfl, h0, h1, h2⟩ := hsl
  cases ad with
  | none =>
    obtain ⟨rfl, rfl⟩ := h0.1 rfl
    simp at hn
    subst hn
    obtain ⟨i0, hi, hz0, hz1, hz2⟩ := info_parts hE.info
    refine wpList_append_own_none hg s x t hop base e i0 size hE.und hi v k xs hs hown hx ?_
    exact hK v w (by simpa using hown) ⟨rfl, rfl, rfl, Nat.le_refl _, fun _ _ _ => rfl⟩
  | some ad =>
    refine append_out hE hg s x hop base v k xs hs hown ad m cap cs hx hn ?_ h1c b1 b2 b3 (fun v' w' r1 r2 _ => hK v' w' r1 r2)
    intro j u hj
    obtain ⟨b, off, e⟩ := h1 (by rintro rfl; simp at hj)
    injection e with e
    subst e
    have := h2 b off j u rfl hj
    by_cases hj0 : j = 0
    · subst hj0; simpa [Addr.add] using this
    · simpa [Addr.add, hj0] using this

theorem ownsRow_base {w : World} {base base' : Nat} {e : TypeId} {size : Nat} {v : Value} {n : Nat} {xs : List Value} (h : w.ownsRow base e size v n xs) (hb : base' ≤ base) : w.ownsRow base' e size v n xs := by
  obtain ⟨h1, h2 | ⟨g, cap, cur, e1, hg, r⟩⟩ := h
  · exact ⟨h1, .inl h2⟩
  · exact ⟨h1, .inr ⟨g, cap, cur, e1, Nat.le_trans hb hg, r⟩⟩

/-- A box of another type is no block of an owned row. -/
theorem not_row {w : World} {b : Nat} {cs : Array Value} {t e : TypeId} {fr : Nat × Nat} (h : w.heap[b]? = some (.cells cs t fr)) (hte : t ≠ e) {base size n : Nat} {v : Value} {xs : List Value} (hr : w.ownsRow base e size v n xs) : some b ≠ v.ownBlock := by
  obtain ⟨_, ⟨rfl, _⟩ | ⟨g, cap, cur, rfl, _, hh, _⟩⟩ := hr
  · simp [Value.ownBlock]
  · intro e; simp [Value.ownBlock] at e; subst e; rw [h] at hh; cases hh; exact hte rfl

/-- 'x = append(x, v)' where x lies in a box: behind the append, and behind the store into the box. -/
theorem app_box {W w3 : World} {b n0 e size t k m B : Nat} {r v' : Value} {xs ys : List Value} {tmp : Obj} (hb : W.heap[b]? = some (.cells #[r] t (0, 0))) (hte : t ≠ e) (hrow : W.ownsRow n0 e size r k xs)
    (hgrow : (W.alloc tmp).grownBy w3 r.ownBlock) (hown' : w3.ownsRow n0 e size v' m ys) :
    w3.cell? ⟨b, 0, none⟩ = some r ∧ w3.frozen? ⟨b, 0, none⟩ = false ∧ (w3.setCell ⟨b, 0, none⟩ v').heap[b]? = some (.cells #[v'] t (0, 0)) ∧ (w3.setCell ⟨b, 0, none⟩ v').ownsRow n0 e size v' m ys ∧
    KeepsFrom B W (w3.setCell ⟨b, 0, none⟩ v') ∧ ∀ (S : Nat → Prop) (w0 : World), Fr S w0 W → w0.heap.size ≤ n0 → S b → Fr S w0 (w3.setCell ⟨b, 0, none⟩ v') := by
  have h3 : w3.heap[b]? = some (.cells #[r] t (0, 0)) := (hgrow.block b (heap_lt (heap_alloc tmp hb)) (not_row hb hte hrow)).trans (heap_alloc tmp hb)
  refine ⟨heap_cell (o := 0) h3 rfl, heap_frozen h3, heap_set _ h3, ?_, ?_, ?_⟩
  · exact hown'.kept (grownBy_setCell' w3 b v') (.inr (not_row h3 hte hown').symm)
  · refine (((KeepsOthers.alloc W tmp).trans (KeepsOthers.of_grownBy hgrow fun j o ej hj => ?_)).trans (KeepsOthers.setCell _ _ _)).from _
    obtain ⟨_, ⟨rfl, _⟩ | ⟨g, cap, cur, rfl, _, hh, _⟩⟩ := hrow
    · simp [Value.ownBlock] at ej
    · obtain rfl : g = j := by simpa [Value.ownBlock] using ej
      rw [heap_alloc tmp hh] at hj; cases hj; rfl
  · intro S w0 hF hn hS
    refine ((hF.alloc tmp).grown hgrow (fun j ej hj => ?_)).setCell (fun _ => hS) _
    obtain ⟨_, ⟨rfl, _⟩ | ⟨g, cap, cur, rfl, hg, _, _⟩⟩ := hrow
    · simp [Value.ownBlock] at ej
    · obtain rfl : g = j := by simpa [Value.ownBlock] using ej
      omega

theorem grownBy_alloc {w w3 : World} {o : Obj} {row : Option Nat} (h : (w.alloc o).grownBy w3 row) : w.grownBy w3 row :=
  ⟨h.os, h.tape, h.output, by have := h.size; simp at this; omega, fun k hk hr => (h.block k (by simp; omega) hr).trans (Below.heap_alloc _ _ _ hk)⟩
theorem grownBy_drewN_alloc {w w3 : World} {n : Nat} {o : Obj} {row : Option Nat} (h : ((w.drewN n).alloc o).grownBy w3 row) : w.grownBy w3 row := by
  have := grownBy_alloc h; exact ⟨this.os, this.tape, this.output, this.size, this.block⟩

end Go.Proofs.YtpcikbloflpahaaDoor
namespace Go.Proofs.YtpcikbloflpahaaDoor
set_option linter.unusedVariables false
set_option linter.unusedSimpArgs false
open Go.RowKit

theorem run_append_sl {P : Program} {w : World} (t ty base : Nat) {e : TypeId} {z : Value} {size bytes : Nat} (hE : Elem P t e z size bytes) (v : Value) (k : Nat) (xs : List Value) (hown : w.ownsRow base e size v k xs)
    {y : Value} {m : Nat} {cs : List Value} (hsl : Sl w y m cs) (hn : cs.length = m * size) (h1c : ∀ u ∈ cs, u.oneCell' = true) (b1 : k + m ≤ maxLen) (b2 : (k + m) * bytes ≤ 140737488355328) (b3 : base ≤ w.heap.size) :
    ∃ v' w', (Builtin.append_ #[t, t] ty #[v, y]).run P w = .ok v' w' ∧ w'.ownsRow base e size v' (k + m) (xs ++ cs) ∧ w.grownBy w' v.ownBlock ∧ (v'.ownBlock = v.ownBlock ∨ v'.ownBlock = some w.heap.size) := by
  obtain ⟨i0, hi, hz0, hz1, hz2⟩ := info_parts hE.info
  obtain ⟨ad, cap, rfl, h0, h1, h2⟩ := hsl
  cases ad with
  | none =>
    obtain ⟨rfl, rfl⟩ := h0.1 rfl
    simp at hn
    subst hn
    exact ⟨v, w, run_append_owned_none (P := P) w base t ty e i0 size hE.und hi v k xs hown, by simpa using hown, ⟨rfl, rfl, rfl, Nat.le_refl _, fun _ _ _ => rfl⟩, .inl rfl⟩
  | some ad =>
    obtain ⟨v', w', hr, q2, q3, _, q5⟩ := run_append_own_at (P := P) w base t ty e i0 z size bytes hE.und hi hz0 hz1 hz2 hE.zs hE.pos v k xs hown ad m cap cs hn (by
      intro j u hj
      obtain ⟨b, off, e⟩ := h1 (by rintro rfl; simp at hj)
      injection e with e
      subst e
      have := h2 b off j u rfl hj
      by_cases hj0 : j = 0
      · subst hj0; simpa [Addr.add] using this
      · simpa [Addr.add, hj0] using this) h1c b1 b2 b3
    exact ⟨v', w', hr, q2, q3, q5⟩

theorem step_append_sl {P : Program} {w : World} {ops : Array Oper} {o : Oper} {a : Act} {K : Act → World → Prop} {Q : Exit → Act → World → Prop} {E : Prop} {t e : TypeId} {z : Value} {size bytes : Nat} (hE : Elem P t e z size bytes)
    (hgd : o.guard = none) (s x : Operand) (ho : o.op = .call { callee := .builtin .append, args := #[s, x], argTypes := #[t, t] })
    (base : Nat) (v : Value) (k : Nat) (xs : List Value) (hs : a.eval s = v) (hown : w.ownsRow base e size v k xs) {y : Value} {m : Nat} {cs : List Value} (hx : a.eval x = y) (hsl : Sl w y m cs) (hn : cs.length = m * size)
    (h1c : ∀ u ∈ cs, u.oneCell' = true) (b1 : k + m ≤ maxLen) (b2 : (k + m) * bytes ≤ 140737488355328) (b3 : base ≤ w.heap.size)
    (h : ∀ a' n' c' w', w'.ownsRow base e size (.slice a' n' c') (k + m) (xs ++ cs) → w.grownBy w' v.ownBlock → ((Value.slice a' n' c').ownBlock = v.ownBlock ∨ (Value.slice a' n' c').ownBlock = some w.heap.size) → K (a.put o.dst (.slice a' n' c')) w') :
    if Region.wanted o (yielded ops a.tmps) = true then Oper.wp P o a w K Q else E := by
  have hw : Region.wanted o (yielded ops a.tmps) = true := by simp [Region.wanted, hgd]
  rw [if_pos hw]
  obtain ⟨v', w', hr, h2, h3, h4⟩ := run_append_sl (P := P) t o.type base hE v k xs hown hsl hn h1c b1 b2 b3
  unfold Oper.wp execOp
  simp only [ho, resolve, invoke, builtin, Sem.run_bind, Sem.run_pure, Result.andThen_ok, List.map_toArray, List.map_cons, List.map_nil, hs, hx, hr]
  obtain ⟨a', c', e'⟩ := (Sl.of_owns h2).form
  subst e'
  exact h _ _ _ w' h2 h3 h4
end Go.Proofs.YtpcikbloflpahaaDoor
namespace Go.Proofs.YtpcikbloflpahaaDoor
set_option linter.unusedVariables false
set_option linter.unusedSimpArgs false
open Go.RowKit Go.Shelf

/-- Bytes, as cells. -/
def bys (l : List Int) : List Value := l.map fun x => .int .u8 x
theorem bys_get (l : List Int) (k : Nat) (h : k < l.length) : (bys l)[k]? = some (.int .u8 l[k]) := by simp [bys, h]
theorem bys_ne (l : List Int) (k : Nat) (h : k < l.length) : bys l ≠ [] := by intro e; have := bys_get l k h; rw [e] at this; simp at this
theorem bys_len (l : List Int) : (bys l).length = l.length := by simp [bys]
/-- The number of k bytes from 'at' on, the lowest first. -/
def numL (l : List Int) (at_ : Nat) : Nat → Int
  | 0 => 0
  | k + 1 => bits .or .u64 (numL l at_ k) (IntKind.u64.wrap (l.getD (at_ + k) 0 * 2 ^ (8 * k)))

set_option maxRecDepth 100000 in
theorem rnum_calls (v : Value) (l : List Int) (at_ K : Nat) (w : World) (hK : K ≤ 8) (hl : at_ + K ≤ l.length) (hlen : l.length ≤ 1000000) (h0 : ∀ b ∈ l, 0 ≤ b ∧ b < 256) (hv : Sl w v l.length (bys l)) :
    Calls Tryd.prog 76 #[v, .int .i64 at_, .int .i64 K] w fun e w' => e = .returned (.int .u64 (numL l at_ K)) ∧ w = w' := by
  obtain ⟨a, cap, rfl⟩ := hv.form
  go_enter Tryd.func76, Tryd.ntmps76
  go_wp2
  go_loop [7, 8] (fun s i => ∃ k : Nat, k ≤ K ∧ i = .int .i64 k ∧ s = .int .u64 (numL l at_ k)) (fun _ i => K - (intOf i).toNat)
  case atStart => exact ⟨0, Nat.zero_le _, rfl, rfl⟩
  case round =>
    obtain ⟨k, hk, rfl, rfl⟩ := hrel
    by_cases hlt : k < K
    · have hin : at_ + k < l.length := by omega
      obtain ⟨b, off, rfl, hb, hc⟩ := hv.at (bys_ne _ _ hin)
      have hc1 := hc _ _ (bys_get _ _ hin)
      have hx := h0 _ (List.getElem_mem hin)
      have hs : numL l at_ (k + 1) = bits .or .u64 (numL l at_ k) (IntKind.u64.wrap (l[at_ + k] * 2 ^ (8 * k))) := by rw [numL]; simp [List.getD, hin]
      revert hc1 hx hs
      generalize l[at_ + k] = x
      intro hc1 hx hs
      have HS := Lib.hid hs
      obtain ⟨hx0, hx1⟩ := hx
      clear hs h0 hc hv
      go_wp2
      go_round
      case rel => exact ⟨k + 1, by omega, by go_num, by rw [HS.out]⟩
      case measure => simp [intOf]; omega
    · go_wp2
      go_ret
      exact ⟨by rw [show k = K by omega]; rfl, rfl⟩
end Go.Proofs.YtpcikbloflpahaaDoor
namespace Go.Proofs.YtpcikbloflpahaaDoor
set_option linter.unusedVariables false
set_option linter.unusedSimpArgs false
open Go.RowKit Go.Shelf

theorem el_u8 : Elem Tryd.prog 30 5 (.int .u8 0) 1 1 := ⟨by kernel_rfl, by kernel_rfl, rfl, by decide⟩
/-- A number's lowest k bytes laid down from 'at' on. -/
def putL (l : List Int) (at_ : Nat) (n : Int) : Nat → List Int
  | 0 => l
  | k + 1 => (putL l at_ n k).set (at_ + k) (IntKind.u8.wrap (n / 2 ^ (8 * k)))
theorem putL_length (l : List Int) (at_ : Nat) (n : Int) (k : Nat) : (putL l at_ n k).length = l.length := by
  induction k with
  | zero => rfl
  | succ k ih => rw [putL, List.length_set, ih]
theorem bys_set (l : List Int) (j : Nat) (x : Int) : (bys l).set j (.int .u8 x) = bys (l.set j x) := by simp [bys, List.map_set]
theorem bys_one (l : List Int) : ∀ u ∈ bys l, u.oneCell' = true := by
  intro u hu; simp only [bys, List.mem_map] at hu; obtain ⟨x, _, rfl⟩ := hu; rfl

end Go.Proofs.YtpcikbloflpahaaDoor
namespace Go.Proofs.YtpcikbloflpahaaDoor
set_option linter.unusedVariables false
set_option linter.unusedSimpArgs false
open Go.RowKit Go.Shelf

set_option maxRecDepth 100000 in
theorem each_calls (fid : Nat) (c0 c1 : Value) (I : Nat → World → Prop) (len : Nat) (at_ K : Nat) (w : World) (hK : K ≤ 8) (hl : at_ + K ≤ len) (hlen : len ≤ 1000000) (a : Option Addr) (cap : Nat) (h0 : I 0 w) (hfid : ∀ args w, (callFunc fid args).run Tryd.prog w = .ok (.enter fid args) w)
    (hs : ∀ k w, k < K → I k w → Calls Tryd.prog fid #[.int .i64 ((at_ + k : Nat) : Int), .int .i64 k, c0, c1] w fun e w' => e = .returned (.tuple #[]) ∧ I (k + 1) w') :
    Calls Tryd.prog 91 #[.slice a len cap, .int .i64 at_, .int .i64 K, .func (.func fid) #[] #[c0, c1]] w fun e w' => e = .returned (.tuple #[]) ∧ I K w' := by
  have HS := Lib.hid hs
  clear hs
  go_enter Tryd.func91, Tryd.ntmps91
  go_wp2
  go_loopw [13] (fun i wr => ∃ k : Nat, k ≤ K ∧ i = .int .i64 k ∧ I k wr) (fun i _ => K - (intOf i).toNat)
  case atStart => exact ⟨0, Nat.zero_le _, rfl, h0⟩
  case round =>
    obtain ⟨k, hk, rfl, hI⟩ := hrel
    by_cases hlt : k < K
    · have HC := Lib.hid (HS.out k _ hlt hI)
      have hw1 : ((at_ + k : Nat) : Int) = (at_ : Int) + k := by omega
      rw [hw1] at HC
      clear hI h0
      go_wp2_with fail
      refine HC.out.mono ?_
      rintro e w2 ⟨rfl, hI2⟩
      go_wp2
      go_roundw
      case rel => exact ⟨k + 1, by omega, by go_num, hI2⟩
      case measure => simp [intOf]; omega
    · go_wp2
      go_end0
      exact ⟨rfl, by rw [show K = k by omega]; exact hI⟩
set_option maxRecDepth 100000 in
theorem num1_calls (nb bb b off i k len cap : Nat) (n x : Int) (w : World) (hk : k < 8) (hi : i < len) (hlen : len ≤ 1000000) (hx : 0 ≤ x ∧ x < 256)
    (h1 : w.heap[nb]? = some (.cells #[.int .u64 n] 69 (0, 0))) (h2 : w.cell? ⟨bb, 0, none⟩ = some (.slice (some ⟨b, off, none⟩) len cap)) (h3 : w.cell? ⟨b, off + i, none⟩ = some (.int .u8 x)) :
    Calls Tryd.prog 94 #[.int .i64 i, .int .i64 k, .pointer (some ⟨nb, 0, none⟩), .pointer (some ⟨bb, 0, none⟩)] w fun e w' => e = .returned (.tuple #[]) ∧ w'.heap[nb]? = some (.cells #[.int .u64 (bits .or .u64 n (IntKind.u64.wrap (x * 2 ^ (8 * k))))] 69 (0, 0)) ∧ Fr (fun c => c = nb) w w' := by
  have c1 := heap_cell (o := 0) h1 rfl
  have f1 := heap_frozen (o := 0) h1
  obtain ⟨hx0, hx1⟩ := hx
  go_enter Tryd.func94, Tryd.ntmps94
  go_region
  go_end0
  exact ⟨rfl, heap_set _ h1, ((Fr.refl (fun c => c = nb) _).setCell (p := ⟨nb, 0, none⟩) (fun _ => rfl) _).drew⟩

set_option maxRecDepth 100000 in
theorem num_calls (v : Value) (l : List Int) (at_ K : Nat) (w : World) (hK : K ≤ 8) (hl : at_ + K ≤ l.length) (hlen : l.length ≤ 1000000) (h0 : ∀ b ∈ l, 0 ≤ b ∧ b < 256) (hne : 0 < l.length) (hv : Sl w v l.length (bys l)) :
    Calls Tryd.prog 87 #[v, .int .i64 at_, .int .i64 K] w fun e w' => e = .returned (.int .u64 (numL l at_ K)) ∧ Fr No w w' := by
  obtain ⟨a, cap, rfl⟩ := hv.form
  obtain ⟨b, off, rfl, hb, hc⟩ := hv.at (bys_ne l 0 hne)
  clear hv
  go_enter Tryd.func87, Tryd.ntmps87
  go_wp2_with fail
  have hF0 : Fr No w ((w.alloc (Obj.cells #[.slice (some ⟨b, off, none⟩) l.length cap] 30)).alloc (Obj.cells #[.int .u64 0] 69)) := ((Fr.refl _ _).alloc _).alloc _
  refine (each_calls 94 _ _ (fun k wr => wr.heap[w.heap.size + 1]? = some (.cells #[.int .u64 (numL l at_ k)] 69 (0, 0)) ∧ Fr (fun c => c = w.heap.size + 1) ((w.alloc (Obj.cells #[.slice (some ⟨b, off, none⟩) l.length cap] 30)).alloc (Obj.cells #[.int .u64 0] 69)) wr)
    l.length at_ K _ hK hl hlen _ cap ⟨?_, Fr.refl _ _⟩ (fun args w => rfl) ?_).mono ?_
  · simpa [numL] using heap_new (w.alloc (Obj.cells #[.slice (some ⟨b, off, none⟩) l.length cap] 30)) (Obj.cells #[.int .u64 0] 69)
  · rintro k wr hk ⟨hn, hF⟩
    have hin : at_ + k < l.length := by omega
    have hx := h0 _ (List.getElem_mem hin)
    have hbx : wr.cell? ⟨b, off + (at_ + k), none⟩ = some (.int .u8 l[at_ + k]) := hF.cell (hF0.cell (hc _ _ (bys_get _ _ hin)) (fun h => h)) (by omega)
    refine (num1_calls (w.heap.size + 1) w.heap.size b off (at_ + k) k l.length cap (numL l at_ k) l[at_ + k] wr (by omega) hin hlen hx hn ?_ hbx).mono ?_
    · exact hF.cell (heap_cell (heap_alloc _ (heap_new w _)) rfl) (by omega)
    · rintro e w' ⟨rfl, h1, h2⟩
      refine ⟨rfl, ?_, hF.trans h2⟩
      rw [numL]
      simpa [List.getD, hin] using h1
  · rintro e w' ⟨rfl, hn, hF⟩
    have c1 := heap_cell (o := 0) hn rfl
    go_wp2
    go_ret
    exact ⟨rfl, hF0.trans' hF (fun i hi e => by omega)⟩
end Go.Proofs.YtpcikbloflpahaaDoor
namespace Go.Proofs.YtpcikbloflpahaaDoor
set_option linter.unusedVariables false
set_option linter.unusedSimpArgs false
open Go.RowKit Go.Shelf

set_option maxRecDepth 100000 in
theorem put1_calls (nb ob g i k cap base : Nat) (l : List Int) (n : Int) (w : World) (hk : k < 8) (hi : i < l.length) (hlen : l.length ≤ 1000000) (hn : 0 ≤ n ∧ n < 18446744073709551616)
    (h1 : w.cell? ⟨nb, 0, none⟩ = some (.int .u64 n)) (h2 : w.cell? ⟨ob, 0, none⟩ = some (.slice (some ⟨g, 0, none⟩) l.length cap)) (hr : w.ownsRow base 5 1 (.slice (some ⟨g, 0, none⟩) l.length cap) l.length (bys l)) :
    Calls Tryd.prog 92 #[.int .i64 i, .int .i64 k, .pointer (some ⟨nb, 0, none⟩), .pointer (some ⟨ob, 0, none⟩)] w fun e w' => e = .returned (.tuple #[]) ∧ w'.ownsRow base 5 1 (.slice (some ⟨g, 0, none⟩) l.length cap) l.length (bys (l.set i (IntKind.u8.wrap (n / 2 ^ (8 * k))))) ∧ Fr (fun c => c = g) w w' := by
  have hc1 := (hr.cellAt i (by omega)).trans (bys_get _ _ hi)
  have f1 := hr.frozenAt i
  have hst := hr.stored i (.int .u8 (IntKind.u8.wrap (n / 2 ^ (8 * k))))
  rw [bys_set] at hst
  have HST := Lib.hid hst
  obtain ⟨hn0, hn1⟩ := hn
  revert hc1
  generalize l[i] = x
  intro hc1
  clear hr hst
  go_enter Tryd.func92, Tryd.ntmps92
  go_region
  go_end0
  obtain ⟨q1, q2⟩ := HST.out
  exact ⟨rfl, q1.drew, ((Fr.refl (fun c => c = g) _).setCell (p := ⟨g, i, none⟩) (fun _ => rfl) _).drew⟩

set_option maxRecDepth 100000 in
theorem put_calls (v : Value) (l : List Int) (at_ K : Nat) (n : Int) (w : World) (hK : K ≤ 8) (hl : at_ + K ≤ l.length) (hlen : l.length ≤ 1000000) (hn : 0 ≤ n ∧ n < 18446744073709551616) (hne : 0 < l.length) (hv : Sl w v l.length (bys l)) :
    Calls Tryd.prog 79 #[v, .int .i64 at_, .int .i64 K, .int .u64 n] w fun e w' => ∃ r, e = .returned r ∧ Fr No w w' ∧ w'.ownsRow w.heap.size 5 1 r l.length (bys (putL l at_ n K)) := by
  obtain ⟨a, cap, rfl⟩ := hv.form
  have hF3x : ∀ w3, (w.alloc (Obj.cells #[.int .u64 n] 69)).grownBy w3 (Value.slice none 0 0).ownBlock → w3.heap[w.heap.size]? = some (.cells #[.int .u64 n] 69 (0, 0)) := fun w3 h => (h.block _ (by simp) (by simp [Value.ownBlock])).trans (heap_new w _)
  have hv0 := hv.fr0 ((Fr.refl No w).alloc (Obj.cells #[.int .u64 n] 69))
  go_enter Tryd.func79, Tryd.ntmps79
  go_wp2_with (at_builtin; refine append_sl el_u8 rfl _ _ rfl w.heap.size (.slice none 0 0) 0 [] rfl (World.ownsRow_nil _ _ _ _) rfl hv0 (by rw [bys_len, Nat.mul_one]) (bys_one l) (by unfold maxLen; omega) (by omega) (by simp) ?_; intro v' w3 hown' hgrow; rw [Nat.zero_add, List.nil_append] at hown'; obtain ⟨g, cap', rfl, hg1, hg2⟩ := World.ownsRow.form hown' hne; have hF3 : Fr No w w3 := (((Fr.refl _ _).alloc _).grown hgrow (fun k e _ => by cases e)); have hn3 := hF3x w3 hgrow)
  have hgn : g ≠ w.heap.size := fun e => not_row hn3 (by decide) hown' (by simp [Value.ownBlock, e])
  have hF4 : Fr No w (w3.alloc (Obj.cells #[.slice (some ⟨g, 0, none⟩) l.length cap'] 30)) := hF3.alloc _
  refine (each_calls 92 _ _ (fun k wr => wr.ownsRow w.heap.size 5 1 (.slice (some ⟨g, 0, none⟩) l.length cap') l.length (bys (putL l at_ n k)) ∧ Fr (fun c => c = g) (w3.alloc (Obj.cells #[.slice (some ⟨g, 0, none⟩) l.length cap'] 30)) wr)
    l.length at_ K _ hK hl hlen _ cap ⟨hown'.alloc _, Fr.refl _ _⟩ (fun args w => rfl) ?_).mono ?_
  · rintro k wr hk ⟨hrow, hF⟩
    have c1 := hF.cell (heap_cell (o := 0) (heap_alloc (Obj.cells #[.slice (some ⟨g, 0, none⟩) l.length cap'] 30) hn3) rfl) (fun e => hgn e.symm)
    have c2 := hF.cell (heap_cell (o := 0) (heap_new w3 (Obj.cells #[.slice (some ⟨g, 0, none⟩) l.length cap'] 30)) rfl) (by omega)
    have hL := putL_length l at_ n k
    rw [← hL] at hrow c2
    refine (put1_calls w.heap.size w3.heap.size g (at_ + k) k cap' w.heap.size (putL l at_ n k) n wr (by omega) (by omega) (by omega) hn c1 c2 hrow).mono ?_
    rintro e w' ⟨rfl, h1, h2⟩
    rw [hL] at h1
    exact ⟨rfl, h1, hF.trans h2⟩
  · rintro e w' ⟨rfl, hrow, hF⟩
    have c2 := hF.cell (heap_cell (o := 0) (heap_new w3 (Obj.cells #[.slice (some ⟨g, 0, none⟩) l.length cap'] 30)) rfl) (by omega)
    go_wp2
    go_ret
    exact ⟨_, rfl, hF4.trans' hF (fun i hi e => by omega), hrow⟩
end Go.Proofs.YtpcikbloflpahaaDoor
namespace Go.Proofs.YtpcikbloflpahaaDoor
set_option linter.unusedVariables false
set_option linter.unusedSimpArgs false
open Go.RowKit Go.Shelf

/-- Block b holds the bytes l. -/
def Row (w : World) (b : Nat) (t : TypeId) (l : List Int) : Prop := w.heap[b]? = some (.cells (bys l).toArray t (0, 0))
theorem Row.new (w : World) (t : TypeId) (l : List Int) : Row (w.alloc (.cells (bys l).toArray t)) w.heap.size t l := heap_new _ _
theorem Row.cell {w : World} {b : Nat} {t : TypeId} {l : List Int} (h : Row w b t l) {i : Nat} (hi : i < l.length) : w.cell? ⟨b, i, none⟩ = some (.int .u8 l[i]) :=
  heap_cell h (by simpa using bys_get l i hi)
theorem Row.frozen {w : World} {b : Nat} {t : TypeId} {l : List Int} (h : Row w b t l) (i : Nat) : w.frozen? ⟨b, i, none⟩ = false := heap_frozen h
theorem Row.lt {w : World} {b : Nat} {t : TypeId} {l : List Int} (h : Row w b t l) : b < w.heap.size := heap_lt h
theorem Row.fr {S : Nat → Prop} {w w' : World} {b : Nat} {t : TypeId} {l : List Int} (h : Row w b t l) (hf : Fr S w w') (hn : ¬ S b) : Row w' b t l := hf.heap h hn
theorem Row.set {w : World} {b : Nat} {t : TypeId} {l : List Int} (h : Row w b t l) (i : Nat) (x : Int) : Row (w.setCell ⟨b, i, none⟩ (.int .u8 x)) b t (l.set i x) := by
  unfold Row at *
  rw [← bys_set]
  simp [World.setCell, Array.getElem?_modify, h]
theorem Row.sl {w : World} {b : Nat} {t : TypeId} {l : List Int} (h : Row w b t l) : Sl w (.slice (some ⟨b, 0, none⟩) l.length l.length) l.length (bys l) := by
  refine ⟨_, _, rfl, ⟨by simp, Nat.le_refl _⟩, fun _ => ⟨b, 0, rfl⟩, ?_⟩
  rintro b' off j u ⟨rfl, rfl⟩ hj
  rw [Nat.zero_add]
  exact heap_cell h (by simpa using hj)
/-- Bytes laid into a list from place o on. -/
def spl (l : List Int) (o : Nat) (m : List Int) : List Int := l.take o ++ m ++ l.drop (o + m.length)
theorem spl_length (l : List Int) (o : Nat) (m : List Int) (h : o + m.length ≤ l.length) : (spl l o m).length = l.length := by
  simp only [spl, List.length_append, List.length_take, List.length_drop]; omega
theorem bys_spl (l : List Int) (o : Nat) (m : List Int) : bys (spl l o m) = (bys l).take o ++ bys m ++ (bys l).drop (o + m.length) := by
  simp [bys, spl, List.map_take, List.map_drop]
/-- A text's bytes. -/
def bytesOf (s : ByteArray) : List Int := s.data.toList.map fun b => (b.toNat : Int)
theorem bytesOf_length (s : ByteArray) : (bytesOf s).length = s.size := by simp [bytesOf]
theorem bytesOf_cells (s : ByteArray) : Lib.byteCells s.data.toList = bys (bytesOf s) := by simp [Lib.byteCells, bys, bytesOf]
theorem bytesOf_range (s : ByteArray) : ∀ b ∈ bytesOf s, 0 ≤ b ∧ b < 256 := by
  intro b hb; simp only [bytesOf, List.mem_map] at hb; obtain ⟨x, _, rfl⟩ := hb; have := x.toNat_lt; omega
theorem Row.setRow {w : World} {b : Nat} {t : TypeId} {l : List Int} (h : Row w b t l) (m : List Int) : Row (w.setRow b (bys m).toArray) b t m ∧ Fr (fun k => k = b) w (w.setRow b (bys m).toArray) :=
  ⟨setRow_heap w b _ _ t _ h, ⟨rfl, rfl, rfl, by simp [World.setRow], fun k _ hk => setRow_other w b k _ hk⟩⟩
/-- copy(row[o:], s), where there is room. -/
theorem Row.copyStr {w : World} {b : Nat} {t : TypeId} {l : List Int} (h : Row w b t l) (s : ByteArray) (o dLen dCap : Nat) (hle : s.size ≤ dLen) (hfit : o + s.size ≤ l.length) :
    ∃ w', Row w' b t (spl l o (bytesOf s)) ∧ Fr (fun k => k = b) w w' ∧ ∀ ty, (Builtin.copy_ #[30, 9] ty #[.slice (some ⟨b, o, none⟩) dLen dCap, .string s]).run Tryd.prog w = .ok (.int .i64 s.size) w' := by
  obtain ⟨q1, q2⟩ := h.setRow (spl l o (bytesOf s))
  refine ⟨_, q1, q2, fun ty => ?_⟩
  rw [Lib.run_copy_row_string (P := Tryd.prog) w 30 9 ty 5 b o dLen dCap s (bys l).toArray t Tryd.underlying30 (by kernel_rfl) h hle (by simpa [bys] using hfit)]
  rw [bys_spl, bytesOf_cells, bytesOf_length]; rfl
/-- copy(row[o:], v) of bytes that lie elsewhere, where there is room for all. -/
theorem Row.copySl {w : World} {b : Nat} {t : TypeId} {l : List Int} (h : Row w b t l) (m : List Int) (ad : Option Addr) (cap o dLen dCap : Nat) (hm : 0 < m.length) (hv : Sl w (.slice ad m.length cap) m.length (bys m)) (hle : m.length ≤ dLen) (hfit : o + m.length ≤ l.length) :
    ∃ w', Row w' b t (spl l o m) ∧ Fr (fun k => k = b) w w' ∧ ∀ ty, (Builtin.copy_ #[30, 30] ty #[.slice (some ⟨b, o, none⟩) dLen dCap, .slice ad m.length cap]).run Tryd.prog w = .ok (.int .i64 m.length) w' := by
  obtain ⟨q1, q2⟩ := h.setRow (spl l o m)
  obtain ⟨b', off', rfl, hb', hc'⟩ := hv.at (bys_ne m 0 hm)
  refine ⟨_, q1, q2, fun ty => ?_⟩
  rw [run_copy_row (P := Tryd.prog) w 30 30 ty 5 b o dLen dCap ⟨b', off', none⟩ m.length cap (bys l).toArray t (bys m) Tryd.underlying30 (by kernel_rfl) h (by rw [bys_len]; exact (Nat.min_eq_left hle).symm) ?_ (by simpa [bys] using hfit) (bys_one m)]
  · rw [bys_spl, bys_len]; rfl
  · intro j v hj
    have := hc' j v hj
    simp only [Addr.add]
    split
    · next h0 => subst h0; simpa using this
    · exact this
/-- So many noughts. -/
def zs (n : Nat) : List Int := List.replicate n 0
theorem zs_length (n : Nat) : (zs n).length = n := by simp [zs]
theorem made_zs (n : Nat) : madeCells (Value.int .u8 0).cells (n * 1) = (bys (zs n)).toArray := by
  apply Array.toList_inj.1
  have h : ∀ x : Nat, (Value.int .u8 0).cells[x % (Value.int .u8 0).cells.size]! = .int .u8 0 := fun x => by
    show (#[Value.int .u8 0] : Array Value)[x % 1]! = _
    rw [Nat.mod_one]; rfl
  simp [madeCells, bys, zs, h]
  rw [List.map_const']; simp
theorem mk_bytes (w : World) (n : Nat) (hn : n ≤ 281474976710656) :
    (Instr.makeSlice 30 (.int .i64 n) (.int .i64 n)).run Tryd.prog w = .ok (.slice (some ⟨w.heap.size, 0, none⟩) n n) (w.alloc (.cells (bys (zs n)).toArray 5)) := by
  have hE := el_u8
  cases hi : Tryd.prog.info? 5 with
  | none => have := hE.info; rw [hi] at this; simp at this
  | some i =>
    have h := hE.info
    rw [hi] at h
    simp only [Option.map_some, Option.some.injEq, Prod.mk.injEq] at h
    obtain ⟨h1, h2, h3⟩ := h
    have := run_make (P := Tryd.prog) w 30 5 i (.int .u8 0) hE.und hi h1 .i64 .i64 n n (by omega) (by omega) (by rw [h3]; omega) (by omega)
    rw [this, h2]
    simp only [Int.toNat_natCast, made_zs]
end Go.Proofs.YtpcikbloflpahaaDoor
namespace Go.Proofs.YtpcikbloflpahaaDoor
set_option linter.unusedVariables false
set_option linter.unusedSimpArgs false
open Go.RowKit Go.Shelf

theorem conv_sl {w : World} {a : Option Addr} {cap : Nat} {l : List Int} (hv : Sl w (.slice a l.length cap) l.length (bys l)) : (convert 30 9 (.slice a l.length cap)).run Tryd.prog w = .ok (.string (strOfNums l)) w := by
  cases l with
  | nil =>
    cases a with
    | none => exact run_convert_bytes_nil w 30 5 Tryd.underlying30 Tryd.underlying5 0 cap 9 Tryd.underlying9
    | some a =>
      rw [List.length_nil, run_convert_bytes_string w 30 9 5 (some a) 0 cap Tryd.underlying30 Tryd.underlying5 Tryd.underlying9,
        run_bytesToString w a 0 cap [] (by have := run_loadCells_list (P := Tryd.prog) w a [] (fun j v h => by simp at h); simpa using this)]
      rfl
  | cons x l =>
    obtain ⟨b, off, rfl, hb, hc⟩ := hv.at (by simp [bys])
    refine run_convert_bytes_arg w 30 5 Tryd.underlying30 Tryd.underlying5 b off _ cap (x :: l) rfl (fun i hi => ?_) 9 Tryd.underlying9
    rw [hc i _ (bys_get _ i hi)]
    simp [List.getD, List.getElem?_eq_getElem hi]
theorem strOfNums_inj {l m : List Int} (hlr : ∀ b ∈ l, 0 ≤ b ∧ b < 256) (hmr : ∀ b ∈ m, 0 ≤ b ∧ b < 256) (h : strOfNums l = strOfNums m) : l = m := by
  have h1 : (strOfNums l).data.toList = (strOfNums m).data.toList := by rw [h]
  rw [strOfNums_data, strOfNums_data] at h1
  clear h
  induction l generalizing m with
  | nil => cases m with
    | nil => rfl
    | cons y m => simp at h1
  | cons x l ih =>
    cases m with
    | nil => simp at h1
    | cons y m =>
      simp only [List.map_cons, List.cons.injEq] at h1
      have hx := hlr x (by simp); have hy := hmr y (by simp)
      have h2 := congrArg UInt8.toNat h1.1
      simp only [UInt8.toNat_ofNat'] at h2
      rw [ih (fun b hb => hlr b (by simp [hb])) (fun b hb => hmr b (by simp [hb])) h1.2]
      congr 1
      omega

end Go.Proofs.YtpcikbloflpahaaDoor
