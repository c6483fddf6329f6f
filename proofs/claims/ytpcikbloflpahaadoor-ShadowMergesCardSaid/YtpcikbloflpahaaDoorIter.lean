/-
  A loop over a function, in one law: the iterator's contract ('Iter'), the caller's obligation ('range_outer', 'range_inner').
-/
import Derived.Test.YtpcikbloflpahaaDoorBase
namespace Go.Proofs.YtpcikbloflpahaaDoor
set_option linter.unusedVariables false
set_option linter.unusedSimpArgs false
open Go.RowKit

/-- A fence that lets all in, at whatever depth. -/
structure Opens (F : Fence) : Prop where
  depth : F.depth = none
  fn : ∀ f, F.fn f
theorem wide_depth : Fence.wide.depth = none := rfl
theorem inRound_depth (l : Nat) : (Fence.wide.inRound l).depth = none := rfl
theorem wide_fn (f : FuncId) : Fence.wide.fn f = True := rfl
theorem inRound_fn (l : Nat) (f : FuncId) : (Fence.wide.inRound l).fn f = True := rfl
theorem opens_wide : Opens Fence.wide := ⟨rfl, fun _ => trivial⟩
theorem Opens.inRound {F : Fence} (h : Opens F) (l : Nat) : Opens (F.inRound l) := ⟨h.depth, h.fn⟩

/-- The world at a piece of code, under a name. -/
theorem wpIn_gen {F : Fence} {n : Nat} {P : Program} {c : Code} {Q : Exit → Act → World → Prop} {a : Act} {w : World} (h : ∀ W0, W0 = w → c.wpIn F n P Q a W0) : c.wpIn F n P Q a w := h w rfl

/-- THE ITERATOR's CONTRACT: it hands on the elements of ys, one by one, and stops when it is told to. Kp: what of the world it leans on. -/
def Iter {α : Type} (F : Fence) (P : Program) (g : Nat) (lb : Array Value) (encs : α → Array Value) (Kp : World → Prop) (ys : List α) : Prop :=
  ∀ (l : Nat) (J : List α → World → Prop) (E : World → Prop) (W : World), Kp W →
    (∀ pre W W', J pre W → W.grownBy W' none → J pre W') →
    (∀ pre x W1, pre ++ [x] <+: ys → J pre W1 → Kp W1 → YieldAt F 0 P l (encs x) W1 fun e W' =>
      (e = .returned (.bool true) ∧ J (pre ++ [x]) W' ∧ Kp W') ∨ (e = .returned (.bool false) ∧ E W')) →
    (∀ W', J ys W' → Kp W' → E W') → J [] W →
    CallsIn F 0 P g (#[.func (.yield l) #[] #[]] ++ lb) W fun e W' => (∃ v, e = .returned v) ∧ E W'

theorem Iter.inRound {α : Type} {F : Fence} {P : Program} {g : Nat} {lb : Array Value} {encs : α → Array Value} {Kp : World → Prop} {ys : List α} (l : Nat)
    (h : Iter F P g lb encs Kp ys) : Iter (F.inRound l) P g lb encs Kp ys := by
  intro l' J E W hK hJ hY hE h0
  exact (h l' J E W hK hJ (fun pre x W1 hp hj hk => hY pre x W1 hp hj hk) hE h0)

/-- How the body of a round may be left. B: the heap's size where the loop begins. -/
def bodyQ {α : Type} (B : Nat) (Kp : World → Prop) (I : List α → World → Prop) (Ix : Code → List α → World → Prop) (xs : List α) (W : World) : Exit → Act → World → Prop
  | .normal, _, W' => KeepsFrom B W W' ∧ Kp W' ∧ I xs W'
  | .ret, _, W' => KeepsFrom B W W' ∧ Ix .ret xs W'
  | .exit id, _, W' => KeepsFrom B W W' ∧ Ix (.exit id) xs W'
  | .goto t, _, W' => KeepsFrom B W W' ∧ Ix (.goto t) xs W'
  | .panic _, _, _ => False
  | .outgrown, _, _ => False

variable {F : Fence} {P : Program}

/-- THE STATEMENT, OUTSIDE OF ANY ROUND. -/
theorem range_outer {α : Type} {g : Operand} {ps : Array Tmp} {assign body : Code} {Q : Exit → Act → World → Prop} {a : Act} {w : World}
    (hF : Opens F) (hro : F.round = none) {gf : Nat} {lb : Array Value} (hg : a.eval g = .func (.func gf) #[] lb) (eg : ∀ args w, (callFunc gf args).run P w = .ok (.enter gf args) w)
    {encs : α → Array Value} {Kp : World → Prop} {ys : List α} (hseq : Iter F P gf lb encs Kp ys) (hps : ∀ x, (encs x).size = ps.size)
    (hKp : OwnFrom w.heap.size (fun (_ : Unit) W => Kp W)) (hK0 : Kp w)
    (I : List α → World → Prop) (Ix : Code → List α → World → Prop) (hI : OwnFrom w.heap.size I) (hIx : ∀ c, OwnFrom w.heap.size (Ix c)) (h0 : I [] w)
    (hround : ∀ (l : Nat) (pre : List α) (x : α) (W : World), w.heap.size ≤ l → (∃ r, W.heap[l]? = some (.loop r)) → pre ++ [x] <+: ys → I pre W → Kp W →
      assign.wpIn (F.inRound l) 0 P (Exit.then (fun a₁ W₁ => KeepsFrom w.heap.size W W₁ ∧ I pre W₁ ∧ Kp W₁ ∧ ∀ W₂, W₁.grownBy W₂ (some l) → (∃ r, W₂.heap[l]? = some (.loop r)) → I pre W₂ → Kp W₂ →
        body.wpIn (F.inRound l) 0 P (bodyQ w.heap.size Kp I Ix (pre ++ [x]) W₂) a₁ W₂) (fun _ _ _ => False))
        { tmps := (ps.zip (encs x)).foldl (fun t (p, v) => t.setIfInBounds p v) a.tmps, defers := [] } W)
    (hdone : ∀ (D : Nat) (W : World), w.heap.size ≤ D → I ys W ∧ Kp W → W.heap[D]? = some (.deferred (some [])) → Q .normal { a with defers := { target := .collected D, args := #[] } :: a.defers } W)
    (hstop : ∀ (D : Nat) (c : Code) (pre : List α) (W : World), w.heap.size ≤ D → pre <+: ys → Ix c pre W → W.heap[D]? = some (.deferred (some [])) → c.wpIn F 0 P Q { a with defers := { target := .collected D, args := #[] } :: a.defers } W) :
    (Code.rangeFunc g ps assign body).wpIn F 0 P Q a w := by
  have hdep : F.depth.isSome = true → 1 ≤ 0 := fun h => by rw [hF.depth] at h; simp at h
  refine wpIn_rangeFunc ?_
  intro fn hfn
  rw [hro]
  obtain ⟨rec, hrec⟩ : ∃ rec : LoopState → Option Code → Loop, rec = fun st pe => { state := st, pending := pe, fn, tmps := a.tmps, params := ps, assign, body, defers := w.heap.size } := ⟨_, rfl⟩
  obtain ⟨W1, hW1⟩ : ∃ W1, (w.alloc (.deferred (some []))).alloc (.loop (rec .ready none)) = W1 := ⟨_, rfl⟩
  have hL1 : W1.heap[w.heap.size + 1]? = some (.loop (rec .ready none)) := by
    rw [← hW1]; have := World.alloc_heap_new (w.alloc (.deferred (some []))) (.loop (rec .ready none)); rwa [World.size_alloc] at this
  have hD1 : W1.heap[w.heap.size]? = some (.deferred (some [])) := by
    rw [← hW1]; exact (Below.heap_alloc _ _ _ (by simp)).trans (World.alloc_heap_new w _)
  have hI1 : I [] W1 := by rw [← hW1]; exact hI.alloc _ (hI.alloc _ h0)
  have hK1 : Kp W1 := by rw [← hW1]; exact hKp.alloc (s := ()) _ (hKp.alloc (s := ()) _ hK0)
  refine ⟨w.heap.size + 1, [{ target := .collected w.heap.size, args := #[] }], W1, { target := .fn (.func gf) lb, args := #[.func (.yield (w.heap.size + 1)) #[] #[]] }, W1, gf,
    #[.func (.yield (w.heap.size + 1)) #[] #[]] ++ lb, W1, ?_, ?_, ?_, ?_, hdep, ?_⟩
  · rw [← hW1, hrec]; exact run_enterLoop_outer _ _ _ _ _
  · simp only [resolve, hg]
    simp [go_sem]
  · intro f' hf'; exact hF.fn f'
  · simp [invoke, go_sem, eg]
  · have key := hseq (w.heap.size + 1)
      (fun pre W => I pre W ∧ W.heap[w.heap.size + 1]? = some (.loop (rec .ready none)) ∧ W.heap[w.heap.size]? = some (.deferred (some [])))
      (fun W => (I ys W ∧ Kp W ∧ W.heap[w.heap.size + 1]? = some (.loop (rec .ready none)) ∧ W.heap[w.heap.size]? = some (.deferred (some []))) ∨
        ∃ pre c, pre <+: ys ∧ Ix c pre W ∧ W.heap[w.heap.size + 1]? = some (.loop (rec .done (some c))) ∧ W.heap[w.heap.size]? = some (.deferred (some [])))
      W1 hK1
      (fun s A B hs hg' => ⟨hI s A B none hs.1 hg' (fun r e => by cases e),
        (hg'.block _ (Array.getElem?_eq_some_iff.1 hs.2.1).1 (by simp)).trans hs.2.1, (hg'.block _ (Array.getElem?_eq_some_iff.1 hs.2.2).1 (by simp)).trans hs.2.2⟩)
      ?_ (fun W' h hk => .inl ⟨h.1, hk, h.2⟩) ⟨hI1, hL1, hD1⟩
    · refine key.mono ?_
      rintro e W2 ⟨⟨v, rfl⟩, (⟨hi, hkp, hl, hk⟩ | ⟨pre, c, hpre, hi, hl, hk⟩)⟩
      · exact ⟨none, _, by have := run_endLoop (P := P) hl (by rw [hrec]; simp); rw [hrec] at this; exact this, hdone _ _ (Nat.le_refl _) ⟨hI.putObj _ hi (by omega) hl rfl, hKp.putObj (s := ()) _ hkp (by omega) hl rfl⟩ ((World.putObj_heap_other (by omega)).trans hk)⟩
      · exact ⟨some c, _, by have := run_endLoop (P := P) hl (by rw [hrec]; simp); rw [hrec] at this; exact this, hstop _ c pre _ (Nat.le_refl _) hpre ((hIx c).putObj _ hi (by omega) hl rfl) ((World.putObj_heap_other (by omega)).trans hk)⟩
    · -- one round
      rintro pre x W hpx ⟨hi, hl, hk⟩ hkp
      have hy := run_yield (P := P) (args := encs x) hl (by rw [hrec]; exact hps x)
      rw [hrec] at hy
      refine ⟨fn, _, assign, body, hy, roundIn_of_wpIn hfn (wpIn_mono (hround _ pre x W (by omega) ⟨_, hl⟩ hpx hi hkp) ?_)⟩
      clear hy
      rintro e a' Wa hq
      cases e with
      | normal =>
        obtain ⟨hkfa, hia, hkpa, hbody⟩ := hq
        replace hl := hkfa.same _ _ (by omega) hl rfl
        replace hk := hkfa.same _ _ (Nat.le_refl _) hk rfl
        have hlt : w.heap.size + 1 < Wa.heap.size := (Array.getElem?_eq_some_iff.1 hl).1
        refine ⟨_, run_beginRound hl (by rw [hrec]), ?_⟩
        have hl2 : (Wa.putObj (w.heap.size + 1) (.loop { rec .ready none with state := .busy })).heap[w.heap.size + 1]? = some (.loop { rec .ready none with state := .busy }) := World.putObj_heap_same hlt
        have hk2 : (Wa.putObj (w.heap.size + 1) (.loop { rec .ready none with state := .busy })).heap[w.heap.size]? = some (.deferred (some [])) := (World.putObj_heap_other (by omega)).trans hk
        refine wpIn_mono (hbody _ (grownBy_putObj' _ _ _) ⟨_, hl2⟩ (hI.putObj _ hia (by omega) hl rfl) (hKp.putObj (s := ()) _ hkpa (by omega) hl rfl)) ?_
        have fin : ∀ (jump : Option Code) (W3 : World), KeepsFrom w.heap.size (Wa.putObj (w.heap.size + 1) (.loop { rec .ready none with state := .busy })) W3 →
            (Instr.endRound (w.heap.size + 1) jump).run P W3 = .ok (.bool jump.isNone) (W3.putObj (w.heap.size + 1) (.loop (rec (if jump.isNone then .ready else .done) jump))) ∧
            W3.heap[w.heap.size + 1]? = some (.loop { rec .ready none with state := .busy }) ∧
            (W3.putObj (w.heap.size + 1) (.loop (rec (if jump.isNone then .ready else .done) jump))).heap[w.heap.size + 1]? = some (.loop (rec (if jump.isNone then .ready else .done) jump)) ∧
            (W3.putObj (w.heap.size + 1) (.loop (rec (if jump.isNone then .ready else .done) jump))).heap[w.heap.size]? = some (.deferred (some [])) := fun jump W3 hk3 => by
          have hl3 := hk3.same _ _ (by omega) hl2 rfl
          have := run_endRound (P := P) jump hl3
          rw [hrec] at this ⊢
          exact ⟨this, by rw [hrec] at hl3; exact hl3, World.putObj_heap_same (Array.getElem?_eq_some_iff.1 hl3).1, (World.putObj_heap_other (by omega)).trans (hk3.same _ _ (Nat.le_refl _) hk2 rfl)⟩
        rintro e a3 W3 hp
        cases e with
        | normal =>
          obtain ⟨hk3, hkp3, hi3⟩ := hp
          obtain ⟨hr, hl3, hl4, hk4⟩ := fin none W3 hk3
          exact ⟨_, _, hr, .inl ⟨rfl, ⟨hI.putObj _ hi3 (by omega) hl3 rfl, hl4, hk4⟩, hKp.putObj (s := ()) _ hkp3 (by omega) hl3 rfl⟩⟩
        | ret =>
          obtain ⟨hk3, hi3⟩ := hp
          obtain ⟨hr, hl3, hl4, hk4⟩ := fin (some .ret) W3 hk3
          exact ⟨_, _, hr, .inr ⟨rfl, .inr ⟨_, .ret, hpx, (hIx _).putObj _ hi3 (by omega) hl3 rfl, hl4, hk4⟩⟩⟩
        | exit id =>
          obtain ⟨hk3, hi3⟩ := hp
          obtain ⟨hr, hl3, hl4, hk4⟩ := fin (some (.exit id)) W3 hk3
          exact ⟨_, _, hr, .inr ⟨rfl, .inr ⟨_, .exit id, hpx, (hIx _).putObj _ hi3 (by omega) hl3 rfl, hl4, hk4⟩⟩⟩
        | goto t =>
          obtain ⟨hk3, hi3⟩ := hp
          obtain ⟨hr, hl3, hl4, hk4⟩ := fin (some (.goto t)) W3 hk3
          exact ⟨_, _, hr, .inr ⟨rfl, .inr ⟨_, .goto t, hpx, (hIx _).putObj _ hi3 (by omega) hl3 rfl, hl4, hk4⟩⟩⟩
        | panic ch => exact hp.elim
        | outgrown => exact hp.elim
      | ret => exact hq.elim
      | exit id => exact hq.elim
      | goto t => exact hq.elim
      | panic ch => exact hq.elim
      | outgrown => exact hq.elim

theorem ownFrom_fr {β : Type} {T : Nat → Prop} {W0 : World} {B : Nat} (hB : W0.heap.size ≤ B) : OwnFrom B (fun (_ : β) W => Fr T W0 W) :=
  fun _ _ _ _ hs hg hr => hs.grown hg (fun k e hk => by have := (hr k e).1; omega)

theorem ownFrom_and {β : Type} {B : Nat} {I I' : β → World → Prop} (h : OwnFrom B I) (h' : OwnFrom B I') : OwnFrom B (fun s W => I s W ∧ I' s W) := h.and h'

theorem ownFrom_heap {β : Type} {B b : Nat} {cs : Array Value} {t : TypeId} {fr : Nat × Nat} : OwnFrom B (fun (_ : β) W => W.heap[b]? = some (.cells cs t fr)) :=
  fun _ W W' row hs hg hr => (hg.block b (Array.getElem?_eq_some_iff.1 hs).1 (fun e => by obtain ⟨_, o, ho, hc⟩ := hr b e.symm; rw [hs] at ho; cases ho; cases hc)).trans hs
theorem ownsRow_from {B base : Nat} {e : TypeId} {size : Nat} {v : Value} {n : Nat} {xs : List Value} {W W' : World} {row : Option Nat} (h : W.ownsRow base e size v n xs) (hg : W.grownBy W' row)
    (hr : ∀ r, row = some r → B ≤ r ∧ ∃ o : Obj, W.heap[r]? = some o ∧ o.isCells = false) : W'.ownsRow base e size v n xs := by
  obtain ⟨h1, h2⟩ := h
  refine ⟨h1, ?_⟩
  rcases h2 with h2 | ⟨g, cap, cur, rfl, hgb, hh, r⟩
  · exact .inl h2
  · exact .inr ⟨g, cap, cur, rfl, hgb, ownFrom_heap (β := Unit) (B := B) () W W' row hh hg hr, r⟩
/-- Behind a loop at the function's return: the block for the rounds' deferred calls is taken; all else lies as it lay. -/
theorem heap_putObj_cells {W : World} {D b : Nat} {o : Obj} (o' : Obj) (hd : W.heap[D]? = some (.deferred (some []))) (h : W.heap[b]? = some o) (hc : o.isCells = true) : (W.putObj D o').heap[b]? = some o :=
  (World.putObj_heap_other (fun e => by subst e; rw [h] at hd; cases hd; cases hc)).trans h
theorem Fr.putObj {S : Nat → Prop} {w W : World} (h : Fr S w W) {D : Nat} (hD : w.heap.size ≤ D) (o' : Obj) : Fr S w (W.putObj D o') :=
  h.grown (grownBy_putObj' _ _ _) (fun k e hk => by cases e; omega)

/-- Conditions that speak of blocks below B alone (all others may turn). -/
theorem ownFrom_of_heap {β : Type} {B : Nat} {I : β → World → Prop}
    (h : ∀ s W W', I s W → W.os = W'.os → W.tape = W'.tape → W.output = W'.output → W.heap.size ≤ W'.heap.size → (∀ k, k < B → k < W.heap.size → W'.heap[k]? = W.heap[k]?) → (∀ (k : Nat) (o : Obj), W.heap[k]? = some o → o.isCells = true → W'.heap[k]? = some o) → I s W') : OwnFrom B I :=
  fun s W W' row hs hg hr => h s W W' hs hg.os.symm hg.tape.symm hg.output.symm hg.size
    (fun k hk hlt => hg.block k hlt (fun e => by have := (hr k e.symm).1; omega))
    (fun k o hk ho => (hg.block k (Array.getElem?_eq_some_iff.1 hk).1 (fun e => by obtain ⟨_, o', ho', hc⟩ := hr k e.symm; rw [hk] at ho'; cases ho'; rw [ho] at hc; cases hc)).trans hk)

end Go.Proofs.YtpcikbloflpahaaDoor
