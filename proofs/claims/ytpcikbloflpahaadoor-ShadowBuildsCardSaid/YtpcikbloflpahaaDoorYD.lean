/-
  A loop over a function whose body may panic: the walk at one function's frames, a round left by a panic, the two laws of the statement.
-/
import Derived.Test.YtpcikbloflpahaaDoorYA
import Derived.RangeFuncNested
import Derived.Test.YtpcikbloflpahaaDoorYO
import Derived.Test.YtpcikbloflpahaaDoorYC
import Derived.ChangeKeysEq
namespace Go.Proofs.YtpcikbloflpahaaDoor
set_option linter.unusedVariables false
set_option linter.unusedSimpArgs false
open Go.RowKit

section
variable {F : Fence} {n : Nat} {P : Program} {f0 : FuncId} {a : Act} {w : World} {Q : Exit → Act → World → Prop}

/-- A piece of code, walked at the frames of one function. -/
def wpAt (f0 : FuncId) (F : Fence) (n : Nat) (P : Program) (c : Code) (Q : Exit → Act → World → Prop) (a : Act) (w : World) : Prop :=
  ∀ (b : Frame) (k : List Item) (cs : List Frame), b.roundOf = F.round → b.fn = f0 → F.fn b.fn → F.room (cs.length + 1 + n) →
    ∃ e a' w', Q e a' w' ∧ ArrivesIn (Machine.fenced P F) P (lone (b.atR a (.code c :: k)) cs w) b k cs e a' w'

theorem wpAt_of_in {c : Code} (h : c.wpIn F n P Q a w) : wpAt f0 F n P c Q a w := fun b k cs hro _ hb hr => h b k cs hro hb hr
theorem wpAt_mono {c : Code} {Q' : Exit → Act → World → Prop} (h : wpAt f0 F n P c Q a w) (hq : ∀ e a w, Q e a w → Q' e a w) : wpAt f0 F n P c Q' a w :=
  fun b k cs hro hf hb hr => let ⟨e, a', w', q, r⟩ := h b k cs hro hf hb hr; ⟨e, a', w', hq _ _ _ q, r⟩

theorem wpAt_seq {x y : Code} (h : wpAt f0 F n P x (Exit.then (wpAt f0 F n P y Q) Q) a w) : wpAt f0 F n P (Code.seq x y) Q a w := by
  intro b k cs hro hf hb hr
  have h0 : (lone (b.atR a (.code (.seq x y) :: k)) cs w).fenced P F := fenced_calm hb hr rfl
  obtain ⟨e, a₁, w₁, hq, harr⟩ := h b (.code y :: k) cs hro hf hb hr
  cases e with
  | normal =>
    obtain ⟨e₂, a₂, w₂, hq₂, harr₂⟩ := hq b k cs hro hf hb hr
    exact ⟨e₂, a₂, w₂, hq₂, .of_steps (.head h0 stepR_seq harr) harr₂⟩
  | exit id => exact ⟨_, a₁, w₁, hq, .of_steps (.one h0 stepR_seq) (.pass (x := .code y) rfl (fun _ _ => .inl (by simp)) harr)⟩
  | goto l => exact ⟨_, a₁, w₁, hq, .of_steps (.one h0 stepR_seq) (.pass (x := .code y) rfl (fun _ _ => .inl (by simp)) harr)⟩
  | ret => exact ⟨_, a₁, w₁, hq, .of_steps (.one h0 stepR_seq) (.pass (x := .code y) rfl (fun _ _ => .inl (by simp)) harr)⟩
  | panic ch => exact ⟨_, a₁, w₁, hq, .of_steps (.one h0 stepR_seq) (.pass (x := .code y) rfl (fun _ _ => .inl (by simp)) harr)⟩
  | outgrown => exact ⟨_, a₁, w₁, hq, .of_steps (.one h0 stepR_seq) (.pass (x := .code y) rfl (fun _ _ => .inl (by simp)) harr)⟩
/-- A sequence whose first part is walked as the library walks it. -/
theorem wpAt_seq_k {x y : Code} (h : ∀ K : Act → World → Prop, (∀ a w, wpAt f0 F n P y Q a w → K a w) → x.wpIn F n P (Exit.then K Q) a w) : wpAt f0 F n P (Code.seq x y) Q a w :=
  wpAt_seq (wpAt_of_in (h _ fun _ _ h => h))
theorem wpAt_block {id : Nat} {c : Code} (h : wpAt f0 F n P c (Exit.inBlock id Q) a w) : wpAt f0 F n P (Code.block id c) Q a w := by
  intro b k cs hro hf hb hr
  have h0 : (lone (b.atR a (.code (.block id c) :: k)) cs w).fenced P F := fenced_calm hb hr rfl
  obtain ⟨e, a₁, w₁, hq, harr⟩ := h b (.inBlock id :: k) cs hro hf hb hr
  cases e with
  | normal => exact ⟨.normal, a₁, w₁, hq, .head h0 stepR_block (StepsIn.trans harr (.one (fenced_calm hb hr rfl) stepR_inBlock))⟩
  | exit id' =>
    by_cases hid : id' = id
    · simp only [Exit.inBlock, hid, if_true] at hq
      exact ⟨.normal, a₁, w₁, hq, .head h0 stepR_block (harr.1 k (by simp [exitTo, hid]))⟩
    · simp only [Exit.inBlock, hid, if_false] at hq
      have this : (id == id') = false := by simp; exact fun h => hid h.symm
      have hx : exitTo id' (.inBlock id :: k) = exitTo id' k := by simp [exitTo, this]
      exact ⟨.exit id', a₁, w₁, hq, fun k' hk => .head h0 stepR_block (harr.1 k' (by rw [hx]; exact hk)),
        fun hr' hk => let ⟨k₁, h1, h2⟩ := harr.2 hr' (by rw [hx]; exact hk); ⟨k₁, h1, .head h0 stepR_block h2⟩⟩
  | goto l =>
    have hx : gotoIn l (.inBlock id :: k) = gotoIn l k := by simp [gotoIn]
    exact ⟨_, a₁, w₁, hq, fun k' hk => .head h0 stepR_block (harr.1 k' (by rw [hx]; exact hk)),
      fun hr' hk => let ⟨k₁, h1, h2⟩ := harr.2 hr' (by rw [hx]; exact hk); ⟨k₁, h1, .head h0 stepR_block h2⟩⟩
  | ret => exact ⟨_, a₁, w₁, hq, .of_steps (.one h0 stepR_block) harr⟩
  | panic ch => exact ⟨_, a₁, w₁, hq, .of_steps (.one h0 stepR_block) harr⟩
  | outgrown => exact ⟨_, a₁, w₁, hq, .of_steps (.one h0 stepR_block) harr⟩

/-- A function's contract from its body's walk at its own frames, marks and all. -/
theorem callsIn_of_wpAt {f : FuncId} {fn : Func} {c : Code} {args : Array Value} {w : World} {R : Ending → World → Prop}
    (hf : P.funcs[f]? = some fn) (hb : fn.body = some c) (hF : F.fn f)
    (h : wpAt f F n P c (bodyPostM F n P fn R) { tmps := args ++ Array.replicate (fn.ntmps - args.size) undef, defers := [] } w) (hro : F.round = none := by rfl) : CallsIn F n P f args w R := by
  refine ⟨hF, fun cs hr => ?_⟩
  let b : Frame := { (default : Frame) with fn := f, kind := .normal, roundOf := none }
  have henter : Frame.enter P f args .normal =
      b.atR { tmps := args ++ Array.replicate (fn.ntmps - args.size) undef, defers := [] } [.code c] := by
    simp [Frame.enter, Frame.atR, hf, hb, b]
  obtain ⟨e, a', w', hq, harr⟩ := h b [] cs hro.symm rfl hF hr
  rw [← henter] at harr
  cases e with
  | normal =>
    obtain ⟨e', w'', fr', hR, hs, hfn, hl⟩ := leaves_stepsInM a'.defers .returning w' { b.atR a' [] with mode := .returning } cs rfl rfl rfl hf rfl hF hr hq
    exact ⟨e', w'', fr', hR, ComesIn.of_steps (StepsIn.trans harr (.one (fenced_calm (fr := b.atR a' []) hF hr rfl) (stepR_end rfl))) hs, hfn, hl⟩
  | ret =>
    obtain ⟨todo, hs₀⟩ := harr.1 rfl
    obtain ⟨e', w'', fr', hR, hs, hfn, hl⟩ := leaves_stepsInM a'.defers .returning w' { b.atR a' todo with mode := .returning } cs rfl rfl rfl hf rfl hF hr hq
    exact ⟨e', w'', fr', hR, ComesIn.of_steps hs₀ hs, hfn, hl⟩
  | panic chain =>
    obtain ⟨todo, hs₀⟩ := harr
    obtain ⟨e', w'', fr', hR, hs, hfn, hl⟩ := leaves_stepsInM a'.defers (.panicking chain) w' { b.atR a' todo with mode := .panicking chain } cs rfl rfl rfl hf rfl hF hr hq
    exact ⟨e', w'', fr', hR, ComesIn.of_steps hs₀ hs, hfn, hl⟩
  | exit id => exact hq.elim
  | goto l => exact hq.elim
  | outgrown => exact ⟨.outgrown, w', b, hq, harr.resolve_left (by simp [b]), rfl, trivial⟩

/-- How a round may be left: off its end, or by a panic. -/
def roundPostP (P : Program) (l : Nat) (R : Ending → World → Prop) : Exit → Act → World → Prop
  | .normal, _, w => ∃ v w', (Instr.endRound l none).run P w = .ok v w' ∧ R (.returned v) w'
  | .panic ch, a, w => a.defers = [] ∧ R (.panicked ch) w
  | _, _, _ => False

theorem roundIn_of_wpAt {l : Nat} {f : FuncId} {fn : Func} {tmps : Array Value} {assign body : Code} {w : World} {R : Ending → World → Prop} (hF : F.fn f) (hfun : P.funcs[f]? = some fn)
    (h : assign.wpIn (F.inRound l) n P (Exit.then (fun a₁ w₁ => ∃ w₂, (Instr.beginRound l).run P w₁ = .ok () w₂ ∧ wpAt f (F.inRound l) n P body (roundPostP P l R) a₁ w₂) (fun _ _ _ => False))
      { tmps := tmps, defers := [] } w) :
    RoundIn F n P l f tmps assign body w R := by
  refine ⟨hF, fun c cs hr => ?_⟩
  let b : Frame := { (default : Frame) with fn := f, kind := .normal, roundOf := some l }
  have hb0 : Frame.round l f tmps assign body .normal = b.atR { tmps := tmps, defers := [] } [.code assign, .beginRound, .code body] := by
    simp [Frame.round, Frame.atR, b]
  have hr' : (F.inRound l).room ((c :: cs).length + 1 + n) := hr
  have hF' : (F.inRound l).fn b.fn := hF
  obtain ⟨e, a₁, w₁, hq, harr⟩ := h b [.beginRound, .code body] (c :: cs) rfl hF' hr'
  rw [← hb0] at harr
  cases e with
  | normal =>
    obtain ⟨w₂, hbr, hbody⟩ := hq
    have s1 : StepsIn (Machine.fenced P (F.inRound l)) P (lone (b.atR a₁ [.beginRound, .code body]) (c :: cs) w₁) (lone (b.atR a₁ [.code body]) (c :: cs) w₂) :=
      .one (fenced_calm (fr := b.atR a₁ [.beginRound, .code body]) hF' hr' rfl) (stepR_beginRound rfl hbr)
    obtain ⟨e₂, a₂, w₃, hq₂, harr₂⟩ := hbody b [] (c :: cs) rfl rfl hF' hr'
    cases e₂ with
    | normal =>
      obtain ⟨v, w₄, hend, hR⟩ := hq₂
      exact ⟨.returned v, w₄, hR, (StepsIn.trans harr s1).trans (StepsIn.trans harr₂ (.one (fenced_calm (fr := b.atR a₂ []) hF' hr' rfl) (stepR_round_end rfl rfl hend)))⟩
    | panic chain =>
      obtain ⟨hd, hR⟩ := hq₂
      obtain ⟨todo, hs⟩ := harr₂
      have hl : Frame.leaving P { b.atR a₂ todo with mode := .panicking chain } w₃ (.panicked chain) := ⟨rfl, hd, fn, hfun⟩
      exact ⟨.panicked chain, w₃, hR, (StepsIn.trans harr s1).trans (StepsIn.trans hs (.one (fenced_leaving (F := F.inRound l) (fr := { b.atR a₂ todo with mode := .panicking chain }) hF' hr' hl) (step_leave_panicked hl)))⟩
    | ret => exact hq₂.elim
    | exit id => exact hq₂.elim
    | goto t => exact hq₂.elim
    | outgrown => exact hq₂.elim
  | exit id => exact hq.elim
  | goto l => exact hq.elim
  | ret => exact hq.elim
  | panic chain => exact hq.elim
  | outgrown => exact hq.elim

theorem wpAt_rangeFunc {g : Operand} {ps : Array Tmp} {assign body : Code}
    (h : ∃ (l : Nat) (mark : List Deferred) (w₁ : World) (d : Deferred) (w₁' : World) (f : FuncId) (args : Array Value) (w₂ : World),
      (Instr.enterLoop f0 a.tmps ps assign body F.round).run P w = .ok (l, mark) w₁ ∧
      (resolve a.eval (rangeCall g l) 0).run P w₁ = .ok d w₁' ∧
      (∀ f', Target.leads P w₁' d.target d.args = some f' → F.fn f') ∧
      (invoke d.target d.args).run P w₁' = .ok (.enter f args) w₂ ∧
      (F.depth.isSome = true → 1 ≤ n) ∧
      CallsIn F (n - 1) P f args w₂ (rangePost F n P l Q { a with defers := mark ++ a.defers })) :
    wpAt f0 F n P (Code.rangeFunc g ps assign body) Q a w := by
  intro b k cs hro hf hb hr
  obtain ⟨l, mark, w₁, d, w₁', f, args, w₂, he, hres, hlead, hinv, hn, hF, hcall⟩ := h
  rw [← hro, ← hf] at he
  have h0 : (lone (b.atR a (.code (.rangeFunc g ps assign body) :: k)) cs w).fenced P F := by
    refine fenced_lone (.inl hb) (fun f' hf' => hlead f' ?_) (Fence.room_le hr (by omega))
    have hev := Frame.eval_atR b a (.code (.rangeFunc g ps assign body) :: k)
    simp only [Frame.atR] at hev
    simp only [Frame.about, Frame.atR, he, hev, hres] at hf'
    exact hf'
  have henter := stepR_rangeFunc (P := P) (b := b) (a := a) (k := k) (cs := cs) (w := w) he hres hinv
  have hroom : F.room ((b.atR { a with defers := mark ++ a.defers } (.inRangeFunc l :: k) :: cs).length + 1 + (n - 1)) := Fence.room_enter hr hn
  obtain ⟨e, w₃, fr, hR, hsteps, hfn, hleave⟩ := hcall (b.atR { a with defers := mark ++ a.defers } (.inRangeFunc l :: k) :: cs) hroom
  cases e with
  | outgrown =>
    obtain ⟨a₀, w₀, hq⟩ := hR
    exact ⟨.outgrown, a₀, w₀, hq, .inr (Outgrown.of_steps (.one henter) hsteps)⟩
  | returned v =>
    have hl : (lone fr (b.atR { a with defers := mark ++ a.defers } (.inRangeFunc l :: k) :: cs) w₃).fenced P F := fenced_leaving (hfn ▸ hF) hroom hleave
    obtain ⟨jump, w₄, hend, hj⟩ := hR
    have sback : StepsIn (Machine.fenced P F) P (lone (b.atR a (.code (.rangeFunc g ps assign body) :: k)) cs w) (lone (b.atR { a with defers := mark ++ a.defers } ((jump.map Item.code).toList ++ k)) cs w₄) := by
      refine .head h0 henter (StepsIn.trans hsteps (.head hl ?_ (.one (fenced_calm (fr := b.atR { a with defers := mark ++ a.defers } (.endRangeFunc l :: k)) hb hr rfl) (stepR_endRangeFunc hend))))
      rw [← finish_atR_inRangeFunc l v]; exact step_leave_returned hleave
    cases jump with
    | none => exact ⟨.normal, _, w₄, hj, sback⟩
    | some c =>
      obtain ⟨e', a'', w₅, hq, harr⟩ := hj b k cs hro hb hr
      exact ⟨e', a'', w₅, hq, .of_steps sback harr⟩
  | panicked chain =>
    have hl : (lone fr (b.atR { a with defers := mark ++ a.defers } (.inRangeFunc l :: k) :: cs) w₃).fenced P F := fenced_leaving (hfn ▸ hF) hroom hleave
    refine ⟨.panic chain, _, w₃, hR, .inRangeFunc l :: k, .head h0 henter (StepsIn.trans hsteps (.one hl ?_))⟩
    rw [← Frame.raise_atR]; exact step_leave_panicked hleave
end

/-- THE ITERATOR's CONTRACT, a panic of its caller's body let through. -/
def IterP {α : Type} (F : Fence) (P : Program) (g : Nat) (lb : Array Value) (encs : α → Array Value) (Kp : World → Prop) (ys : List α) : Prop :=
  ∀ (l : Nat) (J : List α → World → Prop) (X : List PanicEntry → World → Prop) (W : World), Kp W →
    (∀ pre W W', J pre W → W.grownBy W' none → J pre W') →
    (∀ pre x W1, pre ++ [x] <+: ys → J pre W1 → Kp W1 → YieldAt F 0 P l (encs x) W1 fun e W' =>
      (e = .returned (.bool true) ∧ J (pre ++ [x]) W' ∧ Kp W') ∨ ∃ ch, e = .panicked ch ∧ X ch W') → J [] W →
    CallsIn F 0 P g (#[.func (.yield l) #[] #[]] ++ lb) W fun e W' => ((∃ v, e = .returned v) ∧ J ys W' ∧ Kp W') ∨ ∃ ch, e = .panicked ch ∧ X ch W'
theorem IterP.inRound {α : Type} {F : Fence} {P : Program} {g : Nat} {lb : Array Value} {encs : α → Array Value} {Kp : World → Prop} {ys : List α} (l : Nat)
    (h : IterP F P g lb encs Kp ys) : IterP (F.inRound l) P g lb encs Kp ys := by
  intro l' J E W hK hJ hY h0
  exact (h l' J E W hK hJ (fun pre x W1 hp hj hk => hY pre x W1 hp hj hk) h0)

/-- How the body of a round may be left. B: the heap's size where the loop begins. -/
def bodyQP {α : Type} (B : Nat) (Kp : World → Prop) (I : List α → World → Prop) (Px : List PanicEntry → World → Prop) (xs : List α) (W : World) : Exit → Act → World → Prop
  | .normal, _, W' => KeepsFrom B W W' ∧ Kp W' ∧ I xs W'
  | .panic ch, a, W' => a.defers = [] ∧ KeepsFrom B W W' ∧ Px ch W'
  | _, _, _ => False

section
variable {F : Fence} {P : Program} {f0 : FuncId} {fn0 : Func}
/-- THE STATEMENT, OUTSIDE OF ANY ROUND. -/
theorem rangeP_outer {α : Type} {g : Operand} {ps : Array Tmp} {assign body : Code} {Q : Exit → Act → World → Prop} {a : Act} {w : World} (hfun : P.funcs[f0]? = some fn0)
    (hF : Opens F) (hro : F.round = none) {gf : Nat} {lb : Array Value} (hg : a.eval g = .func (.func gf) #[] lb) (eg : ∀ args w, (callFunc gf args).run P w = .ok (.enter gf args) w)
    {encs : α → Array Value} {Kp : World → Prop} {ys : List α} (hseq : IterP F P gf lb encs Kp ys) (hps : ∀ x, (encs x).size = ps.size)
    (hKp : OwnFrom w.heap.size (fun (_ : Unit) W => Kp W)) (hK0 : Kp w)
    (I : List α → World → Prop) (Px : List PanicEntry → World → Prop) (hI : OwnFrom w.heap.size I) (h0 : I [] w)
    (hround : ∀ (l : Nat) (pre : List α) (x : α) (W : World), w.heap.size ≤ l → (∃ r, W.heap[l]? = some (.loop r)) → pre ++ [x] <+: ys → I pre W → Kp W →
      assign.wpIn (F.inRound l) 0 P (Exit.then (fun a₁ W₁ => KeepsFrom w.heap.size W W₁ ∧ I pre W₁ ∧ Kp W₁ ∧ ∀ W₂, W₁.grownBy W₂ (some l) → (∃ r, W₂.heap[l]? = some (.loop r)) → I pre W₂ → Kp W₂ →
        wpAt f0 (F.inRound l) 0 P body (bodyQP w.heap.size Kp I Px (pre ++ [x]) W₂) a₁ W₂) (fun _ _ _ => False))
        { tmps := (ps.zip (encs x)).foldl (fun t (p, v) => t.setIfInBounds p v) a.tmps, defers := [] } W)
    (hdone : ∀ (D : Nat) (W : World), w.heap.size ≤ D → I ys W ∧ Kp W → W.heap[D]? = some (.deferred (some [])) → Q .normal { a with defers := { target := .collected D, args := #[] } :: a.defers } W)
    (hpanic : ∀ (D : Nat) (ch : List PanicEntry) (W : World), w.heap.size ≤ D → Px ch W → W.heap[D]? = some (.deferred (some [])) → Q (.panic ch) { a with defers := { target := .collected D, args := #[] } :: a.defers } W) :
    wpAt f0 F 0 P (Code.rangeFunc g ps assign body) Q a w := by
  have hdep : F.depth.isSome = true → 1 ≤ 0 := fun h => by rw [hF.depth] at h; simp at h
  refine wpAt_rangeFunc ?_
  rw [hro]
  obtain ⟨rec, hrec⟩ : ∃ rec : LoopState → Option Code → Loop, rec = fun st pe => { state := st, pending := pe, fn := f0, tmps := a.tmps, params := ps, assign, body, defers := w.heap.size } := ⟨_, rfl⟩
  obtain ⟨W1, hW1⟩ : ∃ W1, (w.alloc (.deferred (some []))).alloc (.loop (rec .ready none)) = W1 := ⟨_, rfl⟩
  have hL1 : W1.heap[w.heap.size + 1]? = some (.loop (rec .ready none)) := by
    rw [← hW1]; have := World.alloc_heap_new (w.alloc (.deferred (some []))) (.loop (rec .ready none)); rwa [World.size_alloc] at this
  have hD1 : W1.heap[w.heap.size]? = some (.deferred (some [])) := by
    rw [← hW1]; exact (Below.heap_alloc _ _ _ (by simp)).trans (World.alloc_heap_new w _)
  have hI1 : I [] W1 := by rw [← hW1]; exact hI.alloc _ (hI.alloc _ h0)
  have hK1 : Kp W1 := by rw [← hW1]; exact hKp.alloc (s := ()) _ (hKp.alloc (s := ()) _ hK0)
  refine ⟨w.heap.size + 1, [{ target := .collected w.heap.size, args := #[] }], W1, { target := .fn (.func gf) lb, args := #[.func (.yield (w.heap.size + 1)) #[] #[]] }, W1, gf,
    #[.func (.yield (w.heap.size + 1)) #[] #[]] ++ lb, W1, ?_, ?_, ?_, ?_, hdep, ?_⟩
  · rw [← hW1, hrec]; exact run_enterLoop_outer _ _ _ _ _
  · simp only [resolve, hg]
    simp [go_sem]
  · intro f' hf'; exact hF.fn f'
  · simp [invoke, go_sem, eg]
  · have key := hseq (w.heap.size + 1)
      (fun pre W => I pre W ∧ W.heap[w.heap.size + 1]? = some (.loop (rec .ready none)) ∧ W.heap[w.heap.size]? = some (.deferred (some [])))
      (fun ch W => Px ch W ∧ W.heap[w.heap.size]? = some (.deferred (some [])))
      W1 hK1
      (fun s A B hs hg' => ⟨hI s A B none hs.1 hg' (fun r e => by cases e),
        (hg'.block _ (Array.getElem?_eq_some_iff.1 hs.2.1).1 (by simp)).trans hs.2.1, (hg'.block _ (Array.getElem?_eq_some_iff.1 hs.2.2).1 (by simp)).trans hs.2.2⟩)
      ?_ ⟨hI1, hL1, hD1⟩
    · refine key.mono ?_
      rintro e W2 (⟨⟨v, rfl⟩, ⟨hi, hl, hk⟩, hkp⟩ | ⟨ch, rfl, hx, hk⟩)
      · exact ⟨none, _, by have := run_endLoop (P := P) hl (by rw [hrec]; simp); rw [hrec] at this; exact this, hdone _ _ (Nat.le_refl _) ⟨hI.putObj _ hi (by omega) hl rfl, hKp.putObj (s := ()) _ hkp (by omega) hl rfl⟩ ((World.putObj_heap_other (by omega)).trans hk)⟩
      · exact hpanic _ ch _ (Nat.le_refl _) hx hk
    · -- one round
      rintro pre x W hpx ⟨hi, hl, hk⟩ hkp
      have hy := run_yield (P := P) (args := encs x) hl (by rw [hrec]; exact hps x)
      rw [hrec] at hy
      refine ⟨f0, _, assign, body, hy, roundIn_of_wpAt (hF.fn _) hfun (wpIn_mono (hround _ pre x W (by omega) ⟨_, hl⟩ hpx hi hkp) ?_)⟩
      clear hy
      rintro e a' Wa hq
      cases e with
      | normal =>
        obtain ⟨hkfa, hia, hkpa, hbody⟩ := hq
        replace hl := hkfa.same _ _ (by omega) hl rfl
        replace hk := hkfa.same _ _ (Nat.le_refl _) hk rfl
        have hlt : w.heap.size + 1 < Wa.heap.size := (Array.getElem?_eq_some_iff.1 hl).1
        refine ⟨_, run_beginRound hl (by rw [hrec]), ?_⟩
        have hl2 : (Wa.putObj (w.heap.size + 1) (.loop { rec .ready none with state := .busy })).heap[w.heap.size + 1]? = some (.loop { rec .ready none with state := .busy }) := World.putObj_heap_same hlt
        have hk2 : (Wa.putObj (w.heap.size + 1) (.loop { rec .ready none with state := .busy })).heap[w.heap.size]? = some (.deferred (some [])) := (World.putObj_heap_other (by omega)).trans hk
        refine wpAt_mono (hbody _ (grownBy_putObj' _ _ _) ⟨_, hl2⟩ (hI.putObj _ hia (by omega) hl rfl) (hKp.putObj (s := ()) _ hkpa (by omega) hl rfl)) ?_
        rintro e a3 W3 hp
        cases e with
        | normal =>
          obtain ⟨hk3, hkp3, hi3⟩ := hp
          have hl3 := hk3.same _ _ (by omega) hl2 rfl
          have hr := run_endRound (P := P) none hl3
          rw [hrec] at hr
          have hlt3 := (Array.getElem?_eq_some_iff.1 hl3).1
          refine ⟨_, _, hr, .inl ⟨rfl, ⟨hI.putObj _ hi3 (by omega) hl3 rfl, ?_, (World.putObj_heap_other (by omega)).trans (hk3.same _ _ (Nat.le_refl _) hk2 rfl)⟩, hKp.putObj (s := ()) _ hkp3 (by omega) hl3 rfl⟩⟩
          rw [hrec]
          exact World.putObj_heap_same hlt3
        | panic ch => exact ⟨hp.1, .inr ⟨ch, rfl, hp.2.2, hp.2.1.same _ _ (Nat.le_refl _) hk2 rfl⟩⟩
        | ret => exact hp.elim
        | exit id => exact hp.elim
        | goto t => exact hp.elim
        | outgrown => exact hp.elim
      | ret => exact hq.elim
      | exit id => exact hq.elim
      | goto t => exact hq.elim
      | panic ch => exact hq.elim
      | outgrown => exact hq.elim

/-- THE STATEMENT, WITHIN A ROUND. -/
theorem rangeP_inner {α : Type} {g : Operand} {ps : Array Tmp} {assign body : Code} {Q : Exit → Act → World → Prop} {a : Act} {w : World} (hfun : P.funcs[f0]? = some fn0)
    (hF : Opens F) {l₀ : Nat} {r₀ : Loop} (hro : F.round = some l₀) (hl₀ : w.heap[l₀]? = some (.loop r₀)) {gf : Nat} {lb : Array Value} (hg : a.eval g = .func (.func gf) #[] lb) (eg : ∀ args w, (callFunc gf args).run P w = .ok (.enter gf args) w)
    {encs : α → Array Value} {Kp : World → Prop} {ys : List α} (hseq : IterP F P gf lb encs Kp ys) (hps : ∀ x, (encs x).size = ps.size)
    (hKp : OwnFrom w.heap.size (fun (_ : Unit) W => Kp W)) (hK0 : Kp w)
    (I : List α → World → Prop) (Px : List PanicEntry → World → Prop) (hI : OwnFrom w.heap.size I) (h0 : I [] w)
    (hround : ∀ (l : Nat) (pre : List α) (x : α) (W : World), w.heap.size ≤ l → (∃ r, W.heap[l]? = some (.loop r)) → pre ++ [x] <+: ys → I pre W → Kp W →
      assign.wpIn (F.inRound l) 0 P (Exit.then (fun a₁ W₁ => KeepsFrom w.heap.size W W₁ ∧ I pre W₁ ∧ Kp W₁ ∧ ∀ W₂, W₁.grownBy W₂ (some l) → (∃ r, W₂.heap[l]? = some (.loop r)) → I pre W₂ → Kp W₂ →
        wpAt f0 (F.inRound l) 0 P body (bodyQP w.heap.size Kp I Px (pre ++ [x]) W₂) a₁ W₂) (fun _ _ _ => False))
        { tmps := (ps.zip (encs x)).foldl (fun t (p, v) => t.setIfInBounds p v) a.tmps, defers := [] } W)
    (hdone : ∀ (W : World), I ys W ∧ Kp W → Q .normal a W)
    (hpanic : ∀ (ch : List PanicEntry) (W : World), Px ch W → Q (.panic ch) a W) :
    wpAt f0 F 0 P (Code.rangeFunc g ps assign body) Q a w := by
  have hdep : F.depth.isSome = true → 1 ≤ 0 := fun h => by rw [hF.depth] at h; simp at h
  refine wpAt_rangeFunc ?_
  rw [hro]
  obtain ⟨rec, hrec⟩ : ∃ rec : LoopState → Option Code → Loop, rec = fun st pe => { state := st, pending := pe, fn := f0, tmps := a.tmps, params := ps, assign, body, defers := r₀.defers } := ⟨_, rfl⟩
  obtain ⟨W1, hW1⟩ : ∃ W1, w.alloc (.loop (rec .ready none)) = W1 := ⟨_, rfl⟩
  have hL1 : W1.heap[w.heap.size]? = some (.loop (rec .ready none)) := by rw [← hW1]; exact World.alloc_heap_new w _
  have hI1 : I [] W1 := by rw [← hW1]; exact hI.alloc _ h0
  have hK1 : Kp W1 := by rw [← hW1]; exact hKp.alloc (s := ()) _ hK0
  refine ⟨w.heap.size, [], W1, { target := .fn (.func gf) lb, args := #[.func (.yield w.heap.size) #[] #[]] }, W1, gf,
    #[.func (.yield w.heap.size) #[] #[]] ++ lb, W1, ?_, ?_, ?_, ?_, hdep, ?_⟩
  · rw [← hW1, hrec]; exact run_enterLoop_inner hl₀ _ _ _ _ _
  · simp only [resolve, hg]
    simp [go_sem]
  · intro f' hf'; exact hF.fn f'
  · simp [invoke, go_sem, eg]
  · have key := hseq w.heap.size
      (fun pre W => I pre W ∧ W.heap[w.heap.size]? = some (.loop (rec .ready none)))
      Px
      W1 hK1
      (fun s A B hs hg' => ⟨hI s A B none hs.1 hg' (fun r e => by cases e), (hg'.block _ (Array.getElem?_eq_some_iff.1 hs.2).1 (by simp)).trans hs.2⟩)
      ?_ ⟨hI1, hL1⟩
    · refine key.mono ?_
      rintro e W2 (⟨⟨v, rfl⟩, ⟨hi, hl⟩, hkp⟩ | ⟨ch, rfl, hx⟩)
      · exact ⟨none, _, by have := run_endLoop (P := P) hl (by rw [hrec]; simp); rw [hrec] at this; exact this, hdone _ ⟨hI.putObj _ hi (Nat.le_refl _) hl rfl, hKp.putObj (s := ()) _ hkp (Nat.le_refl _) hl rfl⟩⟩
      · exact hpanic ch _ hx
    · rintro pre x W hpx ⟨hi, hl⟩ hkp
      have hy := run_yield (P := P) (args := encs x) hl (by rw [hrec]; exact hps x)
      rw [hrec] at hy
      refine ⟨f0, _, assign, body, hy, roundIn_of_wpAt (hF.fn _) hfun (wpIn_mono (hround _ pre x W (Nat.le_refl _) ⟨_, hl⟩ hpx hi hkp) ?_)⟩
      clear hy
      rintro e a' Wa hq
      cases e with
      | normal =>
        obtain ⟨hkfa, hia, hkpa, hbody⟩ := hq
        replace hl := hkfa.same _ _ (Nat.le_refl _) hl rfl
        have hlt : w.heap.size < Wa.heap.size := (Array.getElem?_eq_some_iff.1 hl).1
        refine ⟨_, run_beginRound hl (by rw [hrec]), ?_⟩
        have hl2 : (Wa.putObj w.heap.size (.loop { rec .ready none with state := .busy })).heap[w.heap.size]? = some (.loop { rec .ready none with state := .busy }) := World.putObj_heap_same hlt
        refine wpAt_mono (hbody _ (grownBy_putObj' _ _ _) ⟨_, hl2⟩ (hI.putObj _ hia (Nat.le_refl _) hl rfl) (hKp.putObj (s := ()) _ hkpa (Nat.le_refl _) hl rfl)) ?_
        rintro e a3 W3 hp
        cases e with
        | normal =>
          obtain ⟨hk3, hkp3, hi3⟩ := hp
          have hl3 := hk3.same _ _ (Nat.le_refl _) hl2 rfl
          have hr := run_endRound (P := P) none hl3
          rw [hrec] at hr
          have hlt3 := (Array.getElem?_eq_some_iff.1 hl3).1
          refine ⟨_, _, hr, .inl ⟨rfl, ⟨hI.putObj _ hi3 (Nat.le_refl _) hl3 rfl, ?_⟩, hKp.putObj (s := ()) _ hkp3 (Nat.le_refl _) hl3 rfl⟩⟩
          rw [hrec]
          exact World.putObj_heap_same hlt3
        | panic ch => exact ⟨hp.1, .inr ⟨ch, rfl, hp.2.2⟩⟩
        | ret => exact hp.elim
        | exit id => exact hp.elim
        | goto t => exact hp.elim
        | outgrown => exact hp.elim
      | ret => exact hq.elim
      | exit id => exact hq.elim
      | goto t => exact hq.elim
      | panic ch => exact hq.elim
      | outgrown => exact hq.elim
end
end Go.Proofs.YtpcikbloflpahaaDoor
namespace Go.Proofs.YtpcikbloflpahaaDoor
set_option linter.unusedVariables false
set_option linter.unusedSimpArgs false
open Go.RowKit Go.Shelf Go.Maps

set_option maxHeartbeats 1000000 in
set_option maxRecDepth 1000000 in
theorem wmustbad_calls (e : Int) (w : World) : Calls Tryd.prog 81 #[.bool false, .int .i64 e] w fun en w' => en = .panicked [{ v := .iface 154 (.agg #[.int .i64 e]), recovered := false }] ∧ w' = w := by
  go_enter Tryd.func81, Tryd.ntmps81
  go_wp2
  exact ⟨rfl, rfl, rfl⟩
/-- What is thrown, as the walk throws it. -/
def wThrown (e : Int) (r : Bool) : PanicEntry := { v := .iface 154 (.agg #[.int .i64 e]), recovered := r }
def sThrown (e : Int) (r : Bool) : PanicEntry := { v := .iface 122 (.agg #[.int .i64 e]), recovered := r }
set_option maxHeartbeats 1000000 in
set_option maxRecDepth 1000000 in
theorem smustbad_calls (e : Int) (he : e ≠ 0) (w : World) : Calls Tryd.prog 47 #[.int .i64 e] w fun en w' => en = .panicked [{ v := .iface 122 (.agg #[.int .i64 e]), recovered := false }] ∧ w' = w := by
  have hd : decide (e = 0) = false := decide_eq_false he
  go_enter Tryd.func47, Tryd.ntmps47
  go_wp2
  exact ⟨rfl, rfl, rfl⟩
set_option maxHeartbeats 1000000 in
set_option maxRecDepth 1000000 in
theorem wcatch_thrown {b : Nat} {w : World} (e : Int) {v0 : Value} (hb : w.heap[b]? = some (.cells [v0].toArray 25 (0, 0))) :
    CallsD Tryd.prog 80 #[.pointer (some ⟨b, 0, none⟩)] (.panicking [{ v := .iface 154 (.agg #[.int .i64 e]), recovered := false }]) w fun en u' w' => en = .returned (.tuple #[]) ∧ u' = .panicking [{ v := .iface 154 (.agg #[.int .i64 e]), recovered := true }] ∧ Fr (fun k => k = b) w w' ∧ w'.cell? ⟨b, 0, none⟩ = some (.int .i64 e) := by
  have HB := Lib.hid hb
  have hb1 := heap_alloc (Obj.cells #[.int .i64 e] 154) hb
  have k0 := heap_cell (o := 0) hb1 rfl
  have f0 := heap_frozen (o := 0) hb1
  have hta : ∀ w : World, (Instr.typeAssert (.iface 154 (.agg #[.int .i64 e])) 20 154 true).run Tryd.prog w = .ok (.tuple #[.agg #[.int .i64 e], .bool true]) w := fun w => by rfl
  refine callsD_of_wpS Tryd.func80 rfl fun c₀ cs hu => ?_
  apply wpS_seq
  apply wpS_region
  simp [wpOpsS, go_sem, recoverD, hu, Tryd.ntmps80, Exit.thenS]
  refine wpS_of_wp ?_
  simp only [Array.replicate_succ, Array.replicate_zero, List.push_toArray, List.append_toArray, List.nil_append, List.cons_append, List.setIfInBounds_toArray, List.set_cons_zero, List.set_cons_succ]
  have HB1 := Lib.hid hb1
  clear hb hb1
  go_wp2_with fail
  exact ⟨rfl, _, rfl, _, results_none rfl _ _ _, rfl, rfl, ((Fr.refl (fun k => k = b) w).alloc _).trans ((Fr.refl (fun k => k = b) _).setCell (p := ⟨b, 0, none⟩) (fun _ => rfl) _), heap_cell (o := 0) (heap_setAt7 HB1.out 0 _) rfl⟩
set_option maxHeartbeats 1000000 in
set_option maxRecDepth 1000000 in
theorem scatch_thrown {b : Nat} {w : World} (e : Int) {v0 : Value} (hb : w.heap[b]? = some (.cells [v0].toArray 25 (0, 0))) :
    CallsD Tryd.prog 56 #[.pointer (some ⟨b, 0, none⟩)] (.panicking [{ v := .iface 122 (.agg #[.int .i64 e]), recovered := false }]) w fun en u' w' => en = .returned (.tuple #[]) ∧ u' = .panicking [{ v := .iface 122 (.agg #[.int .i64 e]), recovered := true }] ∧ Fr (fun k => k = b) w w' ∧ w'.cell? ⟨b, 0, none⟩ = some (.int .i64 e) := by
  have HB := Lib.hid hb
  have hb1 := heap_alloc (Obj.cells #[.int .i64 e] 122) hb
  have k0 := heap_cell (o := 0) hb1 rfl
  have f0 := heap_frozen (o := 0) hb1
  have hta : ∀ w : World, (Instr.typeAssert (.iface 122 (.agg #[.int .i64 e])) 20 122 true).run Tryd.prog w = .ok (.tuple #[.agg #[.int .i64 e], .bool true]) w := fun w => by rfl
  refine callsD_of_wpS Tryd.func56 rfl fun c₀ cs hu => ?_
  apply wpS_seq
  apply wpS_region
  simp [wpOpsS, go_sem, recoverD, hu, Tryd.ntmps56, Exit.thenS]
  refine wpS_of_wp ?_
  simp only [Array.replicate_succ, Array.replicate_zero, List.push_toArray, List.append_toArray, List.nil_append, List.cons_append, List.setIfInBounds_toArray, List.set_cons_zero, List.set_cons_succ]
  have HB1 := Lib.hid hb1
  clear hb hb1
  go_wp2_with fail
  exact ⟨rfl, _, rfl, _, results_none rfl _ _ _, rfl, rfl, ((Fr.refl (fun k => k = b) w).alloc _).trans ((Fr.refl (fun k => k = b) _).setCell (p := ⟨b, 0, none⟩) (fun _ => rfl) _), heap_cell (o := 0) (heap_setAt7 HB1.out 0 _) rfl⟩
set_option maxHeartbeats 1000000 in
set_option maxRecDepth 1000000 in
/-- guarded over Reach's closure, thrown or not. -/
theorem wguardx_calls {w : World} (cap : Array Value) {S : Nat → Prop} {R : World → Prop} {X : Int → World → Prop} (hS : ¬ S w.heap.size) (h : Calls Tryd.prog 71 cap (w.alloc (Obj.cells #[.int .i64 0] 25)) fun e w' => Fr S (w.alloc (Obj.cells #[.int .i64 0] 25)) w' ∧ ((e = .returned (.tuple #[]) ∧ R w') ∨ ∃ n : Int, e = .panicked [{ v := .iface 154 (.agg #[.int .i64 n]), recovered := false }] ∧ X n w')) :
    Calls Tryd.prog 70 #[.func (.func 71) #[] cap] w fun e w' => ∃ w1, Fr S (w.alloc (Obj.cells #[.int .i64 0] 25)) w1 ∧ Fr (fun k => k = w.heap.size) w1 w' ∧ ((e = .returned (.int .i64 0) ∧ R w1) ∨ ∃ n : Int, e = .returned (.int .i64 n) ∧ X n w1) := by
  have hmf : ∀ (fn : Fn) (first cap : Array Value) (w : World), (Instr.makeFunc fn first cap).run Tryd.prog w = .ok (.func fn first cap) w := fun _ _ _ _ => rfl
  have H := Lib.hid h
  have HN := Lib.hid hS
  clear h hS
  go_enter_defers Tryd.func70, Tryd.ntmps70
  go_wp2_with fail
  refine H.out.mono ?_
  rintro e w1 ⟨hF, ⟨rfl, hR⟩ | ⟨n, rfl, hX⟩⟩
  · have hb := hF.heap (heap_new w (Obj.cells #[.int .i64 0] 25)) HN.out
    have k0 := heap_cell (o := 0) hb rfl
    have f0 := heap_frozen (o := 0) hb
    have HF := Lib.hid hF
    have HR := Lib.hid hR
    have HK := Lib.hid (heap_cell (o := 0) (heap_setAt7 (cs := [.int .i64 0]) hb 0 (.int .i64 0)) rfl)
    clear hF hR hb
    go_wp2_with fail
    refine leaves_cons (f := 80) (args := #[.pointer (some ⟨w.heap.size, 0, none⟩)]) (by simp) (by simp [go_sem]) ?_
    refine (wcatch_idle ⟨w.heap.size, 0, none⟩ _).mono ?_
    rintro e u' w'' ⟨rfl, rfl, rfl⟩
    simp [Leaves, settle, results, Tryd.results70, go_sem]
    exact ⟨.int .i64 0, by rw [HK.out]; rfl, w1, HF.out, (Fr.refl (fun k => k = w.heap.size) w1).setCell (p := ⟨w.heap.size, 0, none⟩) (fun _ => rfl) _, .inl ⟨rfl, HR.out⟩⟩
  · have hb := hF.heap (heap_new w (Obj.cells #[.int .i64 0] 25)) HN.out
    have HF := Lib.hid hF
    have HX := Lib.hid hX
    have HB := Lib.hid hb
    clear hF hX hb
    go_wp2_with fail
    refine leaves_cons (f := 80) (args := #[.pointer (some ⟨w.heap.size, 0, none⟩)]) (by simp) (by simp [go_sem]) ?_
    refine (wcatch_thrown (v0 := .int .i64 0) n HB.out).mono ?_
    rintro e u' w'' ⟨rfl, rfl, hF2, hk⟩
    simp [Leaves, settle, results, Tryd.results70, go_sem]
    exact ⟨.int .i64 n, by rw [hk], w1, HF.out, hF2, .inr ⟨n, rfl, HX.out⟩⟩
end Go.Proofs.YtpcikbloflpahaaDoor
namespace Go.Proofs.YtpcikbloflpahaaDoor
set_option linter.unusedVariables false
set_option linter.unusedSimpArgs false
open Go.RowKit Go.Shelf Go.Maps

theorem readG_sl {w w' w'' : World} {r : Value} {B : List Int} {i n : Nat} (h : ReadG w w' r B i) (hF : Fr No w' w'') (hl : B.length = 64 * n) (hi : i < n) : Sl w'' r 64 (bys (secB B i)) := by
  obtain ⟨g, rfl, -, hr⟩ := h
  have hl : (secB B i).length = 64 := secB_len (by omega)
  have := (hr.fr hF (fun h => h)).sl
  rw [hl] at this
  exact this
theorem secB_range {B : List Int} (h : ∀ x ∈ B, 0 ≤ x ∧ x < 256) (i : Nat) : ∀ x ∈ secB B i, 0 ≤ x ∧ x < 256 := fun x hx => h x (List.mem_of_mem_drop (List.mem_of_mem_take hx))
/-- The node in a sector. -/
def ndB (B : List Int) (i : Nat) : List Int := decN (secB B i)
theorem ndB_len (B : List Int) (i : Nat) : (ndB B i).length = 32 := decN_len _
attribute [local irreducible] nd0 decP decN ndB
set_option maxHeartbeats 4000000 in
set_option maxRecDepth 1000000 in
theorem wread_calls {w : World} {db : Nat} {A : Nat → Prop} {acts n : Nat} {B : List Int} (h : DkR w db A acts n B) (i : Nat) (hi : i < n) :
    Calls Tryd.prog 85 #[.pointer (some ⟨db, 0, none⟩), .int .i64 (i : Int)] w fun e w' => e = .returned (.agg (nds (ndB B i)).toArray) ∧ Fr No w w' := by
  have hF0 : Fr No w (w.alloc (Obj.cells (nds nd0).toArray 99)) := (Fr.refl No w).alloc _
  have HR := Lib.hid (gread_calls (h.fr0 hF0) i hi)
  have HM := Lib.hid wmust_calls
  have HB0 := Lib.hid (heap_new w (Obj.cells (nds nd0).toArray 99))
  have hbl : B.length = 64 * n := by obtain ⟨_, _, _, _, _, _, h⟩ := h; exact h.bl
  have hrg : ∀ x ∈ B, 0 ≤ x ∧ x < 256 := by obtain ⟨_, _, _, _, _, _, h⟩ := h; exact h.rng
  have HD := Lib.hid (fun v w1 hv => ndecode_calls (secB B i) (secB_len (by omega)) (secB_range hrg i) v w1 hv)
  have HL := Lib.hid hbl
  have HDN : RowKit.Hid (decN (secB B i) = ndB B i) := Lib.hid (by unfold ndB; rfl)
  have HNL := Lib.hid (ndB_len B i)
  clear h hF0 hbl hrg
  go_enter Tryd.func85, Tryd.ntmps85
  go_wp2_with (first
    | (refine alloc_nd7 w.heap.size rfl rfl rfl ?_)
    | fail "arm")
  refine HR.out.mono ?_
  rintro e w1 ⟨r, rfl, hF1, hrd⟩
  obtain ⟨g, e, hg1, hg2⟩ := id hrd
  subst e
  have HS := Lib.hid (fun w' (hF : Fr No w1 w') => readG_sl hrd hF HL.out hi)
  have HF1 := Lib.hid hF1
  clear hrd hg1 hg2 hF1
  go_wp2_with fail
  refine (HM.out _ _).mono ?_
  rintro e w2 ⟨rfl, rfl⟩
  go_wp2_with fail
  refine (HD.out _ _ (HS.out _ (Fr.refl _ _))).mono ?_
  rintro e w3 ⟨rfl, hF3⟩
  rw [HDN.out]
  have hF13 := HF1.out.trans hF3
  have HF3 := Lib.hid (((Fr.refl No w).alloc (Obj.cells (nds nd0).toArray 99)).trans hF13)
  have HB3 := Lib.hid (hF13.heap HB0.out (fun h => h))
  have hlt : w.heap.size < w3.heap.size := heap_lt7 HB3.out
  have HB4 := Lib.hid (heap_new w3 (Obj.cells (nds nd0).toArray 99))
  have HN4 := Lib.hid (heap_nd HB4.out nd0_len)
  clear hF3 hF13
  generalize hle : ndB B i = l at *
  have HE := Lib.hid hle
  clear hle
  go_wp2_with (first
    | (refine alloc_nd7 w3.heap.size rfl rfl rfl ?_)
    | (refine store_nd rfl _ _ rfl w3.heap.size 0 l rfl rfl HNL.out HN4.out.2.2 ?_; intro hF4; have hb4 := heap_setCells7 HB4.out (nds l) (by rw [nds_len, nds_len, nd0_len, HNL.out]); have HN4l := Lib.hid (heap_nd hb4 HNL.out); have HF4 := Lib.hid (((Fr.refl No w3).alloc (Obj.cells (nds nd0).toArray 99)).trans' hF4 (fun i hi (e : i = _) => by omega)); clear hF4 hb4)
    | fail "arm")
  generalize World.setCells (w3.alloc (Obj.cells (nds nd0).toArray 99)) w3.heap.size 0 (nds l) = W4 at *
  refine (HM.out _ _).mono ?_
  rintro e w5 ⟨rfl, rfl⟩
  have HB5 := Lib.hid (HF4.out.heap HB3.out (fun h => h))
  have HN5 := Lib.hid (heap_nd HB5.out nd0_len)
  go_wp2_with (first
    | (refine load_nd rfl _ rfl w3.heap.size 0 l rfl HN4l.out ?_)
    | (refine store_nd rfl _ _ rfl w.heap.size 0 l rfl rfl HNL.out HN5.out.2.2 ?_; intro hF5)
    | fail "arm")
  have hb5 := heap_setCells7 HB5.out (nds l) (by rw [nds_len, nds_len, nd0_len, HNL.out])
  exact ret_nd Tryd.results85 rfl (heap_nd hb5 HNL.out) rfl ⟨by rw [HE.out], (HF3.out.trans HF4.out).trans' hF5 (fun i hi (e : i = _) => by omega)⟩
theorem smust0_calls (w : World) : Calls Tryd.prog 47 #[.int .i64 0] w fun e w' => e = .returned (.tuple #[]) ∧ w' = w := by
  go_enter Tryd.func47, Tryd.ntmps47
  go_wp2
  go_end0
  exact ⟨rfl, rfl⟩
set_option maxHeartbeats 4000000 in
set_option maxRecDepth 1000000 in
theorem sreadg_calls {w : World} {db : Nat} {A : Nat → Prop} {acts n : Nat} {B : List Int} (h : DkR w db A acts n B) (i : Nat) (hi : i < n) (h1 : 0 < i) :
    Calls Tryd.prog 58 #[.pointer (some ⟨db, 0, none⟩), .int .i64 (i : Int)] w fun e w' => e = .returned (.agg (nds (ndB B i)).toArray) ∧ Fr No w w' := by
  have hF0 : Fr No w (w.alloc (Obj.cells (nds nd0).toArray 99)) := (Fr.refl No w).alloc _
  have HR := Lib.hid (gread_calls (h.fr0 hF0) i hi)
  have d0 : decide ((i : Int) = 0) = false := decide_eq_false (by omega)
  have HM := Lib.hid smust0_calls
  have HB0 := Lib.hid (heap_new w (Obj.cells (nds nd0).toArray 99))
  have hbl : B.length = 64 * n := by obtain ⟨_, _, _, _, _, _, h⟩ := h; exact h.bl
  have hrg : ∀ x ∈ B, 0 ≤ x ∧ x < 256 := by obtain ⟨_, _, _, _, _, _, h⟩ := h; exact h.rng
  have HD := Lib.hid (fun v w1 hv => ndecode_calls (secB B i) (secB_len (by omega)) (secB_range hrg i) v w1 hv)
  have HL := Lib.hid hbl
  have HDN : RowKit.Hid (decN (secB B i) = ndB B i) := Lib.hid (by unfold ndB; rfl)
  have HNL := Lib.hid (ndB_len B i)
  clear h hF0 hbl hrg
  go_enter Tryd.func58, Tryd.ntmps58
  go_wp2_with (first
    | (refine alloc_nd7 w.heap.size rfl rfl rfl ?_)
    | fail "arm")
  refine HR.out.mono ?_
  rintro e w1 ⟨r, rfl, hF1, hrd⟩
  obtain ⟨g, e, hg1, hg2⟩ := id hrd
  subst e
  have HS := Lib.hid (fun w' (hF : Fr No w1 w') => readG_sl hrd hF HL.out hi)
  have HF1 := Lib.hid hF1
  clear hrd hg1 hg2 hF1
  go_wp2_with fail
  refine (HM.out _).mono ?_
  rintro e w2 ⟨rfl, rfl⟩
  go_wp2_with fail
  refine (HD.out _ _ (HS.out _ (Fr.refl _ _))).mono ?_
  rintro e w3 ⟨rfl, hF3⟩
  rw [HDN.out]
  have hF13 := HF1.out.trans hF3
  have HF3 := Lib.hid (((Fr.refl No w).alloc (Obj.cells (nds nd0).toArray 99)).trans hF13)
  have HB3 := Lib.hid (hF13.heap HB0.out (fun h => h))
  have hlt : w.heap.size < w3.heap.size := heap_lt7 HB3.out
  have HB4 := Lib.hid (heap_new w3 (Obj.cells (nds nd0).toArray 99))
  have HN4 := Lib.hid (heap_nd HB4.out nd0_len)
  clear hF3 hF13
  generalize hle : ndB B i = l at *
  have HE := Lib.hid hle
  clear hle
  go_wp2_with (first
    | (refine alloc_nd7 w3.heap.size rfl rfl rfl ?_)
    | (refine store_nd rfl _ _ rfl w3.heap.size 0 l rfl rfl HNL.out HN4.out.2.2 ?_; intro hF4; have hb4 := heap_setCells7 HB4.out (nds l) (by rw [nds_len, nds_len, nd0_len, HNL.out]); have HN4l := Lib.hid (heap_nd hb4 HNL.out); have HF4 := Lib.hid (((Fr.refl No w3).alloc (Obj.cells (nds nd0).toArray 99)).trans' hF4 (fun i hi (e : i = _) => by omega)); clear hF4 hb4)
    | fail "arm")
  generalize World.setCells (w3.alloc (Obj.cells (nds nd0).toArray 99)) w3.heap.size 0 (nds l) = W4 at *
  refine (HM.out _).mono ?_
  rintro e w5 ⟨rfl, rfl⟩
  have HB5 := Lib.hid (HF4.out.heap HB3.out (fun h => h))
  have HN5 := Lib.hid (heap_nd HB5.out nd0_len)
  go_wp2_with (first
    | (refine load_nd rfl _ rfl w3.heap.size 0 l rfl HN4l.out ?_)
    | (refine store_nd rfl _ _ rfl w.heap.size 0 l rfl rfl HNL.out HN5.out.2.2 ?_; intro hF5)
    | fail "arm")
  have hb5 := heap_setCells7 HB5.out (nds l) (by rw [nds_len, nds_len, nd0_len, HNL.out])
  exact ret_nd Tryd.results58 rfl (heap_nd hb5 HNL.out) rfl ⟨by rw [HE.out], (HF3.out.trans HF4.out).trans' hF5 (fun i hi (e : i = _) => by omega)⟩
end Go.Proofs.YtpcikbloflpahaaDoor
namespace Go.Proofs.YtpcikbloflpahaaDoor
set_option linter.unusedVariables false
set_option linter.unusedSimpArgs false
open Go.RowKit Go.Shelf Go.Maps

theorem eq_int7 (d : Nat) (x y : Int) (w : World) : (Op.equalIn (d + 1) 3 (.int .i64 x) (.int .i64 y)).run Tryd.prog w = .ok (x == y) w := by
  simp [Op.equalIn, Sem.run_bind, run_underlying Tryd.underlying3 w]
theorem eqItems_nd (d : Nat) (l l' : List Int) (hl : l.length = 32) (hl' : l'.length = 32) (w : World) : ∀ (is : List Nat), (∀ i ∈ is, i < 32) →
    (Op.eqItems (d + 1) 3 (Tryd.prog.cellsOf 3) (nds l).toArray (nds l').toArray is).run Tryd.prog w = .ok (is.all fun i => l.getD i 0 == l'.getD i 0) w
  | [], _ => by simp [Op.eqItems]
  | i :: is, h => by
    have hi := h i (by simp)
    have hc : Tryd.prog.cellsOf 3 = 1 := by kernel_rfl
    have ih := eqItems_nd d l l' hl hl' w is (fun j hj => h j (by simp [hj]))
    have p1 := run_part_plain (P := Tryd.prog) (w := w) (e := 3) (by kernel_rfl) (xs := (nds l).toArray) (off := i * 1) (v := .int .i64 (l.getD i 0)) (by
      rw [Nat.mul_one, List.getElem?_toArray, show l.getD i 0 = l[i] from by rw [List.getD_eq_getElem?_getD, List.getElem?_eq_getElem (by omega)]; rfl]
      simpa using nds_get l i (by omega))
    have p2 := run_part_plain (P := Tryd.prog) (w := w) (e := 3) (by kernel_rfl) (xs := (nds l').toArray) (off := i * 1) (v := .int .i64 (l'.getD i 0)) (by
      rw [Nat.mul_one, List.getElem?_toArray, show l'.getD i 0 = l'[i] from by rw [List.getD_eq_getElem?_getD, List.getElem?_eq_getElem (by omega)]; rfl]
      simpa using nds_get l' i (by omega))
    have p3 : (Op.equalIn (d + 1) 3 (.int .i64 (l.getD i 0)) (.int .i64 (l'.getD i 0))).run Tryd.prog w = .ok (l.getD i 0 == l'.getD i 0) w := eq_int7 d _ _ w
    rw [hc] at ih ⊢
    simp only [Op.eqItems, Sem.run_bind, p1, p2, p3, Result.andThen_ok, List.all_cons]
    cases hq : (l.getD i 0 == l'.getD i 0)
    · simp
    · simpa using ih
set_option maxRecDepth 1000000 in
theorem eq_nd (l l' : List Int) (hl : l.length = 32) (hl' : l'.length = 32) (w : World) : (binOp .eql 99 (.agg (nds l).toArray) (.agg (nds l').toArray)).run Tryd.prog w = .ok (.bool (decide (l = l'))) w := by
  have h : (Op.equalIn Op.maxDepth 99 (.agg (nds l).toArray) (.agg (nds l').toArray)).run Tryd.prog w = .ok (decide (l = l')) w := by
    obtain ⟨i, hi⟩ := info_of_underlying (P := Tryd.prog) Tryd.underlying3
    obtain ⟨d, hmd⟩ : ∃ d, Op.maxDepth = d + 1 + 1 := ⟨9998, by kernel_rfl⟩
    rw [hmd, run_equalIn_array w (d + 1) (nds l).toArray (nds l').toArray Tryd.underlying99 hi, eqItems_nd d l l' hl hl' w _ (fun j hj => by simpa using hj)]
    congr 1
    rw [Bool.eq_iff_iff]
    simp only [List.all_eq_true, List.mem_range, beq_iff_eq, decide_eq_true_eq]
    constructor
    · intro h
      apply List.ext_getElem (by omega)
      intro k h1 h2
      have := h k (by omega)
      rwa [List.getD_eq_getElem?_getD, List.getElem?_eq_getElem h1, List.getD_eq_getElem?_getD, List.getElem?_eq_getElem h2] at this
    · rintro rfl _ _; rfl
  simp [binOp, Op.equal, Sem.run_bind, h]

/-- The entries that lead somewhere, of the first ones. -/
def entsF (l : List Int) (i : Nat) : List (Nat × Int) := (List.range i).filterMap fun k => if l.getD k 0 = 0 then none else some (k, l.getD k 0)
def ents (l : List Int) : List (Nat × Int) := entsF l 32
theorem entsF_succ (l : List Int) (i : Nat) : entsF l (i + 1) = entsF l i ++ (if l.getD i 0 = 0 then [] else [(i, l.getD i 0)]) := by
  simp only [entsF, List.range_succ, List.filterMap_append]
  congr 1
  rw [List.filterMap_cons, List.filterMap_nil]
  by_cases h : l.getD i 0 = 0
  · rw [if_pos h, if_pos h]
  · rw [if_neg h, if_neg h]
theorem entsF_prefix (l : List Int) (i k : Nat) : entsF l i <+: entsF l (i + k) := by
  induction k with
  | zero => exact List.prefix_refl _
  | succ k ih => rw [← Nat.add_assoc, entsF_succ]; exact ih.trans (List.prefix_append _ _)
theorem ents_nil {l : List Int} (h : l = nd0) : ents l = [] := by
  subst h
  have h0 : ∀ k, nd0.getD k 0 = 0 := fun k => by
    rw [List.getD_eq_getElem?_getD, nd0, List.getElem?_replicate]
    split <;> rfl
  simp only [ents, entsF, h0, if_true]
  exact List.filterMap_eq_nil_iff.2 (fun _ _ => rfl)
theorem ents_mem {l : List Int} {x : Nat × Int} (h : x ∈ ents l) : x.1 < 32 ∧ x.2 = l.getD x.1 0 ∧ x.2 ≠ 0 := by
  simp only [ents, entsF, List.mem_filterMap, List.mem_range] at h
  obtain ⟨k, hk, he⟩ := h
  split at he
  · cases he
  · injection he with he; subst he; exact ⟨hk, rfl, by assumption⟩
end Go.Proofs.YtpcikbloflpahaaDoor
namespace Go.Proofs.YtpcikbloflpahaaDoor
set_option linter.unusedVariables false
set_option linter.unusedSimpArgs false
open Go.RowKit Go.Shelf Go.Maps
attribute [local go_sem] Oper.semAt_some wide_depth inRound_depth wide_fn inRound_fn

theorem entries_calls (l : List Int) (w : World) : Calls Tryd.prog 84 #[.agg (nds l).toArray] w fun e w' => e = .returned (.func (.func 93) #[] #[.pointer (some ⟨w.heap.size, 0, none⟩)]) ∧ w' = w.alloc (Obj.cells (nds l).toArray 99) := by
  have hmf : ∀ (fn : Fn) (first cap : Array Value) (w : World), (Instr.makeFunc fn first cap).run Tryd.prog w = .ok (.func fn first cap) w := fun _ _ _ _ => rfl
  go_enter Tryd.func84, Tryd.ntmps84
  go_wp2
  go_ret
  exact ⟨rfl, rfl⟩
theorem load_ndIn {F : Fence} {n : Nat} {ops : Array Oper} {rest : List Oper} {o : Oper} {a : Act} {w : World} {Q : Exit → Act → World → Prop} (hg : o.guard = none) (x : Operand) (ho : o.op = .load 99 x)
    (b off : Nat) (l : List Int) (hx : a.eval x = .pointer (some ⟨b, off, none⟩)) (h : NdAt w b off l)
    (hK : wpListIn F n Tryd.prog ops Q rest (a.put o.dst (.agg (nds l).toArray)) w) : wpListIn F n Tryd.prog ops Q (o :: rest) a w := by
  refine wpListIn_plain hg fun K hK' => ?_
  have hl : (Instr.loadAt 99 (.pointer (some ⟨b, off, none⟩))).run Tryd.prog w = .ok (.agg (nds l).toArray) w := run_loadAt_mid (P := Tryd.prog) w b off 99 (nds l) _ (fun j v hj => h.2.1 j v hj) Tryd.underlying99 rfl (by rw [size_nd, nds_len, h.1])
  unfold Oper.wpIn
  refine ⟨by simp [Oper.about, ho], ?_⟩
  rw [Oper.semAt_plain F _ _ (by rw [ho]; intro c hc'; cases hc')]
  simp only [execOp, ho, hx, Sem.run_bind, hl, Result.andThen]
  exact hK' _ _ hK
theorem build_ndIn {F : Fence} {n : Nat} {ops : Array Oper} {rest : List Oper} {o : Oper} {a : Act} {w : World} {Q : Exit → Act → World → Prop} (hg : o.guard = none) (ho : o.op = .build 99 #[])
    (hK : wpListIn F n Tryd.prog ops Q rest (a.put o.dst (.agg (nds nd0).toArray)) w) : wpListIn F n Tryd.prog ops Q (o :: rest) a w := by
  have hr : (Instr.build 99 #[]).run Tryd.prog w = .ok (.agg (nds nd0).toArray) w := by kernel_rfl
  refine wpListIn_plain hg fun K hK' => ?_
  unfold Oper.wpIn
  refine ⟨by simp [Oper.about, ho], ?_⟩
  rw [Oper.semAt_plain F _ _ (by rw [ho]; intro c hc'; cases hc')]
  have hm : (#[] : Array (Nat × Operand)).map (fun x => (x.1, a.eval x.2)) = #[] := by simp
  simp only [execOp, ho, Sem.run_bind, hm, hr, Result.andThen]
  exact hK' _ _ hK
attribute [local irreducible] nd0
set_option maxHeartbeats 4000000 in
set_option maxRecDepth 1000000 in
theorem entries1_iter (nb : Nat) (l : List Int) (hl : l.length = 32) : IterP Fence.wide Tryd.prog 93 #[.pointer (some ⟨nb, 0, none⟩)] (fun x : Nat × Int => #[.int .i64 (x.1 : Int), .int .i64 x.2]) (fun W => W.heap[nb]? = some (.cells (nds l).toArray 99 (0, 0))) (ents l) := by
  intro q J X W hK hJ hY h0
  have HN := Lib.hid (heap_nd hK hl)
  have heq := fun w => eq_nd l nd0 hl nd0_len w
  have HEN := Lib.hid (fun (h : l = nd0) => ents_nil h)
  have HIX := Lib.hid (fun (w1 : World) j hj => run_index_nd w1 l j hj hl)
  have HK := Lib.hid hK
  have HL := Lib.hid hl
  clear hK hl
  refine callsIn_of_wp Tryd.func93 rfl trivial ?_ rfl
  simp only [Tryd.ntmps93, List.size_toArray, List.length_cons, List.length_nil, Nat.reduceAdd, Nat.reduceSub, Array.replicate_succ, Array.replicate_zero, List.push_toArray, List.append_toArray, List.nil_append, List.cons_append]
  by_cases hz : l = nd0
  · have d1 : decide (l = nd0) = true := decide_eq_true hz
    have HZ := Lib.hid hz
    clear hz
    gi_wp2_with (first
      | (refine load_ndIn rfl _ rfl nb 0 l rfl HN.out ?_)
      | (refine build_ndIn rfl rfl ?_)
      | fail "arm")
    refine bodyPost_ret (results_none rfl _ _ _) rfl ?_
    exact .inl ⟨⟨_, rfl⟩, by rw [HEN.out HZ.out]; exact h0, HK.out⟩
  · have d1 : decide (l = nd0) = false := decide_eq_false hz
    clear hz
    gi_wp2_with (first
      | (refine load_ndIn rfl _ rfl nb 0 l rfl HN.out ?_)
      | (refine build_ndIn rfl rfl ?_)
      | fail "arm")
    gi_loopw [9] (fun i wr => ∃ j : Nat, j ≤ 32 ∧ i = .int .i64 (j : Int) ∧ J (entsF l j) wr ∧ wr.heap[nb]? = some (.cells (nds l).toArray 99 (0, 0))) (fun i _ => 32 - (intOf i).toNat)
    case atStart => exact ⟨0, Nat.zero_le _, rfl, h0, HK.out⟩
    case round =>
      obtain ⟨j, hj, rfl, hJr, hkr⟩ := hrel
      by_cases hlt : j < 32
      · have hjl : j < l.length := by rw [HL.out]; exact hlt
        have q := HIX.out wr j hjl
        have hsn := entsF_succ l j
        have hpx := entsF_prefix l (j + 1) (32 - (j + 1))
        rw [show j + 1 + (32 - (j + 1)) = 32 from by omega] at hpx
        rw [show l.getD j 0 = l[j] from by rw [List.getD_eq_getElem?_getD, List.getElem?_eq_getElem hjl]; rfl] at hsn
        revert q hsn
        generalize l[j] = x
        intro q hsn
        have HJr := Lib.hid hJr
        have HKr := Lib.hid hkr
        have HPX := Lib.hid hpx
        have HSN := Lib.hid hsn
        clear hJr hkr hpx hsn hjl
        by_cases hx : x = 0
        · have dx : (x != 0) = false := by simp [hx]
          have HE : RowKit.Hid (entsF l (j + 1) = entsF l j) := Lib.hid (by rw [HSN.out, if_pos hx, List.append_nil])
          clear hx
          gi_wp2
          exact ⟨⟨j + 1, by omega, by go_num, by rw [HE.out]; exact HJr.out, HKr.out⟩, by simp [intOf]; omega⟩
        · have dx : (x != 0) = true := by simp [hx]
          have HE : RowKit.Hid (entsF l (j + 1) = entsF l j ++ [(j, x)]) := Lib.hid (by rw [HSN.out, if_neg hx])
          obtain ⟨fn, tmps, assign, body, hy, hR⟩ := hY (entsF l j) (j, x) wr (by rw [← HE.out]; exact HPX.out) HJr.out HKr.out
          clear hx
          gi_wp2
          refine hR.mono ?_
          rintro e W3 (⟨rfl, hJ3, hk3⟩ | ⟨ch, rfl, hX⟩)
          · gi_wp2
            exact ⟨⟨j + 1, by omega, by go_num, by rw [HE.out]; exact hJ3, hk3⟩, by simp [intOf]; omega⟩
          · gi_wp2
            exact ⟨rfl, .inr ⟨ch, rfl, hX⟩⟩
      · have dj : decide ((j : Int) < 32) = false := decide_eq_false (by omega)
        have HE : RowKit.Hid (entsF l j = ents l) := Lib.hid (by rw [show j = 32 from by omega]; rfl)
        clear hlt hj
        gi_wp2
        exact ⟨rfl, _, results_none rfl _ _ _, .inl ⟨⟨_, rfl⟩, by rw [← HE.out]; exact hJr, hkr⟩⟩
end Go.Proofs.YtpcikbloflpahaaDoor
