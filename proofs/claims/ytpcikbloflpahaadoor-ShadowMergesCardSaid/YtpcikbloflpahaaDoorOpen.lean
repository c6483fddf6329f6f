/-
  What arguments read as, opened: slices of whatever elements, as 'Sl' says it.
-/
import Derived.Test.YtpcikbloflpahaaDoorBase
import Derived.Test.YtpcikbloflpahaaDoorRows
import Derived.WalkKit
import Derived.ProofKit
import Derived.OpenShut
import Derived.ShutString
import Derived.ChangeOld
import Derived.Below
import Derived.Deep.Slices
namespace Go.Proofs.YtpcikbloflpahaaDoor
set_option linter.unusedVariables false
set_option linter.unusedSimpArgs false
open Go.RowKit Go.Deep Go.ChangeShapes Go.WideShapes

section
variable {H : Type} {enc : TypeId × Value → H} {P : Program} {W : World} {base : Nat} {spare : Nat → Bool} {held : Bool}

theorem flat_length {α : Type} (cells : α → List Value) (sz : Nat) (hcl : ∀ y, (cells y).length = sz) (l : List α) : (l.flatMap cells).length = l.length * sz := by
  induction l with
  | nil => simp
  | cons y l ih => rw [List.flatMap_cons, List.length_append, ih, hcl, List.length_cons, Nat.succ_mul]; omega

/-- A slice opened: its elements, each as 'cells' has it, each with what its reading tells ('ok'). -/
theorem sl_open {α : Type} [Inhabited α] {t e : TypeId} {sz fuel : Nat} {v : Value} {x : DataW H × List MemPlace} (cells : α → List Value) (ok : α → Prop)
    (ht : P.underlying t = some (.slice e)) (hs : P.cellsOf e = sz) (hp : 0 < sz) (hcl : ∀ y, (cells y).length = sz)
    (el : ∀ n cs z, cs.length = sz → DataW.trod enc P W base spare held n e cs = some z → ∃ y, cs = cells y ∧ ok y)
    (h : DataW.trod enc P W base spare held fuel t [v] = some x) :
    ∃ xs : List α, Sl W v xs.length (xs.flatMap cells) ∧ xs.length ≤ maxLen ∧ ∀ y ∈ xs, ok y := by
  rcases open_slice ht h with ⟨h1, -⟩ | ⟨a, len, cap, m, n, D, Pl, h1, hb, hl, hm, hmm, -, hx⟩
  · cases h1; exact ⟨[], Sl.nil W, by simp, by simp⟩
  · cases h1
    have hle : len ≤ m := by rw [hmm]; split <;> omega
    have hx' : ∀ i, i < len → ∃ y : α, ok y ∧ ∀ j, j < sz → W.cell? ((a.add (i * sz)).add j) = (cells y)[j]? := fun i hi => by
      obtain ⟨cs', g1, g2⟩ := hx i (Nat.lt_of_lt_of_le hi hle)
      rw [hs] at g1
      obtain ⟨_, k1, k2⟩ := World.cells?_some g1
      obtain ⟨y, rfl, hy⟩ := el _ _ _ k1 g2
      exact ⟨y, hy, k2⟩
    obtain ⟨f, hf⟩ := choose_lt hx'
    refine ⟨(List.range len).map f, ?_, by simp; omega, fun y hy => ?_⟩
    rotate_left
    · simp only [List.mem_map, List.mem_range] at hy
      obtain ⟨i, hi, rfl⟩ := hy
      exact (hf i hi).1
    simp only [List.length_map, List.length_range]
    have hcell : ∀ k u, (((List.range len).map f).flatMap cells)[k]? = some u → W.cell? (a.add k) = some u := by
      have : ∀ (len' : Nat), len' ≤ len → ∀ k u, (((List.range len').map f).flatMap cells)[k]? = some u → W.cell? (a.add k) = some u := by
        intro len'
        induction len' with
        | zero => intro _ k u hk; simp at hk
        | succ l ih =>
          intro hll k u hk
          have hlen : (((List.range l).map f).flatMap cells).length = l * sz := by
            rw [flat_length cells sz hcl]; simp
          rw [List.range_succ, List.map_append, List.flatMap_append] at hk
          by_cases hkl : k < l * sz
          · rw [List.getElem?_append_left (by omega)] at hk
            exact ih (by omega) k u hk
          · rw [List.getElem?_append_right (by omega), hlen] at hk
            have hk' : (cells (f l))[k - l * sz]? = some u := by simpa using hk
            have hlt : k - l * sz < sz := by
              have h3 := hcl (f l)
              cases Nat.lt_or_ge (k - l * sz) sz with
              | inl h => exact h
              | inr h => rw [List.getElem?_eq_none (by omega)] at hk'; cases hk'
            have := (hf l (by omega)).2 _ hlt
            rw [hk', add_add] at this
            rw [← this]; congr 2; omega
      exact fun k u h => this len (Nat.le_refl _) k u h
    refine ⟨some a, cap, rfl, ⟨by simp, hl⟩, fun hne => ?_, fun b off j u e hj => ?_⟩
    · cases hxs : ((List.range len).map f).flatMap cells with
      | nil => exact absurd hxs hne
      | cons c cs =>
        have h3 := hcell 0 c (by rw [hxs]; rfl)
        obtain ⟨b, off, sp⟩ := a
        cases sp with
        | none => exact ⟨b, off, rfl⟩
        | some s =>
          simp only [Addr.add, if_true, World.cell?] at h3
          split at h3 <;> simp at h3
    · cases e
      have := hcell j u hj
      simp only [Addr.add] at this
      split at this
      · next h0 => subst h0; simpa using this
      · exact this

theorem open_int64s {f0 f1 : Field} {e : TypeId} (he : P.underlying e = some (.struct #[f0, f1])) (o0 : f0.offset = 0) (o1 : f1.offset = 1) (e0 : P.underlying f0.type = some (.int .i64)) (e1 : P.underlying f1.type = some (.int .i64))
    (c0 : P.cellsOf f0.type = 1) (c1 : P.cellsOf f1.type = 1) (n : Nat) (cs : List Value) (z : DataW H × List MemPlace) (hl : cs.length = 2) (h : DataW.trod enc P W base spare held n e cs = some z) :
    ∃ y : Int × Int, cs = [.int .i64 y.1, .int .i64 y.2] ∧ ((Lit.int .i64 y.1).wf = true ∧ (Lit.int .i64 y.2).wf = true) := by
  obtain ⟨y0, y1, m, -, -, h0, h1⟩ := trod_struct2 he h
  rw [o0, c0] at h0
  rw [o1, c1] at h1
  match cs, hl with
  | [u0, u1], _ =>
    obtain ⟨n0, g0, -, w0⟩ := DataW.trod_int e0 h0
    obtain ⟨n1, g1, -, w1⟩ := DataW.trod_int e1 h1
    simp at g0 g1
    subst g0; subst g1
    exact ⟨(n0, n1), rfl, w0, w1⟩
end

end Go.Proofs.YtpcikbloflpahaaDoor
