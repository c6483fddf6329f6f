/-
  What arguments read as, opened: slices of whatever elements, as 'Sl' says it.
-/
import Derived.Test.YtoajnmbbgbpbgaaGreatZA
import Derived.Test.YtoajnmbbgbpbgaaGreatRows
import Derived.WalkKit
import Derived.ProofKit
import Derived.OpenShut
import Derived.ShutString
import Derived.ChangeOld
import Derived.Below
import Derived.Deep.Slices
import Derived.Test.YtoajnmbbgbpbgaaGreatZB
import Derived.SizedLaws
import Derived.Test.YtoajnmbbgbpbgaaGreatZC
import Derived.Stop.BytesEq
import Derived.Deep.DeepCutAuto
import Derived.Deep.CutBlock
import Derived.Deep.AppendLies
import Derived.Deep.RegionLaw
namespace Go.Proofs.YtoajnmbbgbpbgaaGreat
set_option linter.unusedVariables false
set_option linter.unusedSimpArgs false
open Go.RowKit Go.Deep Go.ChangeShapes Go.WideShapes

section
variable {H : Type} {enc : TypeId × Value → H} {P : Program} {W : World} {base : Nat} {spare : Nat → Bool} {held : Bool}

theorem flat_length {α : Type} (cells : α → List Value) (sz : Nat) (hcl : ∀ y, (cells y).length = sz) (l : List α) : (l.flatMap cells).length = l.length * sz := by
  induction l with
  | nil => simp
  | cons y l ih => rw [List.flatMap_cons, List.length_append, ih, hcl, List.length_cons, Nat.succ_mul]; omega

/-- A slice opened: its elements, each as 'cells' has it, each with what its reading tells ('ok'). -/
theorem sl_open {α : Type} [Inhabited α] {t e : TypeId} {sz fuel : Nat} {v : Value} {x : DataW H × List MemPlace} (cells : α → List Value) (ok : α → Prop)
    (ht : P.underlying t = some (.slice e)) (hs : P.cellsOf e = sz) (hp : 0 < sz) (hcl : ∀ y, (cells y).length = sz)
    (el : ∀ n cs z, cs.length = sz → DataW.trod enc P W base spare held n e cs = some z → ∃ y, cs = cells y ∧ ok y)
    (h : DataW.trod enc P W base spare held fuel t [v] = some x) :
    ∃ xs : List α, Sl W v xs.length (xs.flatMap cells) ∧ xs.length ≤ maxLen ∧ ∀ y ∈ xs, ok y := by
  rcases open_slice ht h with ⟨h1, -⟩ | ⟨a, len, cap, m, n, D, Pl, h1, hb, hl, hm, hmm, -, hx⟩
  · cases h1; exact ⟨[], Sl.nil W, by simp, by simp⟩
  · cases h1
    have hle : len ≤ m := by rw [hmm]; split <;> omega
    have hx' : ∀ i, i < len → ∃ y : α, ok y ∧ ∀ j, j < sz → W.cell? ((a.add (i * sz)).add j) = (cells y)[j]? := fun i hi => by
      obtain ⟨cs', g1, g2⟩ := hx i (Nat.lt_of_lt_of_le hi hle)
      rw [hs] at g1
      obtain ⟨_, k1, k2⟩ := World.cells?_some g1
      obtain ⟨y, rfl, hy⟩ := el _ _ _ k1 g2
      exact ⟨y, hy, k2⟩
    obtain ⟨f, hf⟩ := choose_lt hx'
    refine ⟨(List.range len).map f, ?_, by simp; omega, fun y hy => ?_⟩
    rotate_left
    · simp only [List.mem_map, List.mem_range] at hy
      obtain ⟨i, hi, rfl⟩ := hy
      exact (hf i hi).1
    simp only [List.length_map, List.length_range]
    have hcell : ∀ k u, (((List.range len).map f).flatMap cells)[k]? = some u → W.cell? (a.add k) = some u := by
      have : ∀ (len' : Nat), len' ≤ len → ∀ k u, (((List.range len').map f).flatMap cells)[k]? = some u → W.cell? (a.add k) = some u := by
        intro len'
        induction len' with
        | zero => intro _ k u hk; simp at hk
        | succ l ih =>
          intro hll k u hk
          have hlen : (((List.range l).map f).flatMap cells).length = l * sz := by
            rw [flat_length cells sz hcl]; simp
          rw [List.range_succ, List.map_append, List.flatMap_append] at hk
          by_cases hkl : k < l * sz
          · rw [List.getElem?_append_left (by omega)] at hk
            exact ih (by omega) k u hk
          · rw [List.getElem?_append_right (by omega), hlen] at hk
            have hk' : (cells (f l))[k - l * sz]? = some u := by simpa using hk
            have hlt : k - l * sz < sz := by
              have h3 := hcl (f l)
              cases Nat.lt_or_ge (k - l * sz) sz with
              | inl h => exact h
              | inr h => rw [List.getElem?_eq_none (by omega)] at hk'; cases hk'
            have := (hf l (by omega)).2 _ hlt
            rw [hk', add_add] at this
            rw [← this]; congr 2; omega
      exact fun k u h => this len (Nat.le_refl _) k u h
    refine ⟨some a, cap, rfl, ⟨by simp, hl⟩, fun hne => ?_, fun b off j u e hj => ?_⟩
    · cases hxs : ((List.range len).map f).flatMap cells with
      | nil => exact absurd hxs hne
      | cons c cs =>
        have h3 := hcell 0 c (by rw [hxs]; rfl)
        obtain ⟨b, off, sp⟩ := a
        cases sp with
        | none => exact ⟨b, off, rfl⟩
        | some s =>
          simp only [Addr.add, if_true, World.cell?] at h3
          split at h3 <;> simp at h3
    · cases e
      have := hcell j u hj
      simp only [Addr.add] at this
      split at this
      · next h0 => subst h0; simpa using this
      · exact this

theorem open_int64s {f0 f1 : Field} {e : TypeId} (he : P.underlying e = some (.struct #[f0, f1])) (o0 : f0.offset = 0) (o1 : f1.offset = 1) (e0 : P.underlying f0.type = some (.int .i64)) (e1 : P.underlying f1.type = some (.int .i64))
    (c0 : P.cellsOf f0.type = 1) (c1 : P.cellsOf f1.type = 1) (n : Nat) (cs : List Value) (z : DataW H × List MemPlace) (hl : cs.length = 2) (h : DataW.trod enc P W base spare held n e cs = some z) :
    ∃ y : Int × Int, cs = [.int .i64 y.1, .int .i64 y.2] ∧ ((Lit.int .i64 y.1).wf = true ∧ (Lit.int .i64 y.2).wf = true) := by
  obtain ⟨y0, y1, m, -, -, h0, h1⟩ := trod_struct2 he h
  rw [o0, c0] at h0
  rw [o1, c1] at h1
  match cs, hl with
  | [u0, u1], _ =>
    obtain ⟨n0, g0, -, w0⟩ := DataW.trod_int e0 h0
    obtain ⟨n1, g1, -, w1⟩ := DataW.trod_int e1 h1
    simp at g0 g1
    subst g0; subst g1
    exact ⟨(n0, n1), rfl, w0, w1⟩
end

end Go.Proofs.YtoajnmbbgbpbgaaGreat
namespace Go.Proofs.YtoajnmbbgbpbgaaGreat
set_option linter.unusedVariables false
set_option linter.unusedSimpArgs false
open Go.RowKit Go.Deep Go.ChangeShapes Go.WideShapes

section
variable {H : Type} {enc : TypeId × Value → H} {P : Program} {W : World} {base : Nat} {spare : Nat → Bool} {held : Bool}

theorem open_sni {t : TypeId} {f0 f1 f2 : Field} {r : Reach} {b0 : Nat} {v : Value} {d : DataW H} {ps : List MemPlace} (Q : Value → Prop) (ht : P.underlying t = some (.struct #[f0, f1, f2])) (hc : P.cellsOf t = 3)
    (o0 : f0.offset = 0) (o1 : f1.offset = 1) (o2 : f2.offset = 2) (c0 : P.cellsOf f0.type = 1) (c1 : P.cellsOf f1.type = 1) (c2 : P.cellsOf f2.type = 1)
    (u0 : P.underlying f0.type = some .string) (u1 : P.underlying f1.type = some (.int .i64))
    (hQ : ∀ fuel u x, DataW.trod enc P W base spare held fuel f2.type [u] = some x → Q u)
    (hval : Value.okWide P W r b0 t v) (h : DataW.Trod enc P W base spare held t v d ps) :
    ∃ (s : ByteArray) (n : Int) (u : Value), v = .agg #[.string s, .int .i64 n, u] ∧ s.size ≤ maxLen ∧ (Lit.int .i64 n).wf = true ∧ Q u := by
  obtain ⟨cs, rfl, hsz⟩ := okWide_struct ht hval
  rw [hc] at hsz
  obtain ⟨fuel, hf⟩ := h
  obtain ⟨xs, m, -, -, -, hxl, hall⟩ := DataW.trod_struct ht hf
  have hcs : cs = #[cs[0], cs[1], cs[2]] := by
    apply Array.ext
    · simp [hsz]
    · intro i h1 h2
      simp at h2
      match i, h2 with
      | 0, _ => rfl
      | 1, _ => rfl
      | 2, _ => rfl
  generalize cs[0] = y0 at hcs
  generalize cs[1] = y1 at hcs
  generalize cs[2] = y2 at hcs
  subst hcs
  match xs, hxl with
  | [z0, z1, z2], _ =>
    have a0 := hall 0 f0 rfl
    have a1 := hall 1 f1 rfl
    have a2 := hall 2 f2 rfl
    rw [o0, c0] at a0
    rw [o1, c1] at a1
    rw [o2, c2] at a2
    simp [Value.cells] at a0 a1 a2
    obtain ⟨s, g0, -, hs⟩ := DataW.trod_string u0 a0
    obtain ⟨n, g1, -, hn⟩ := DataW.trod_int u1 a1
    simp at g0 g1
    subst g0; subst g1
    exact ⟨s, n, y2, rfl, hs, hn, hQ _ _ _ a2⟩
end
end Go.Proofs.YtoajnmbbgbpbgaaGreat
namespace Go.Proofs.YtoajnmbbgbpbgaaGreat
set_option linter.unusedVariables false
set_option linter.unusedSimpArgs false
open Go.RowKit Go.Deep Go.ChangeShapes Go.WideShapes

section
variable {H : Type} {enc : TypeId × Value → H} {P : Program} {W : World} {base : Nat} {spare : Nat → Bool} {held : Bool}

theorem bys_flat (l : List Int) : l.flatMap (fun y => [Value.int .u8 y]) = bys l := by
  induction l with
  | nil => rfl
  | cons y l ih => rw [List.flatMap_cons, ih]; rfl
theorem sl_open_bytes {t e : TypeId} {fuel : Nat} {v : Value} {x : DataW H × List MemPlace} (ht : P.underlying t = some (.slice e)) (he : P.underlying e = some (.int .u8)) (hs : P.cellsOf e = 1)
    (h : DataW.trod enc P W base spare held fuel t [v] = some x) : ∃ xs : List Int, Sl W v xs.length (bys xs) ∧ xs.length ≤ maxLen ∧ ∀ y ∈ xs, 0 ≤ y ∧ y < 256 := by
  obtain ⟨xs, h1, h2, h3⟩ := sl_open (fun y : Int => [.int .u8 y]) (fun y => (Lit.int .u8 y).wf = true) ht hs (by decide) (fun _ => rfl) (fun n cs z hl hh => by
    match cs, hl with
    | [u0], _ =>
      obtain ⟨n0, g0, -, w0⟩ := DataW.trod_int he hh
      simp at g0
      subst g0
      exact ⟨n0, rfl, w0⟩) h
  rw [bys_flat] at h1
  exact ⟨xs, h1, h2, fun y hy => by have := bounds_u8 (h3 y hy); omega⟩
end
end Go.Proofs.YtoajnmbbgbpbgaaGreat
namespace Go.Proofs.YtoajnmbbgbpbgaaGreat
set_option linter.unusedVariables false
set_option linter.unusedSimpArgs false
open Go.RowKit Go.Deep Go.ChangeShapes Go.WideShapes

section
variable {H : Type} {enc : TypeId × Value → H} {P : Program} {W : World} {base : Nat} {spare : Nat → Bool} {held : Bool}

theorem open_nnnu {t : TypeId} {f0 f1 f2 f3 : Field} {r : Reach} {b0 : Nat} {v : Value} {d : DataW H} {ps : List MemPlace} (Q : Value → Prop) (ht : P.underlying t = some (.struct #[f0, f1, f2, f3])) (hc : P.cellsOf t = 4)
    (o0 : f0.offset = 0) (o1 : f1.offset = 1) (o2 : f2.offset = 2) (o3 : f3.offset = 3) (c0 : P.cellsOf f0.type = 1) (c1 : P.cellsOf f1.type = 1) (c2 : P.cellsOf f2.type = 1) (c3 : P.cellsOf f3.type = 1)
    (u0 : P.underlying f0.type = some (.int .i64)) (u1 : P.underlying f1.type = some (.int .i64)) (u2 : P.underlying f2.type = some (.int .i64))
    (hQ : ∀ fuel u x, DataW.trod enc P W base spare held fuel f3.type [u] = some x → Q u)
    (hval : Value.okWide P W r b0 t v) (h : DataW.Trod enc P W base spare held t v d ps) :
    ∃ (k a n : Int) (u : Value), v = .agg #[.int .i64 k, .int .i64 a, .int .i64 n, u] ∧ (Lit.int .i64 k).wf = true ∧ (Lit.int .i64 a).wf = true ∧ (Lit.int .i64 n).wf = true ∧ Q u := by
  obtain ⟨cs, rfl, hsz⟩ := okWide_struct ht hval
  rw [hc] at hsz
  obtain ⟨fuel, hf⟩ := h
  obtain ⟨xs, m, -, -, -, hxl, hall⟩ := DataW.trod_struct ht hf
  have hcs : cs = #[cs[0], cs[1], cs[2], cs[3]] := by
    apply Array.ext
    · simp [hsz]
    · intro i h1 h2
      simp at h2
      match i, h2 with
      | 0, _ => rfl
      | 1, _ => rfl
      | 2, _ => rfl
      | 3, _ => rfl
  generalize cs[0] = y0 at hcs
  generalize cs[1] = y1 at hcs
  generalize cs[2] = y2 at hcs
  generalize cs[3] = y3 at hcs
  subst hcs
  match xs, hxl with
  | [z0, z1, z2, z3], _ =>
    have a0 := hall 0 f0 rfl
    have a1 := hall 1 f1 rfl
    have a2 := hall 2 f2 rfl
    have a3 := hall 3 f3 rfl
    rw [o0, c0] at a0
    rw [o1, c1] at a1
    rw [o2, c2] at a2
    rw [o3, c3] at a3
    simp [Value.cells] at a0 a1 a2 a3
    obtain ⟨k, g0, -, hk⟩ := DataW.trod_int u0 a0
    obtain ⟨a, g1, -, ha⟩ := DataW.trod_int u1 a1
    obtain ⟨n, g2, -, hn⟩ := DataW.trod_int u2 a2
    simp at g0 g1 g2
    subst g0; subst g1; subst g2
    exact ⟨k, a, n, y3, rfl, hk, ha, hn, hQ _ _ _ a3⟩
end
end Go.Proofs.YtoajnmbbgbpbgaaGreat
namespace Go.Proofs.YtoajnmbbgbpbgaaGreat
set_option linter.unusedVariables false
set_option linter.unusedSimpArgs false
open Go.RowKit Go.Deep Go.ChangeShapes Go.WideShapes

/-- All that a reading holds is within the form's own reach. -/
def Light {H : Type} (P : Program) (t : TypeId) (d : DataW H) : Prop := ∀ n ∈ DataW.weights P t d, n ≤ reachBytes
theorem weightsAll_mem {H : Type} {P : Program} {e : TypeId} {d : DataW H} {n : Nat} : ∀ {l : List (DataW H)}, d ∈ l → n ∈ DataW.weights P e d → n ∈ DataW.weightsAll P e l
  | x :: l, hd, hn => by
    simp only [DataW.weightsAll, List.mem_append]
    rcases List.mem_cons.1 hd with rfl | h
    · exact .inl hn
    · exact .inr (weightsAll_mem h hn)
theorem Light.elem {H : Type} {P : Program} {t e : TypeId} {elems spare : List (DataW H)} (ht : P.underlying t = some (.slice e)) (h : Light P t (.slice elems spare)) {d : DataW H} (hd : d ∈ elems) : Light P e d := fun n hn => by
  apply h
  simp only [DataW.weights, ht, List.mem_cons, List.mem_append]
  exact .inr (.inl (weightsAll_mem hd hn))
theorem Light.len {H : Type} {P : Program} {t e : TypeId} {elems spare : List (DataW H)} (ht : P.underlying t = some (.slice e)) (h : Light P t (.slice elems spare)) : elems.length * P.bytesOf e ≤ reachBytes := by
  have := h ((elems.length + spare.length) * P.bytesOf e) (by simp [DataW.weights, ht])
  rw [Nat.add_mul] at this
  omega
theorem Light.part {H : Type} {P : Program} {t : TypeId} {fs : Array Field} {parts : List (DataW H)} (ht : P.underlying t = some (.struct fs)) (h : Light P t (.agg parts)) {j : Nat} {f : Field} {d : DataW H} (hf : fs[j]? = some f) (hd : parts[j]? = some d) : Light P f.type d := fun n hn => by
  apply h
  simp only [DataW.weights, ht]
  exact DataW.weights_mem_each (ts := fs.toList.map (·.type)) (j := j) (by simp [hf]) hd n hn
theorem Light.str {H : Type} {P : Program} {t : TypeId} {s : ByteArray} (h : Light (H := H) P t (.lit (.string s.data.toList))) : s.size ≤ reachBytes := by
  have := h s.data.toList.length (by simp [DataW.weights])
  simpa using this
theorem light_all {H : Type} {P : Program} {ts : List TypeId} {ds : List (DataW H)} (h : (DataW.weightsEach P ts ds).all (· ≤ reachBytes) = true) {j : Nat} {t : TypeId} {d : DataW H} (ht : ts[j]? = some t) (hd : ds[j]? = some d) : Light P t d := fun n hn => by
  have := List.all_eq_true.1 h _ (DataW.weights_mem_each ht hd n hn)
  simpa using this

section
variable {H : Type} {enc : TypeId × Value → H} {P : Program} {W : World} {base : Nat} {spare : Nat → Bool} {held : Bool}

/-- A slice opened, its size bounded. -/
theorem sl_open_w {α : Type} [Inhabited α] {t e : TypeId} {sz fuel : Nat} {v : Value} {x : DataW H × List MemPlace} (cells : α → List Value) (ok : α → Prop)
    (ht : P.underlying t = some (.slice e)) (hs : P.cellsOf e = sz) (hp : 0 < sz) (hcl : ∀ y, (cells y).length = sz)
    (el : ∀ n cs z, cs.length = sz → DataW.trod enc P W base spare held n e cs = some z → Light P e z.1 → ∃ y, cs = cells y ∧ ok y)
    (h : DataW.trod enc P W base spare held fuel t [v] = some x) (hw : Light P t x.1) :
    ∃ xs : List α, Sl W v xs.length (xs.flatMap cells) ∧ xs.length * P.bytesOf e ≤ reachBytes ∧ xs.length ≤ maxLen ∧ ∀ y ∈ xs, ok y := by
  rcases open_slice ht h with ⟨h1, -⟩ | ⟨a, len, cap, m, n, D, Pl, h1, hb, hl, hm, hmm, hxe, hx⟩
  · cases h1; exact ⟨[], Sl.nil W, by simp, by simp, by simp⟩
  · cases h1
    subst hxe
    have hwl := hw.len ht
    rw [List.length_map, List.length_range] at hwl
    have hle : len ≤ m := by rw [hmm]; split <;> omega
    have hx' : ∀ i, i < len → ∃ y : α, ok y ∧ ∀ j, j < sz → W.cell? ((a.add (i * sz)).add j) = (cells y)[j]? := fun i hi => by
      obtain ⟨cs', g1, g2⟩ := hx i (Nat.lt_of_lt_of_le hi hle)
      rw [hs] at g1
      obtain ⟨_, k1, k2⟩ := World.cells?_some g1
      obtain ⟨y, rfl, hy⟩ := el _ _ _ k1 g2 (hw.elem ht (List.mem_map_of_mem (by simpa using hi)))
      exact ⟨y, hy, k2⟩
    obtain ⟨f, hf⟩ := choose_lt hx'
    refine ⟨(List.range len).map f, ?_, by simpa using hwl, by simp; omega, fun y hy => ?_⟩
    rotate_left
    · simp only [List.mem_map, List.mem_range] at hy
      obtain ⟨i, hi, rfl⟩ := hy
      exact (hf i hi).1
    simp only [List.length_map, List.length_range]
    have hcell : ∀ k u, (((List.range len).map f).flatMap cells)[k]? = some u → W.cell? (a.add k) = some u := by
      have : ∀ (len' : Nat), len' ≤ len → ∀ k u, (((List.range len').map f).flatMap cells)[k]? = some u → W.cell? (a.add k) = some u := by
        intro len'
        induction len' with
        | zero => intro _ k u hk; simp at hk
        | succ l ih =>
          intro hll k u hk
          have hlen : (((List.range l).map f).flatMap cells).length = l * sz := by
            rw [flat_length cells sz hcl]; simp
          rw [List.range_succ, List.map_append, List.flatMap_append] at hk
          by_cases hkl : k < l * sz
          · rw [List.getElem?_append_left (by omega)] at hk
            exact ih (by omega) k u hk
          · rw [List.getElem?_append_right (by omega), hlen] at hk
            have hk' : (cells (f l))[k - l * sz]? = some u := by simpa using hk
            have hlt : k - l * sz < sz := by
              have h3 := hcl (f l)
              cases Nat.lt_or_ge (k - l * sz) sz with
              | inl h => exact h
              | inr h => rw [List.getElem?_eq_none (by omega)] at hk'; cases hk'
            have := (hf l (by omega)).2 _ hlt
            rw [hk', add_add] at this
            rw [← this]; congr 2; omega
      exact fun k u h => this len (Nat.le_refl _) k u h
    refine ⟨some a, cap, rfl, ⟨by simp, hl⟩, fun hne => ?_, fun b off j u e hj => ?_⟩
    · cases hxs : ((List.range len).map f).flatMap cells with
      | nil => exact absurd hxs hne
      | cons c cs =>
        have h3 := hcell 0 c (by rw [hxs]; rfl)
        obtain ⟨b, off, sp⟩ := a
        cases sp with
        | none => exact ⟨b, off, rfl⟩
        | some s =>
          simp only [Addr.add, if_true, World.cell?] at h3
          split at h3 <;> simp at h3
    · cases e
      have := hcell j u hj
      simp only [Addr.add] at this
      split at this
      · next h0 => subst h0; simpa using this
      · exact this

theorem sl_open_bytes_w {t e : TypeId} {fuel : Nat} {v : Value} {x : DataW H × List MemPlace} (ht : P.underlying t = some (.slice e)) (he : P.underlying e = some (.int .u8)) (hs : P.cellsOf e = 1) (hb : P.bytesOf e = 1)
    (h : DataW.trod enc P W base spare held fuel t [v] = some x) (hw : Light P t x.1) : ∃ xs : List Int, Sl W v xs.length (bys xs) ∧ xs.length ≤ reachBytes ∧ ∀ y ∈ xs, 0 ≤ y ∧ y < 256 := by
  obtain ⟨xs, h1, h2, -, h3⟩ := sl_open_w (sz := 1) (fun y : Int => [Value.int .u8 y]) (fun y => 0 ≤ y ∧ y < 256) ht hs (by decide) (fun _ => rfl) (fun n cs z hl hf _ => by
    obtain ⟨m, g, -, w⟩ := DataW.trod_int he hf
    exact ⟨m, g, by have := bounds_u8 w; omega⟩) h hw
  rw [hb, Nat.mul_one] at h2
  rw [bys_flat] at h1
  exact ⟨xs, h1, h2, h3⟩

/-- A call of chapter 12: what is done, two names, an inode, a place, a number, bytes. -/
abbrev ActF := Int × ByteArray × ByteArray × Int × Int × Int × Option Addr × Nat × Nat
def actFCell (y : ActF) : List Value := [.int .i64 y.1, .string y.2.1, .string y.2.2.1, .int .i64 y.2.2.2.1, .int .i64 y.2.2.2.2.1, .int .i64 y.2.2.2.2.2.1, .slice y.2.2.2.2.2.2.1 y.2.2.2.2.2.2.2.1 y.2.2.2.2.2.2.2.2]
def actFOk (W : World) (y : ActF) : Prop := (Lit.int .i64 y.1).wf = true ∧ y.2.1.size ≤ reachBytes ∧ y.2.2.1.size ≤ reachBytes ∧ (Lit.int .i64 y.2.2.2.1).wf = true ∧ (Lit.int .i64 y.2.2.2.2.1).wf = true ∧ (Lit.int .i64 y.2.2.2.2.2.1).wf = true ∧
  ∃ xs : List Int, Sl W (.slice y.2.2.2.2.2.2.1 y.2.2.2.2.2.2.2.1 y.2.2.2.2.2.2.2.2) xs.length (bys xs) ∧ xs.length ≤ reachBytes ∧ ∀ b ∈ xs, 0 ≤ b ∧ b < 256
theorem open_actsF {t e tb tu : TypeId} {f0 f1 f2 f3 f4 f5 f6 : Field} {fuel : Nat} {v : Value} {x : DataW H × List MemPlace} (ht : P.underlying t = some (.slice e)) (he : P.underlying e = some (.struct #[f0, f1, f2, f3, f4, f5, f6])) (hc : P.cellsOf e = 7)
    (ho : #[f0, f1, f2, f3, f4, f5, f6].map (·.offset) = #[0, 1, 2, 3, 4, 5, 6]) (hcs : #[f0, f1, f2, f3, f4, f5, f6].map (fun f => P.cellsOf f.type) = #[1, 1, 1, 1, 1, 1, 1])
    (hu : #[f0, f1, f2, f3, f4, f5, f6].map (fun f => P.underlying f.type) = #[some (.int .i64), some .string, some .string, some (.int .i64), some (.int .i64), some (.int .i64), some (.slice tu)])
    (ub : P.underlying tu = some (.int .u8)) (cb : P.cellsOf tu = 1) (bb : P.bytesOf tu = 1)
    (h : DataW.trod enc P W base spare held fuel t [v] = some x) (hw : Light P t x.1) : ∃ L : List ActF, Sl W v L.length (L.flatMap actFCell) ∧ L.length ≤ maxLen ∧ ∀ y ∈ L, actFOk W y := by
  obtain ⟨L, h1, -, h2, h3⟩ := sl_open_w (sz := 7) actFCell (actFOk W) ht hc (by decide) (fun _ => rfl) (fun n cs z hl hf hz => by
    obtain ⟨xs, m, -, hze, -, hxl, hall⟩ := DataW.trod_struct he hf
    match cs, hl with
    | [y0, y1, y2, y3, y4, y5, y6], _ =>
      match xs, hxl with
      | [z0, z1, z2, z3, z4, z5, z6], _ =>
        subst hze
        have a0 := hall 0 f0 rfl
        have a1 := hall 1 f1 rfl
        have a2 := hall 2 f2 rfl
        have a3 := hall 3 f3 rfl
        have a4 := hall 4 f4 rfl
        have a5 := hall 5 f5 rfl
        have a6 := hall 6 f6 rfl
        simp at ho hcs hu
        obtain ⟨o0, o1, o2, o3, o4, o5, o6⟩ := ho
        obtain ⟨c0, c1, c2, c3, c4, c5, c6⟩ := hcs
        obtain ⟨u0, u1, u2, u3, u4, u5, u6⟩ := hu
        rw [o0, c0] at a0
        rw [o1, c1] at a1
        rw [o2, c2] at a2
        rw [o3, c3] at a3
        rw [o4, c4] at a4
        rw [o5, c5] at a5
        rw [o6, c6] at a6
        simp at a0 a1 a2 a3 a4 a5 a6
        obtain ⟨k0, g0, -, w0⟩ := DataW.trod_int u0 a0
        obtain ⟨s1, g1, e1, -⟩ := DataW.trod_string u1 a1
        obtain ⟨s2, g2, e2, -⟩ := DataW.trod_string u2 a2
        obtain ⟨k3, g3, -, w3⟩ := DataW.trod_int u3 a3
        obtain ⟨k4, g4, -, w4⟩ := DataW.trod_int u4 a4
        obtain ⟨k5, g5, -, w5⟩ := DataW.trod_int u5 a5
        simp at g0 g1 g2 g3 g4 g5
        subst g0; subst g1; subst g2; subst g3; subst g4; subst g5
        have l1 := hz.part he (j := 1) rfl rfl
        have l2 := hz.part he (j := 2) rfl rfl
        have l6 := hz.part he (j := 6) rfl rfl
        rw [e1] at l1
        rw [e2] at l2
        obtain ⟨bs, hs, hb1, hb2⟩ := sl_open_bytes_w u6 ub cb bb a6 l6
        obtain ⟨au, cu, e, hs'⟩ := id hs
        subst e
        exact ⟨(k0, s1, s2, k3, k4, k5, au, bs.length, cu), rfl, w0, l1.str, l2.str, w3, w4, w5, bs, hs, hb1, hb2⟩) h hw
  exact ⟨L, h1, h2, h3⟩

theorem open_actF {t tu : TypeId} {f0 f1 f2 f3 f4 f5 f6 : Field} {r : Reach} {b0 : Nat} {v : Value} {d : DataW H} {ps : List MemPlace} (ht : P.underlying t = some (.struct #[f0, f1, f2, f3, f4, f5, f6])) (hc : P.cellsOf t = 7)
    (ho : #[f0, f1, f2, f3, f4, f5, f6].map (·.offset) = #[0, 1, 2, 3, 4, 5, 6]) (hcs : #[f0, f1, f2, f3, f4, f5, f6].map (fun f => P.cellsOf f.type) = #[1, 1, 1, 1, 1, 1, 1])
    (hu : #[f0, f1, f2, f3, f4, f5, f6].map (fun f => P.underlying f.type) = #[some (.int .i64), some .string, some .string, some (.int .i64), some (.int .i64), some (.int .i64), some (.slice tu)])
    (ub : P.underlying tu = some (.int .u8)) (cb : P.cellsOf tu = 1)
    (hval : Value.okWide P W r b0 t v) (h : DataW.Trod enc P W base spare held t v d ps) : ∃ y : ActF, v = .agg (actFCell y).toArray := by
  obtain ⟨cs, rfl, hsz⟩ := okWide_struct ht hval
  rw [hc] at hsz
  obtain ⟨fuel, hf⟩ := h
  obtain ⟨xs, m, -, -, -, hxl, hall⟩ := DataW.trod_struct ht hf
  obtain ⟨cl⟩ := cs
  match cl, hsz with
  | [y0, y1, y2, y3, y4, y5, y6], _ =>
    match xs, hxl with
    | [z0, z1, z2, z3, z4, z5, z6], _ =>
      have a0 := hall 0 f0 rfl
      have a1 := hall 1 f1 rfl
      have a2 := hall 2 f2 rfl
      have a3 := hall 3 f3 rfl
      have a4 := hall 4 f4 rfl
      have a5 := hall 5 f5 rfl
      have a6 := hall 6 f6 rfl
      simp at ho hcs hu
      obtain ⟨o0, o1, o2, o3, o4, o5, o6⟩ := ho
      obtain ⟨c0, c1, c2, c3, c4, c5, c6⟩ := hcs
      obtain ⟨u0, u1, u2, u3, u4, u5, u6⟩ := hu
      rw [o0, c0] at a0
      rw [o1, c1] at a1
      rw [o2, c2] at a2
      rw [o3, c3] at a3
      rw [o4, c4] at a4
      rw [o5, c5] at a5
      rw [o6, c6] at a6
      simp [Value.cells] at a0 a1 a2 a3 a4 a5 a6
      obtain ⟨k0, g0, -, w0⟩ := DataW.trod_int u0 a0
      obtain ⟨s1, g1, e1, -⟩ := DataW.trod_string u1 a1
      obtain ⟨s2, g2, e2, -⟩ := DataW.trod_string u2 a2
      obtain ⟨k3, g3, -, w3⟩ := DataW.trod_int u3 a3
      obtain ⟨k4, g4, -, w4⟩ := DataW.trod_int u4 a4
      obtain ⟨k5, g5, -, w5⟩ := DataW.trod_int u5 a5
      simp at g0 g1 g2 g3 g4 g5
      subst g0; subst g1; subst g2; subst g3; subst g4; subst g5
      obtain ⟨bs, hs, hb1, hb2⟩ := sl_open_bytes u6 ub cb a6
      obtain ⟨au, cu, e, hs'⟩ := id hs
      subst e
      exact ⟨(k0, s1, s2, k3, k4, k5, au, bs.length, cu), rfl⟩
end
end Go.Proofs.YtoajnmbbgbpbgaaGreat
namespace Go.Proofs.YtoajnmbbgbpbgaaGreat
set_option linter.unusedVariables false
set_option linter.unusedSimpArgs false
open Go.RowKit Go.Shelf

theorem wraps_u64 (n : Int) (h₀ : 0 ≤ n) (h₁ : n < 2 ^ 64) : IntKind.u64.wrap n = n := by rw [IntKind.wrap_u64]; omega
theorem or_u64 (a b : Nat) (ha : a < 2 ^ 64) (hb : b < 2 ^ 64) : bits .or .u64 a b = ((a ||| b : Nat) : Int) :=
  (bits_nat .u64 64 (by decide) wraps_u64 a b ha hb).2
theorem getD_range (l : List Int) (h0 : ∀ b ∈ l, 0 ≤ b ∧ b < 256) (i : Nat) : 0 ≤ l.getD i 0 ∧ l.getD i 0 < 256 := by
  by_cases h : i < l.length
  · rw [List.getD_eq_getElem?_getD, List.getElem?_eq_getElem h, Option.getD_some]; exact h0 _ (List.getElem_mem h)
  · rw [List.getD_eq_getElem?_getD, List.getElem?_eq_none (by omega), Option.getD_none]; omega
/-- The number of k bytes, as a sum. -/
def sumL (l : List Int) (at_ : Nat) : Nat → Nat
  | 0 => 0
  | k + 1 => sumL l at_ k + (l.getD (at_ + k) 0).toNat * 2 ^ (8 * k)
theorem sumL_lt (l : List Int) (h0 : ∀ b ∈ l, 0 ≤ b ∧ b < 256) (at_ k : Nat) : sumL l at_ k < 2 ^ (8 * k) := by
  induction k with
  | zero => simp [sumL]
  | succ k ih =>
    have h := getD_range l h0 (at_ + k)
    have h2 : (l.getD (at_ + k) 0).toNat ≤ 255 := by omega
    have h3 : (l.getD (at_ + k) 0).toNat * 2 ^ (8 * k) ≤ 255 * 2 ^ (8 * k) := Nat.mul_le_mul_right _ h2
    have h4 : 2 ^ (8 * (k + 1)) = 256 * 2 ^ (8 * k) := by rw [Nat.mul_add, Nat.pow_add]; omega
    rw [sumL, h4]; omega
theorem numL_sum (l : List Int) (h0 : ∀ b ∈ l, 0 ≤ b ∧ b < 256) (at_ k : Nat) (hk : k ≤ 8) : numL l at_ k = (sumL l at_ k : Int) := by
  induction k with
  | zero => rfl
  | succ k ih =>
    have h := getD_range l h0 (at_ + k)
    have h1 := sumL_lt l h0 at_ k
    have h5 := sumL_lt l h0 at_ (k + 1)
    rw [sumL] at h5
    have h6 : 2 ^ (8 * (k + 1)) ≤ 2 ^ 64 := Nat.pow_le_pow_right (by decide) (by omega)
    have h7 : 2 ^ (8 * k) ≤ 2 ^ 64 := Nat.pow_le_pow_right (by decide) (by omega)
    rw [numL, ih (by omega), sumL]
    obtain ⟨x, hx⟩ : ∃ x : Nat, l.getD (at_ + k) 0 = x := ⟨(l.getD (at_ + k) 0).toNat, by omega⟩
    rw [hx] at h5 ⊢
    rw [Int.toNat_natCast] at h5 ⊢
    have e : ((x : Int) * 2 ^ (8 * k)) = ((x * 2 ^ (8 * k) : Nat) : Int) := by simp
    rw [e, wraps_u64 _ (by omega) (by exact_mod_cast (by omega : x * 2 ^ (8 * k) < 2 ^ 64)), or_u64 _ _ (by omega) (by omega)]
    have := Nat.shiftLeft_add_eq_or_of_lt h1 x
    rw [Nat.shiftLeft_eq] at this
    rw [Nat.or_comm, ← this, Nat.add_comm]
theorem putL_get (l : List Int) (at_ : Nat) (n : Int) (k j : Nat) (hj : j < k) (hl : at_ + k ≤ l.length) : (putL l at_ n k).getD (at_ + j) 0 = n / 2 ^ (8 * j) % 256 := by
  induction k with
  | zero => omega
  | succ k ih =>
    rw [putL, List.getD_eq_getElem?_getD, List.getElem?_set]
    by_cases e : j = k
    · subst e
      rw [if_pos rfl, if_pos (by rw [putL_length]; omega), Option.getD_some, IntKind.wrap_u8]
    · rw [if_neg (by omega), ← List.getD_eq_getElem?_getD, ih (by omega) (by omega)]
theorem putL_other (l : List Int) (at_ : Nat) (n : Int) (k j : Nat) (hj : j < at_ ∨ at_ + k ≤ j) : (putL l at_ n k).getD j 0 = l.getD j 0 := by
  induction k with
  | zero => rfl
  | succ k ih => rw [putL, List.getD_eq_getElem?_getD, List.getElem?_set, if_neg (by omega), ← List.getD_eq_getElem?_getD, ih (by omega)]
theorem putL_range (l : List Int) (at_ : Nat) (n : Int) (k : Nat) (h0 : ∀ b ∈ l, 0 ≤ b ∧ b < 256) : ∀ b ∈ putL l at_ n k, 0 ≤ b ∧ b < 256 := by
  induction k with
  | zero => exact h0
  | succ k ih =>
    intro b hb
    rw [putL] at hb
    rcases List.mem_or_eq_of_mem_set hb with h | h
    · exact ih b h
    · rw [h, IntKind.wrap_u8]; omega
theorem sumL_digits (l : List Int) (at_ n K : Nat) (hd : ∀ j, j < K → l.getD (at_ + j) 0 = (n : Int) / 2 ^ (8 * j) % 256) : ∀ k, k ≤ K → sumL l at_ k = n % 2 ^ (8 * k) := by
  intro k
  induction k with
  | zero => intro _; simp [sumL]; omega
  | succ k ih =>
    intro hk
    rw [sumL, ih (by omega), hd k (by omega)]
    have e : ((n : Int) / 2 ^ (8 * k) % 256) = ((n / 2 ^ (8 * k) % 256 : Nat) : Int) := by simp
    rw [e, Int.toNat_natCast]
    have h4 : 2 ^ (8 * (k + 1)) = 2 ^ (8 * k) * 256 := by rw [Nat.mul_add, Nat.pow_add]
    rw [h4, Nat.mod_mul, Nat.mul_comm (n / 2 ^ (8 * k) % 256)]
/-- A number laid down is read again. -/
theorem numL_putL (l : List Int) (at_ n K : Nat) (hK : K ≤ 8) (hl : at_ + K ≤ l.length) (h0 : ∀ b ∈ l, 0 ≤ b ∧ b < 256) (hn : n < 2 ^ (8 * K)) : numL (putL l at_ n K) at_ K = n := by
  rw [numL_sum _ (putL_range l at_ n K h0) _ _ hK, sumL_digits _ at_ n K (fun j hj => putL_get l at_ n K j hj hl) K (Nat.le_refl _), Nat.mod_eq_of_lt hn]

theorem spl_get (l : List Int) (o : Nat) (m : List Int) (j : Nat) (h : o ≤ l.length) : (spl l o m).getD j 0 = if j < o then l.getD j 0 else if j < o + m.length then m.getD (j - o) 0 else l.getD j 0 := by
  have ho : (l.take o).length = o := by simp; omega
  rw [spl, List.getD_eq_getElem?_getD, List.append_assoc, List.getElem?_append, ho]
  by_cases h1 : j < o
  · rw [if_pos h1, if_pos h1, List.getElem?_take, if_pos h1, List.getD_eq_getElem?_getD]
  · rw [if_neg h1, if_neg h1, List.getElem?_append]
    by_cases h2 : j < o + m.length
    · rw [if_pos (by omega), if_pos h2, List.getD_eq_getElem?_getD]
    · rw [if_neg (by omega), if_neg h2, List.getElem?_drop, List.getD_eq_getElem?_getD]
      congr 2; omega
theorem set_get (l : List Int) (i j : Nat) (x : Int) (h : i < l.length) : (l.set i x).getD j 0 = if j = i then x else l.getD j 0 := by
  rw [List.getD_eq_getElem?_getD, List.getElem?_set]
  by_cases e : i = j
  · rw [if_pos e, if_pos h, if_pos e.symm, Option.getD_some]
  · rw [if_neg e, if_neg (fun h => e h.symm), List.getD_eq_getElem?_getD]
theorem zs_get (n j : Nat) : (zs n).getD j 0 = 0 := by
  rw [List.getD_eq_getElem?_getD, zs, List.getElem?_replicate]; split <;> rfl

/-! ### An inode's bytes, place by place -/
theorem head_get (s : ByteArray) (n : Int) (hs : s.size ≤ 15) (j : Nat) : (encHead s n).getD j 0 =
    if j = 0 then (s.size : Int) else if j < 1 + s.size then (bytesOf s).getD (j - 1) 0 else if j = 16 then n % 256 else if j = 17 then n / 256 % 256 else 0 := by
  have h1 : ((spl (zs 64) 1 (bytesOf s)).set 0 s.size).length = 64 := by
    rw [List.length_set, spl_length _ _ _ (by rw [bytesOf_length, zs_length]; omega), zs_length]
  have h2 : (spl (zs 64) 1 (bytesOf s)).length = 64 := by have h3 := h1; rwa [List.length_set] at h3
  rw [encHead, spl_get _ _ _ _ (by omega), putL_length, zs_length, set_get _ _ _ _ (by omega), spl_get _ _ _ _ (by rw [zs_length]; omega), bytesOf_length, zs_get]
  by_cases e0 : j = 0
  · subst e0; simp
  · rw [if_neg e0, if_neg e0]
    by_cases e1 : j < 1 + s.size
    · rw [if_pos (by omega), if_neg (by omega), if_pos e1, if_pos e1]
    · rw [if_neg e1, if_neg e1]
      by_cases e2 : j = 16
      · subst e2
        have := putL_get (zs 2) 0 n 2 0 (by omega) (by rw [zs_length]; omega)
        simp at this
        simp [this]
      · by_cases e3 : j = 17
        · subst e3
          have := putL_get (zs 2) 0 n 2 1 (by omega) (by rw [zs_length]; omega)
          simp at this
          simp [this]
        · rw [if_neg e2, if_neg e3]
          split
          · split <;> rfl
          · rw [if_neg (by omega)]; split <;> rfl
theorem encN_lo (l : List Int) (xs : List (Int × Int)) (k j : Nat) (h : j < 18 ∨ 18 + 2 * k ≤ j) : (encN l xs k).getD j 0 = l.getD j 0 := by
  induction k with
  | zero => rfl
  | succ k ih =>
    rw [encN, List.getD_eq_getElem?_getD, List.getElem?_set, if_neg (by omega), List.getElem?_set, if_neg (by omega), ← List.getD_eq_getElem?_getD, ih (by omega)]
theorem encN_at (l : List Int) (xs : List (Int × Int)) (k i : Nat) (hi : i < k) (hl : 18 + 2 * k ≤ l.length) : (encN l xs k).getD (18 + 2 * i) 0 = (xs.getD i (0, 0)).1 % 256 ∧ (encN l xs k).getD (18 + 2 * i + 1) 0 = (xs.getD i (0, 0)).2 % 256 := by
  induction k with
  | zero => omega
  | succ k ih =>
    rw [encN, set_get _ _ _ _ (by simp only [List.length_set, encN_length]; omega), set_get _ _ _ _ (by simp only [List.length_set, encN_length]; omega), set_get _ _ _ _ (by simp only [List.length_set, encN_length]; omega), set_get _ _ _ _ (by simp only [List.length_set, encN_length]; omega)]
    by_cases e : i = k
    · subst e
      rw [if_neg (by omega), if_pos rfl, if_pos (by omega)]; exact ⟨rfl, rfl⟩
    · rw [if_neg (by omega), if_neg (by omega), if_neg (by omega), if_neg (by omega)]
      exact ih (by omega) (by omega)

/-- The extents that bytes tell, from place 18 + 2 * k on; so many are still to be looked at. -/
def extsF (l : List Int) : Nat → Nat → List (Int × Int)
  | 0, _ => []
  | d + 1, k => if l.getD (18 + 2 * k + 1) 0 = 0 then [] else (l.getD (18 + 2 * k) 0, l.getD (18 + 2 * k + 1) 0) :: extsF l d (k + 1)
theorem extsF_length (l : List Int) (d k : Nat) : (extsF l d k).length ≤ d := by
  induction d generalizing k with
  | zero => simp [extsF]
  | succ d ih => rw [extsF]; split
                 · simp
                 · have := ih (k + 1); simp; omega
/-- What bytes tell: a name, a size. -/
def nameOf (l : List Int) : ByteArray := strOfNums ((l.drop 1).take (l.getD 0 0).toNat)
def sizeOf' (l : List Int) : Int := numL l 16 2

theorem inoOk_fine {s : ByteArray} {n : Int} {xs : List (Int × Int)} (h : inoOk s n xs = true) : ∀ x ∈ xs, 9 ≤ x.1 ∧ 1 ≤ x.2 ∧ x.1 + x.2 ≤ 32 := by
  simp only [inoOk, Bool.and_eq_true, decide_eq_true_eq] at h
  have hk : okB (blkSeq (-1) xs) = true := h.1.2
  have hp := (of_decide_eq_true hk).1
  have key : ∀ (l : List (Int × Int)) (e : Int), (∀ b ∈ blkSeq e l, 0 ≤ b) → ∀ x ∈ l, 9 ≤ x.1 ∧ 1 ≤ x.2 ∧ x.1 + x.2 ≤ 32 := by
    intro l
    induction l with
    | nil => simp
    | cons y l ih =>
      intro e hb x hx
      rw [blkSeq] at hb
      split at hb
      · have := hb (-1) (by simp); omega
      · rename_i hbad
        simp only [Bool.not_eq_true, badX, Bool.or_eq_false_iff, decide_eq_false_iff_not] at hbad
        rcases List.mem_cons.1 hx with rfl | hx
        · omega
        · exact ih _ (fun b hb' => hb b (List.mem_append.2 (.inr hb'))) x hx
  exact key xs (-1) hp

theorem bytesOf_str (s : ByteArray) : strOfNums (bytesOf s) = s := by
  apply ByteArray.ext
  apply Array.toList_inj.1
  rw [strOfNums_data, bytesOf, List.map_map]
  have : ((fun x : Int => UInt8.ofNat x.toNat) ∘ fun b : UInt8 => (b.toNat : Int)) = id := by
    funext b; simp
  rw [show (List.map _ s.data.toList) = List.map id s.data.toList from by rw [← this], List.map_id]

theorem dec_enc {s : ByteArray} {n : Int} {xs : List (Int × Int)} (h : inoOk s n xs = true) :
    nameOf (encF s n xs) = s ∧ sizeOf' (encF s n xs) = n ∧ extsF (encF s n xs) 23 0 = xs ∧ encF s n xs ≠ zs 64 ∧ (encF s n xs).length = 64 ∧ (encF s n xs).getD 0 0 = s.size := by
  obtain ⟨g1, g2, g3, g4, g5⟩ := inoOk_small h
  have hf := inoOk_fine h
  have hL := encF_length s n xs g2
  have hH := encHead_length s n g2
  have h0 : (encF s n xs).getD 0 0 = s.size := by rw [encF, encN_lo _ _ _ _ (by omega), head_get s n g2]; simp
  refine ⟨?_, ?_, ?_, ?_, hL, h0⟩
  · rw [nameOf, h0, Int.toNat_natCast]
    rw [show ((encF s n xs).drop 1).take s.size = bytesOf s from ?_, bytesOf_str]
    apply List.ext_getElem
    · simp [bytesOf_length]; omega
    · intro i h1 h2
      have hi : i < s.size := by rw [bytesOf_length] at h2; exact h2
      rw [List.getElem_take, List.getElem_drop]
      have := head_get s n g2 (1 + i)
      rw [if_neg (by omega), if_pos (by omega), ← encN_lo _ xs xs.length _ (by omega)] at this
      rw [show 1 + i - 1 = i by omega] at this
      rw [show encN (encHead s n) xs xs.length = encF s n xs from rfl] at this
      simpa [List.getD, h2, hL, show 1 + i < 64 by omega] using this
  · have a16 : (encF s n xs).getD (16 + 0) 0 = ((n.toNat : Nat) : Int) / 2 ^ (8 * 0) % 256 := by
      rw [encF, encN_lo _ _ _ _ (by omega), head_get s n g2, if_neg (by omega), if_neg (by omega), if_pos (by omega)]; simp; omega
    have a17 : (encF s n xs).getD (16 + 1) 0 = ((n.toNat : Nat) : Int) / 2 ^ (8 * 1) % 256 := by
      rw [encF, encN_lo _ _ _ _ (by omega), head_get s n g2, if_neg (by omega), if_neg (by omega), if_neg (by omega), if_pos (by omega)]; omega
    have := sumL_digits (encF s n xs) 16 n.toNat 2 (fun j hj => by
      rcases (by omega : j = 0 ∨ j = 1) with rfl | rfl
      · exact a16
      · exact a17) 2 (by omega)
    have hs : numL (encF s n xs) 16 2 = ((sumL (encF s n xs) 16 2 : Nat) : Int) := by
      rw [numL, numL, numL, a16, a17, sumL, sumL, sumL, a16, a17]
      obtain ⟨m, rfl⟩ : ∃ m : Nat, n = m := ⟨n.toNat, by omega⟩
      rw [Int.toNat_natCast]
      have p1 : m / 2 ^ (8 * 0) % 256 < 2 ^ 64 := by omega
      have p2 : m / 2 ^ (8 * 1) % 256 < 256 := by omega
      have q1 : ((m : Int) / 2 ^ (8 * 0) % 256) = ((m / 2 ^ (8 * 0) % 256 : Nat) : Int) := by simp
      have q2 : ((m : Int) / 2 ^ (8 * 1) % 256) = ((m / 2 ^ (8 * 1) % 256 : Nat) : Int) := by simp
      rw [q1, q2, Int.toNat_natCast, Int.toNat_natCast]
      generalize hx : m / 2 ^ (8 * 0) % 256 = x at *
      generalize m / 2 ^ (8 * 1) % 256 = y at *
      have hx2 : x < 256 := by omega
      have e1 : ((x : Int) * 2 ^ (8 * 0)) = ((x : Nat) : Int) := by simp
      have e2 : ((y : Int) * 2 ^ (8 * 1)) = ((y * 256 : Nat) : Int) := by simp
      rw [e1, e2, wraps_u64 _ (by omega) (by omega), wraps_u64 _ (by omega) (by omega)]
      have o1 := or_u64 0 x (by omega) (by omega)
      rw [Nat.zero_or] at o1
      rw [show (0 : Int) = ((0 : Nat) : Int) from rfl, o1, or_u64 _ _ (by omega) (by omega)]
      have := Nat.shiftLeft_add_eq_or_of_lt (show x < 2 ^ 8 by omega) y
      rw [Nat.shiftLeft_eq] at this
      rw [Nat.or_comm, show (256 : Nat) = 2 ^ 8 by rfl, ← this]
      omega
    rw [sizeOf', hs, this, Nat.mod_eq_of_lt (by omega)]; omega
  · have key : ∀ (d k : Nat), d + k = 23 → k ≤ xs.length → extsF (encF s n xs) d k = xs.drop k := by
      intro d
      induction d with
      | zero => intro k hk h1; rw [extsF, List.drop_of_length_le (by omega)]
      | succ d ih =>
        intro k hk h1
        rw [extsF]
        by_cases hlt : k < xs.length
        · obtain ⟨p1, p2⟩ := encN_at (encHead s n) xs xs.length k hlt (by omega)
          have hx := hf _ (List.getElem_mem hlt)
          rw [show xs.getD k (0, 0) = xs[k] by simp [List.getD, hlt]] at p1 p2
          rw [show encN (encHead s n) xs xs.length = encF s n xs from rfl] at p1 p2
          have e1 : xs[k].1 % 256 = xs[k].1 := by omega
          have e2 : xs[k].2 % 256 = xs[k].2 := by omega
          rw [p2, p1, e1, e2, if_neg (by omega), ih (k + 1) (by omega) (by omega), List.drop_eq_getElem_cons hlt]
        · have : (encF s n xs).getD (18 + 2 * k + 1) 0 = 0 := by
            rw [encF, encN_lo _ _ _ _ (by omega), head_get s n g2, if_neg (by omega), if_neg (by omega), if_neg (by omega), if_neg (by omega)]
          rw [if_pos this, List.drop_of_length_le (by omega)]
    simpa using key 23 0 (by omega) (by omega)
  · intro e
    rw [e, zs_get] at h0
    omega

/-- What bytes are: 0: none; 1: an inode; 2: refused. -/
def decOk (l : List Int) : Bool := inoOk (nameOf l) (sizeOf' l) (extsF l 23 0) && decide (encF (nameOf l) (sizeOf' l) (extsF l 23 0) = l)
def decKind (l : List Int) : Nat := if l.length ≠ 64 then 2 else if l = zs 64 then 0 else if 15 < l.getD 0 0 then 2 else if decOk l = true then 1 else 2
theorem decKind_enc {s : ByteArray} {n : Int} {xs : List (Int × Int)} (h : inoOk s n xs = true) : decKind (encF s n xs) = 1 := by
  obtain ⟨h1, h2, h3, h4, h5, h6⟩ := dec_enc h
  obtain ⟨g1, g2, g3, g4, g5⟩ := inoOk_small h
  rw [decKind, if_neg (by simp [h5]), if_neg h4, if_neg (by omega), if_pos]
  rw [decOk, h1, h2, h3, h]; simp
theorem decKind_one {l : List Int} (h : decKind l = 1) : l.length = 64 ∧ l ≠ zs 64 ∧ inoOk (nameOf l) (sizeOf' l) (extsF l 23 0) = true ∧ encF (nameOf l) (sizeOf' l) (extsF l 23 0) = l := by
  rw [decKind] at h
  split at h
  · omega
  · rename_i h1
    split at h
    · omega
    · rename_i h2
      split at h
      · omega
      · split at h
        · rename_i h4
          rw [decOk, Bool.and_eq_true, decide_eq_true_eq] at h4
          exact ⟨by omega, h2, h4.1, h4.2⟩
        · omega
end Go.Proofs.YtoajnmbbgbpbgaaGreat
namespace Go.Proofs.YtoajnmbbgbpbgaaGreat
set_option linter.unusedVariables false
set_option linter.unusedSimpArgs false
open Go.RowKit Go.Shelf
open Extern.Stop (cell)

theorem heap_set3 {w : World} {b : Nat} {a0 a1 a2 : Value} {t : TypeId} (x0 x1 x2 : Value) (h : w.heap[b]? = some (.cells #[a0, a1, a2] t (0, 0))) :
    (((w.setCell ⟨b, 0, none⟩ x0).setCell ⟨b, 1, none⟩ x1).setCell ⟨b, 2, none⟩ x2).heap[b]? = some (.cells #[x0, x1, x2] t (0, 0)) := by
  simp [World.setCell, Array.getElem?_modify, h]
set_option maxHeartbeats 1000000 in
set_option maxRecDepth 1000000 in
theorem dec_bad (v : Value) (l : List Int) (w : World) (hlen : l.length ≤ 1000) (h0 : ∀ b ∈ l, 0 ≤ b ∧ b < 256) (hv : Sl w v l.length (bys l)) (hb : l.length ≠ 64 ∨ (l.length = 64 ∧ 15 < l.getD 0 0)) :
    Calls Tryz.prog 108 #[v] w fun e w' => e = .returned (.tuple #[.agg #[.string .empty, .int .i64 0, .slice none 0 0], .bool false, .int .i64 110]) ∧ Fr No w w' := by
  obtain ⟨a, cap, rfl⟩ := hv.form
  rcases hb with hb | ⟨hl, hb⟩
  · go_enter Tryz.func108, Tryz.ntmps108
    go_wp2
    refine bodyPost_ret (v := .tuple #[.agg #[.string .empty, .int .i64 0, .slice none 0 0], .bool false, .int .i64 110]) (by simp [results, Tryz.results108, go_sem]; rfl) rfl ⟨rfl, (Fr.refl _ _).alloc _⟩
  · have hx : (0 : Nat) < l.length := by omega
    obtain ⟨b, off, rfl, hbb, hc⟩ := hv.at (bys_ne _ _ hx)
    have c1 := hc _ _ (bys_get _ _ hx)
    have hg : l.getD 0 0 = l[0] := by simp [List.getD, hx]
    rw [hg] at hb
    have hr := h0 _ (List.getElem_mem hx)
    obtain ⟨hr0, hr1⟩ := hr
    rw [Nat.add_zero] at c1
    revert hb c1 hr0 hr1
    generalize l[0] = y
    intro hb c1 hr0 hr1
    have hF0 : Fr No w (w.alloc (Obj.cells #[.string .empty, .int .i64 0, .slice none 0 0] 95)) := (Fr.refl _ _).alloc _
    have c2 := hF0.cell c1 (fun h => h)
    clear hv hc h0 hg
    go_enter Tryz.func108, Tryz.ntmps108
    go_wp2
    refine bodyPost_ret (v := .tuple #[.agg #[.string .empty, .int .i64 0, .slice none 0 0], .bool false, .int .i64 110]) (by simp [results, Tryz.results108, go_sem]; rfl) rfl ⟨rfl, (Fr.refl _ _).alloc _⟩
theorem bys_cells (l : List Int) (h : ∀ b ∈ l, 0 ≤ b ∧ b < 256) : bys l = (l.map fun x => UInt8.ofNat x.toNat).map cell := by
  induction l with
  | nil => rfl
  | cons x l ih =>
    have hx := h x (by simp)
    have := ih (fun b hb => h b (by simp [hb]))
    simp only [bys, List.map_cons] at this ⊢
    rw [this]
    congr 1
    simp only [cell, UInt8.toNat_ofNat']
    have h3 : x.toNat % 2 ^ 8 = x.toNat := Nat.mod_eq_of_lt (by omega)
    rw [h3]
    exact congrArg (Value.int .u8) (Int.toNat_of_nonneg hx.1).symm
theorem size_u8 (w : World) : (Go.sizeOf 5).run Tryz.prog w = .ok 1 w := by
  have h := el_u8.info
  cases hi : Tryz.prog.info? 5 with
  | none => rw [hi] at h; cases h
  | some i =>
    rw [hi] at h
    simp only [Option.map_some, Option.some.injEq, Prod.mk.injEq] at h
    simp [Go.sizeOf, typeInfo, hi, h.2.1]
theorem u8s_inj {l m : List Int} (hl : ∀ b ∈ l, 0 ≤ b ∧ b < 256) (hm : ∀ b ∈ m, 0 ≤ b ∧ b < 256) (h : (l.map fun x => UInt8.ofNat x.toNat) = m.map fun x => UInt8.ofNat x.toNat) : l = m := by
  have := strOfNums_inj (l := l) (m := m) hl hm (by simp only [strOfNums, h])
  exact this
theorem eqA_bys (w : World) (l m : List Int) (hl : l.length = 64) (hm : m.length = 64) (hlr : ∀ b ∈ l, 0 ≤ b ∧ b < 256) (hmr : ∀ b ∈ m, 0 ≤ b ∧ b < 256) :
    (Op.equalIn 10000 155 (.agg (bys l).toArray) (.agg (bys m).toArray)).run Tryz.prog w = .ok (decide (l = m)) w := by
  rw [bys_cells l hlr, bys_cells m hmr]
  rw [run_equalIn_bytes w 9998 155 5 64 (by kernel_rfl) Tryz.underlying5 size_u8 _ _ (by simpa using hl) (by simpa using hm)]
  congr 1
  rw [Bool.eq_iff_iff]
  simp only [beq_iff_eq, decide_eq_true_eq]
  exact ⟨u8s_inj hlr hmr, fun h => by rw [h]⟩
theorem zs64 : bys (zs 64) = [.int .u8 0, .int .u8 0, .int .u8 0, .int .u8 0, .int .u8 0, .int .u8 0, .int .u8 0, .int .u8 0, .int .u8 0, .int .u8 0, .int .u8 0, .int .u8 0, .int .u8 0, .int .u8 0, .int .u8 0, .int .u8 0, .int .u8 0, .int .u8 0, .int .u8 0, .int .u8 0, .int .u8 0, .int .u8 0, .int .u8 0, .int .u8 0, .int .u8 0, .int .u8 0, .int .u8 0, .int .u8 0, .int .u8 0, .int .u8 0, .int .u8 0, .int .u8 0, .int .u8 0, .int .u8 0, .int .u8 0, .int .u8 0, .int .u8 0, .int .u8 0, .int .u8 0, .int .u8 0, .int .u8 0, .int .u8 0, .int .u8 0, .int .u8 0, .int .u8 0, .int .u8 0, .int .u8 0, .int .u8 0, .int .u8 0, .int .u8 0, .int .u8 0, .int .u8 0, .int .u8 0, .int .u8 0, .int .u8 0, .int .u8 0, .int .u8 0, .int .u8 0, .int .u8 0, .int .u8 0, .int .u8 0, .int .u8 0, .int .u8 0, .int .u8 0] := rfl
theorem zs_range (k : Nat) : ∀ b ∈ zs k, 0 ≤ b ∧ b < 256 := fun b hb => by simp only [zs, List.mem_replicate] at hb; omega
theorem spl_all (l m : List Int) (h : m.length = l.length) : spl l 0 m = m := by simp [spl, List.drop_of_length_le (Nat.le_of_eq h.symm)]

set_option maxHeartbeats 1000000 in
set_option maxRecDepth 1000000 in
theorem dec_zero (v : Value) (l : List Int) (w : World) (hl : l.length = 64) (h0 : ∀ b ∈ l, 0 ≤ b ∧ b < 256) (hv : Sl w v l.length (bys l)) (hb : decide (15 < l.getD 0 0) = false) (hz : l = zs 64) :
    Calls Tryz.prog 108 #[v] w fun e w' => e = .returned (.tuple #[.agg #[.string .empty, .int .i64 0, .slice none 0 0], .bool false, .int .i64 0]) ∧ Fr No w w' := by
  have HZ0 := Lib.hid hz
  clear hz
  obtain ⟨a, cap, rfl⟩ := hv.form
  have hx : (0 : Nat) < l.length := by omega
  obtain ⟨b, off, rfl, hbb, hc⟩ := hv.at (bys_ne _ _ hx)
  have c1 := hc _ _ (bys_get _ _ hx)
  have hg : l.getD 0 0 = l[0] := by simp [List.getD, hx]
  rw [hg] at hb
  rw [Nat.add_zero] at c1
  revert hb c1
  generalize l[0] = y
  intro hb c1
  have hF0 : Fr No w (w.alloc (Obj.cells #[.string ⟨#[]⟩, .int .i64 0, .slice none 0 0] 95)) := (Fr.refl _ _).alloc _
  have c2 := hF0.cell c1 (fun h => h)
  go_enter Tryz.func108, Tryz.ntmps108
  go_wp2
  have hat : ∀ w : World, (Instr.arrayAt 155 (.slice (some ⟨b, off, none⟩) 64 cap)).run Tryz.prog w = .ok (.pointer (some ⟨b, off, none⟩)) w := fun w => by
    simp [Instr.arrayAt, run_underlying (show Tryz.prog.underlying 155 = some (.array 64 5) by kernel_rfl)]
  have HRG := Lib.hid (show (w.alloc (Obj.cells #[.string ⟨#[]⟩, .int .i64 0, .slice none 0 0] 95)).rangeAt b off (bys l) from fun j v hj => hF0.cell (hc j v hj) (fun h => h))
  have HSZ := Lib.hid (show (Tryz.prog.info? 155).map (·.size) = some (bys l).length from by rw [bys_len, hl]; kernel_rfl)
  have h0' := h0
  clear hc hv h0 hF0 c2
  rw [hat]
  simp only [Result.andThen_ok]
  have hRN : Row ((w.alloc (Obj.cells #[.string ⟨#[]⟩, .int .i64 0, .slice none 0 0] 95)).alloc (Obj.cells (bys (zs 64)).toArray 155)) (w.heap.size + 1) 155 (zs 64) := by simpa using Row.new (w.alloc (Obj.cells #[.string ⟨#[]⟩, .int .i64 0, .slice none 0 0] 95)) 155 (zs 64)
  have hST : ((w.alloc (Obj.cells #[.string ⟨#[]⟩, .int .i64 0, .slice none 0 0] 95)).alloc (Obj.cells (bys (zs 64)).toArray 155)).there (w.heap.size + 1) 0 (bys l).toArray.size := fun j hj => by
    have hj' : j < (zs 64).length := by rw [zs_length]; simpa [bys, hl] using hj
    exact ⟨by rw [Nat.zero_add, hRN.cell hj']; rfl, by rw [Nat.zero_add]; exact hRN.frozen j⟩
  have HST := Lib.hid hST
  have HSZ2 := Lib.hid (show (Tryz.prog.info? 155).map (·.size) = some (bys l).toArray.size from by rw [List.size_toArray]; exact HSZ.out)
  have H1C := Lib.hid (all_oneCell_toArray (bys_one l))
  have HRN := Lib.hid hRN
  have HB2 := Lib.hid (heap_alloc (Obj.cells (bys (zs 64)).toArray 155) (heap_new w (Obj.cells #[.string ⟨#[]⟩, .int .i64 0, .slice none 0 0] 95)))
  have heq : ∀ W : World, _ := fun W => eqA_bys W l (zs 64) hl (zs_length 64) h0' (zs_range 64)
  rw [zs64, decide_eq_true HZ0.out] at heq
  clear hST hRN
  have HZ := Lib.hid zs64
  go_wp2_with (first | (refine wpList_load_mid rfl 155 _ rfl b off rfl (bys l) (.array 64 5) HRG.out (by kernel_rfl) rfl HSZ.out ?_) | (refine wpList_store_mid rfl 155 _ _ rfl (w.heap.size + 1) 0 (bys l).toArray rfl rfl HST.out HSZ2.out H1C.out ?_; obtain ⟨hRS, hFS⟩ := HRN.out.setAll l 0 (by rw [zs_length]; omega); rw [spl_all _ _ (by rw [zs_length]; exact hl)] at hRS; have hB5 := hFS.heap HB2.out (by omega); have k0 := heap_cell (o := 0) hB5 rfl; have k1 := heap_cell (o := 1) hB5 rfl; have k2 := heap_cell (o := 2) hB5 rfl; have f0 := heap_frozen (o := 0) hB5; have f1 := heap_frozen (o := 1) hB5; have f2 := heap_frozen (o := 2) hB5; have HB5 := Lib.hid hB5; clear hB5; rw [show (bys l).toArray.toList = bys l from rfl, ← HZ.out]; generalize World.setCells _ (w.heap.size + 1) 0 (bys l) = W5 at *; have HRS := Lib.hid hRS; clear hRS) | (refine wpList_load_mid rfl 155 _ rfl (w.heap.size + 1) 0 rfl (bys l) (.array 64 5) (fun j v hj => by rw [Nat.zero_add]; exact heap_cell HRS.out (by simpa using hj)) (by kernel_rfl) rfl HSZ.out ?_))
  have q := heap_set3 (.string ⟨#[]⟩) (.int .i64 0) (.slice none 0 0) HB5.out
  have q0 := heap_cell (o := 0) q rfl
  have q1 := heap_cell (o := 1) q rfl
  have q2 := heap_cell (o := 2) q rfl
  refine bodyPost_ret (v := .tuple #[.agg #[.string ⟨#[]⟩, .int .i64 0, .slice none 0 0], .bool false, .int .i64 0]) (by simp [results, Tryz.results108, go_sem, q0, q1, q2]) rfl ⟨rfl, ?_⟩
  exact (((((((Fr.refl No w).alloc _).alloc _).trans' hFS (fun i hi e => by omega)).setCell (fun h => by simp at h) _).setCell (fun h => by simp at h) _).setCell (fun h => by simp at h) _)
end Go.Proofs.YtoajnmbbgbpbgaaGreat
namespace Go.Proofs.YtoajnmbbgbpbgaaGreat
set_option linter.unusedVariables false
set_option linter.unusedSimpArgs false
open Go.RowKit Go.Shelf
open Extern.Stop (cell)

theorem Fr.set3 {a w : World} (h : Fr No a w) {b : Nat} (hb : a.heap.size ≤ b) (x0 x1 x2 : Value) : Fr No a (((w.setCell ⟨b, 0, none⟩ x0).setCell ⟨b, 1, none⟩ x1).setCell ⟨b, 2, none⟩ x2) :=
  ((h.setCell (p := ⟨b, 0, none⟩) (fun h => absurd h (Nat.not_lt.2 hb)) _).setCell (p := ⟨b, 1, none⟩) (fun h => absurd h (Nat.not_lt.2 hb)) _).setCell (p := ⟨b, 2, none⟩) (fun h => absurd h (Nat.not_lt.2 hb)) _

theorem Fr.set3_at (w : World) (b : Nat) (x0 x1 x2 : Value) : Fr (fun k => k = b) w (((w.setCell ⟨b, 0, none⟩ x0).setCell ⟨b, 1, none⟩ x1).setCell ⟨b, 2, none⟩ x2) :=
  (((Fr.refl (fun k => k = b) w).setCell (p := ⟨b, 0, none⟩) (fun _ => rfl) _).setCell (p := ⟨b, 1, none⟩) (fun _ => rfl) _).setCell (p := ⟨b, 2, none⟩) (fun _ => rfl) _
theorem grownBy_undrew {w w3 : World} {row : Option Nat} (h : w.drew.grownBy w3 row) : w.grownBy w3 row := ⟨h.os, h.tape, h.output, h.size, h.block⟩

set_option maxHeartbeats 1000000 in
set_option maxRecDepth 1000000 in
theorem dec_good (v : Value) (l : List Int) (w : World) (hl : l.length = 64) (h0 : ∀ b ∈ l, 0 ≤ b ∧ b < 256) (hv : Sl w v l.length (bys l)) (hb : decide (15 < l.getD 0 0) = false) (hz : l ≠ zs 64) :
    Calls Tryz.prog 108 #[v] w fun e w' => Fr No w w' ∧ ((decOk l = true ∧ ∃ r, e = .returned (.tuple #[.agg #[.string (nameOf l), .int .i64 (sizeOf' l), r], .bool true, .int .i64 0]) ∧ Sn w.heap.size w' r (extsF l 23 0).length (extCells (extsF l 23 0))) ∨ (decOk l = false ∧ e = .returned (.tuple #[.agg #[.string ⟨#[]⟩, .int .i64 0, .slice none 0 0], .bool false, .int .i64 110]))) := by
  have HZ0 := Lib.hid hz
  clear hz
  obtain ⟨a, cap, rfl⟩ := hv.form
  have hx : (0 : Nat) < l.length := by omega
  obtain ⟨b, off, rfl, hbb, hc⟩ := hv.at (bys_ne _ _ hx)
  have c1 := hc _ _ (bys_get _ _ hx)
  have hg : l.getD 0 0 = l[0] := by simp [List.getD, hx]
  rw [hg] at hb
  rw [Nat.add_zero] at c1
  have hr0 := h0 _ (List.getElem_mem hx)
  revert hb c1 hg hr0
  generalize l[0] = y
  intro hb c1 hg hr0
  obtain ⟨m, rfl⟩ : ∃ m : Nat, y = m := ⟨y.toNat, by omega⟩
  have hm : m ≤ 15 := by have := of_decide_eq_false hb; omega
  clear hr0
  have hF0 : Fr No w (w.alloc (Obj.cells #[.string ⟨#[]⟩, .int .i64 0, .slice none 0 0] 95)) := (Fr.refl _ _).alloc _
  have c2 := hF0.cell c1 (fun h => h)
  go_enter Tryz.func108, Tryz.ntmps108
  go_wp2
  have hat : ∀ w : World, (Instr.arrayAt 155 (.slice (some ⟨b, off, none⟩) 64 cap)).run Tryz.prog w = .ok (.pointer (some ⟨b, off, none⟩)) w := fun w => by
    simp [Instr.arrayAt, run_underlying (show Tryz.prog.underlying 155 = some (.array 64 5) by kernel_rfl)]
  have HRG := Lib.hid (show (w.alloc (Obj.cells #[.string ⟨#[]⟩, .int .i64 0, .slice none 0 0] 95)).rangeAt b off (bys l) from fun j v hj => hF0.cell (hc j v hj) (fun h => h))
  have HSZ := Lib.hid (show (Tryz.prog.info? 155).map (·.size) = some (bys l).length from by rw [bys_len, hl]; kernel_rfl)
  have h0' := h0
  have HV := Lib.hid (show Sl w (.slice (some ⟨b, off, none⟩) 64 cap) l.length (bys l) by have := hv; rw [hl] at this ⊢; exact this)
  clear hc hv h0 hF0 c2
  rw [hat]
  simp only [Result.andThen_ok]
  have hRN : Row ((w.alloc (Obj.cells #[.string ⟨#[]⟩, .int .i64 0, .slice none 0 0] 95)).alloc (Obj.cells (bys (zs 64)).toArray 155)) (w.heap.size + 1) 155 (zs 64) := by simpa using Row.new (w.alloc (Obj.cells #[.string ⟨#[]⟩, .int .i64 0, .slice none 0 0] 95)) 155 (zs 64)
  have hST : ((w.alloc (Obj.cells #[.string ⟨#[]⟩, .int .i64 0, .slice none 0 0] 95)).alloc (Obj.cells (bys (zs 64)).toArray 155)).there (w.heap.size + 1) 0 (bys l).toArray.size := fun j hj => by
    have hj' : j < (zs 64).length := by rw [zs_length]; simpa [bys, hl] using hj
    exact ⟨by rw [Nat.zero_add, hRN.cell hj']; rfl, by rw [Nat.zero_add]; exact hRN.frozen j⟩
  have HST := Lib.hid hST
  have HSZ2 := Lib.hid (show (Tryz.prog.info? 155).map (·.size) = some (bys l).toArray.size from by rw [List.size_toArray]; exact HSZ.out)
  have H1C := Lib.hid (all_oneCell_toArray (bys_one l))
  have HRN := Lib.hid hRN
  have HB2 := Lib.hid (heap_alloc (Obj.cells (bys (zs 64)).toArray 155) (heap_new w (Obj.cells #[.string ⟨#[]⟩, .int .i64 0, .slice none 0 0] 95)))
  have heq : ∀ W : World, _ := fun W => eqA_bys W l (zs 64) hl (zs_length 64) h0' (zs_range 64)
  rw [zs64, decide_eq_false HZ0.out] at heq
  clear hST hRN
  have HZ := Lib.hid zs64
  go_wp2_with (first | (refine wpList_load_mid rfl 155 _ rfl b off rfl (bys l) (.array 64 5) HRG.out (by kernel_rfl) rfl HSZ.out ?_) | (refine wpList_store_mid rfl 155 _ _ rfl (w.heap.size + 1) 0 (bys l).toArray rfl rfl HST.out HSZ2.out H1C.out ?_; obtain ⟨hRS, hFS⟩ := HRN.out.setAll l 0 (by rw [zs_length]; omega); rw [spl_all _ _ (by rw [zs_length]; exact hl)] at hRS; have hB5 := hFS.heap HB2.out (by omega); have k0 := heap_cell (o := 0) hB5 rfl; have k1 := heap_cell (o := 1) hB5 rfl; have k2 := heap_cell (o := 2) hB5 rfl; have f0 := heap_frozen (o := 0) hB5; have f1 := heap_frozen (o := 1) hB5; have f2 := heap_frozen (o := 2) hB5; have HB5 := Lib.hid hB5; clear hB5; rw [show (bys l).toArray.toList = bys l from rfl, ← HZ.out]; generalize World.setCells _ (w.heap.size + 1) 0 (bys l) = W5 at *; have HRS := Lib.hid hRS; clear hRS) | (refine wpList_load_mid rfl 155 _ rfl (w.heap.size + 1) 0 rfl (bys l) (.array 64 5) (fun j v hj => by rw [Nat.zero_add]; exact heap_cell HRS.out (by simpa using hj)) (by kernel_rfl) rfl HSZ.out ?_))
  have hF5 : Fr No w W5 := (((Fr.refl No w).alloc _).alloc _).trans' hFS (fun i hi e => by omega)
  have hb5 : w.heap.size + 1 < W5.heap.size := HRS.out.lt
  have hcv : ∀ w', Row w' (w.heap.size + 1) 155 l → (convert 22 9 (.slice (some ⟨w.heap.size + 1, 1, none⟩) m 63)).run Tryz.prog w' = .ok (.string (nameOf l)) w' := fun w' h => by
    have h1 : Sl w' (.slice (some ⟨w.heap.size + 1, 1, none⟩) ((l.drop 1).take m).length 63) ((l.drop 1).take m).length (bys ((l.drop 1).take m)) := by
      have hlen : ((l.drop 1).take m).length = m := by simp; omega
      rw [hlen]
      refine ⟨_, _, rfl, ⟨by simp, by omega⟩, fun _ => ⟨_, _, rfl⟩, ?_⟩
      rintro b' o' j u ⟨rfl, rfl⟩ hj
      refine heap_cell h ?_
      simp only [bys, List.map_take, List.map_drop, List.getElem?_take, List.getElem?_drop] at hj ⊢
      split at hj
      · simpa using hj
      · cases hj
    have h2 := conv_sl h1
    rw [show ((l.drop 1).take m).length = m by simp; omega] at h2
    rw [h2, nameOf, hg, Int.toNat_natCast]
  have HN := Lib.hid (fun w1 (h : Row w1 (w.heap.size + 1) 155 l) => num_calls (.slice (some ⟨w.heap.size + 1, 0, none⟩) 64 64) l 16 2 w1 (by omega) (by omega) (by omega) h0' (by omega) (by have := h.sl; simpa only [hl] using this))
  have HN2 : ∀ w1, Row w1 (w.heap.size + 1) 155 l → Calls Tryz.prog 127 #[.slice (some ⟨w.heap.size + 1, 0, none⟩) 64 64, .int .i64 16, .int .i64 2] w1 fun e w' => e = .returned (.int .u64 (sizeOf' l)) ∧ Fr No w1 w' := fun w1 h => HN.out w1 h
  have HN3 := Lib.hid (fun w1 (h : Fr No W5 w1) => HN2 w1 (HRS.out.fr (S := No) h (fun h => h)))
  have e1 := HRS.out.cell (i := 0) (by omega)
  rw [show l[0] = (m : Int) by rw [← hg]; simp [List.getD, hx]] at e1
  have HSS := Lib.hid (fun w' (h : Fr No W5 w') => (⟨h, h.cell e1 (fun h => h), hcv w' (HRS.out.fr (S := No) h (fun h => h))⟩ : Fr No W5 w' ∧ w'.cell? ⟨w.heap.size + 1, 0, none⟩ = some (.int .u8 m) ∧ (convert 22 9 (.slice (some ⟨w.heap.size + 1, 1, none⟩) m 63)).run Tryz.prog w' = .ok (.string (nameOf l)) w'))
  have hwm : IntKind.u8.wrap (1 + (m : Int)) = 1 + m := by rw [IntKind.wrap_u8]; omega
  have htm : (1 + (m : Int)).toNat = 1 + m := by omega
  have hm1 : 1 + m - 1 = m := by omega
  have hs1 : (1 : Int) ≤ 1 + (m : Int) := by omega
  have hs2 : (1 : Int) + (m : Int) ≤ 64 := by omega
  have hs3 : (0 : Int) ≤ 1 + (m : Int) := by omega
  have hs4 : 1 + m ≤ 64 := by omega
  have hnb := numL_sum l h0' 16 2 (by omega)
  have hnl := sumL_lt l h0' 16 2
  have hsw : IntKind.i64.wrap (sizeOf' l) = sizeOf' l := IntWalk.i64_in _ (by rw [sizeOf', hnb]; omega)
  have HSB := Lib.hid (show 0 ≤ sizeOf' l ∧ sizeOf' l < 65536 by rw [sizeOf', hnb]; omega)
  clear hnb hnl
  have hFW := Fr.refl No W5
  clear hcv HN HN2 k0 k1 k2 f0 f1 f2 hFS HST HSZ2 H1C HRN HB2 HZ heq HZ0 HSZ HRG hat
  go_cut [6] (fun s6 wx => ∃ b6 : Nat, s6 = .pointer (some ⟨b6, 0, none⟩) ∧ W5.heap.size ≤ b6 ∧ Fr No W5 wx ∧ wx.heap[b6]? = some (.cells #[.string (nameOf l), .int .i64 (sizeOf' l), .slice none 0 0] 95 (0, 0)))
  case first =>
    go_region_held3 (fun w' => Fr No W5 w' ∧ w'.cell? ⟨w.heap.size + 1, 0, none⟩ = some (.int .u8 m) ∧ (convert 22 9 (.slice (some ⟨w.heap.size + 1, 1, none⟩) m 63)).run Tryz.prog w' = .ok (.string (nameOf l)) w')
      (first | exact HSS.out _ hFW | exact HSS.out _ hFW.drew | exact HSS.out _ (hFW.alloc _) | exact HSS.out _ (hFW.alloc _).drew | exact HSS.out _ (hFW.set3 (Nat.le_refl _) _ _ _) | exact HSS.out _ ((hFW.alloc _).set3 hFW.size _ _ _) | fail "keep")
      (first | (go_at_call 127; (first | (with_reducible refine (HN3.out _ hFW).mono ?_) | (with_reducible refine (HN3.out _ hFW.drew).mono ?_) | (with_reducible refine (HN3.out _ (hFW.alloc _).drew).mono ?_)); rintro e w5 ⟨rfl, hFn⟩; (try (have HG := hFn.heap (heap_new W5 (Obj.cells #[.string ⟨#[]⟩, .int .i64 0, .slice none 0 0] 95)) (fun h => h); have g0 := heap_cell (o := 0) HG rfl; have g1 := heap_cell (o := 1) HG rfl; have g2 := heap_cell (o := 2) HG rfl; have j0 := heap_frozen (o := 0) HG; have j1 := heap_frozen (o := 1) HG; have j2 := heap_frozen (o := 2) HG; have HG' := Lib.hid HG; clear HG)); have hFW := Fr.trans (by first | exact hFW | exact hFW.drew | exact (hFW.alloc _).drew) hFn))
    all_goals (go_wp2_with fail; go_meet; first
      | exact ⟨_, rfl, Nat.le_refl _, hFW.set3 (Nat.le_refl W5.heap.size) _ _ _, heap_set3 (.string (nameOf l)) (.int .i64 (sizeOf' l)) (.slice none 0 0) HG'.out⟩
      | exact ⟨_, rfl, hFW.size, hFW.alloc _, heap_new w5 (Obj.cells #[.string (nameOf l), .int .i64 (sizeOf' l), .slice none 0 0] 95)⟩
      | fail "shape")
  case rest =>
  obtain ⟨b6, rfl, hb6, hFx, HB6⟩ := hcut
  clear hFW
  go_upto_block 0 with fail
  go_cut [7] (fun s7 wx => ∃ r : Value, wx.heap[b6]? = some (.cells #[.string (nameOf l), .int .i64 (sizeOf' l), r] 95 (0, 0)) ∧ wx.ownsRow W5.heap.size 139 2 r (extsF l 23 0).length (extCells (extsF l 23 0)) ∧ Fr No W5 wx)
  case first =>
    go_wp2_with fail
    go_loopw [7] (fun i wr => ∃ j k : Nat, k ≤ 23 ∧ j = 18 + 2 * k ∧ i = .int .i64 j ∧ ∃ (pre : List (Int × Int)) (r : Value), pre.length = k ∧ extsF l 23 0 = pre ++ extsF l (23 - k) k ∧ wr.heap[b6]? = some (.cells #[.string (nameOf l), .int .i64 (sizeOf' l), r] 95 (0, 0)) ∧ wr.ownsRow W5.heap.size 139 2 r pre.length (extCells pre) ∧ Fr No W5 wr)
      (fun i _ => 64 - (intOf i).toNat)
    case atStart => exact ⟨18, 0, by omega, rfl, rfl, [], _, rfl, rfl, HB6, World.ownsRow_nil _ _ _ _, hFx⟩
    case round =>
      obtain ⟨j, k, hk, hj, rfl, pre, r, hpl, hpre, hB, hrow, hF⟩ := hrel
      have hRr := HRS.out.fr hF (fun h => h)
      by_cases hk3 : k < 23
      · have i1 : j < l.length := by omega
        have i2 : j + 1 < l.length := by omega
        have q1 := hRr.cell i1
        have q2 := hRr.cell i2
        have z1 := h0' _ (List.getElem_mem i1)
        have z2 := h0' _ (List.getElem_mem i2)
        have hst : extsF l (23 - k) k = if l[j + 1] = 0 then [] else (l[j], l[j + 1]) :: extsF l (22 - k) (k + 1) := by
          rw [show 23 - k = (22 - k) + 1 by omega, extsF]
          simp [List.getD, i1, i2, ← hj]
        revert q1 q2 z1 z2 hst
        generalize l[j + 1] = x2
        generalize l[j] = x1
        intro q1 q2 z1 z2 hst
        have HJ := Lib.hid hj
        have hj1 : j < 63 := by omega
        have hj2 : 18 ≤ j := by omega
        clear hj i1 i2
        by_cases hx2 : x2 = 0
        · subst hx2
          rw [if_pos rfl] at hst
          have hpe : extsF l 23 0 = pre := by rw [hpre, hst, List.append_nil]
          clear hst hpre q1 hRr z1 z2
          rw [← hpe] at hrow
          go_wp2_with fail
          go_meet
          exact ⟨r, hB, hrow, hF⟩
        · rw [if_neg hx2] at hst
          have hgt : 0 < x2 := by omega
          obtain ⟨z10, z11⟩ := z1
          obtain ⟨z20, z21⟩ := z2
          have HST := Lib.hid hst
          have HPRE := Lib.hid hpre
          have HPL := Lib.hid hpl
          have hpb : pre.length ≤ 22 := by omega
          clear hst hpre hx2 hRr hpl
          have k2 := heap_cell (o := 2) hB rfl
          go_wp2
          have hw1 : IntKind.i64.wrap ((j : Int) + 1) = (j : Int) + 1 := IntWalk.i64_in _ (by omega)
          have hw2 : ((j : Int) + 1).toNat = j + 1 := by omega
          have hw3 : 0 ≤ (j : Int) + 1 := by omega
          have hw4 : (j : Int) + 1 < 64 := by omega
          have hw5 : IntKind.i64.wrap x1 = x1 := IntWalk.i64_in _ (by omega)
          have hw6 : IntKind.i64.wrap x2 = x2 := IntWalk.i64_in _ (by omega)
          obtain ⟨i0, hi0, hz0, hz1, hz2⟩ := info_parts el_ext.info
          have hwl := hF.size
          have hbl : (w.heap.size + 1) < wr.heap.size := by omega
          have hb6l := heap_lt hB
          go_region_law (refine step_append_lies _ (by rfl) _ _ _ (by rfl) W5.heap.size 139 i0 _ 2 16 el_ext.und hi0 hz0 hz1 hz2 rfl (by omega) r pre.length (extCells pre) (by rfl) (World.ownsRow.drew (hrow.alloc _)) ⟨wr.heap.size, 0, none⟩ 1 1 [.int .i64 x1, .int .i64 x2] (by rfl) (by rfl) (World.news_of_block (cs := #[.int .i64 x1, .int .i64 x2]) (t := 139) (fr := (0, 0)) (heap_alloc_new wr _)) (by simp [Value.oneCell']) (by omega) (by unfold maxLen; omega) (by omega) (by simp; omega) (wr.heap.size + 1) (by simp) ?_; intro gg cap' w3 hown' hgrow hat hlt; have hg3 := grownBy_alloc (grownBy_undrew hgrow); have h3 := (hg3.block b6 (heap_lt hB) (not_row hB (by decide) hrow)).trans hB; have k3 := heap_cell (o := 2) h3 rfl; have k4 := heap_frozen (o := 2) h3)
          all_goals (
            have hB9 : (w3.setCell ⟨b6, 2, none⟩ (.slice (some ⟨gg, 0, none⟩) (pre.length + 1) cap')).heap[b6]? = some (.cells #[.string (nameOf l), .int .i64 (sizeOf' l), .slice (some ⟨gg, 0, none⟩) (pre.length + 1) cap'] 95 (0, 0)) := by simp [World.setCell, Array.getElem?_modify, h3]
            have hgs : w3.grownBy (w3.setCell ⟨b6, 2, none⟩ (.slice (some ⟨gg, 0, none⟩) (pre.length + 1) cap')) (some b6) := ⟨rfl, rfl, rfl, by simp [World.setCell], fun i _ hn => Below.heap_setCell _ _ _ _ (fun e => hn (by rw [e]))⟩
            have hrow9 := hown'.kept hgs (.inr (not_row h3 (by decide) hown').symm)
            have hF9 := (hF.grown hg3 (fun k e hk => by have := (hrow.lt k e).1; omega)).setCell (p := ⟨b6, 2, none⟩) (fun hh => absurd hh (by simp; omega)) (.slice (some ⟨gg, 0, none⟩) (pre.length + 1) cap')
            clear hgs h3 hg3 k3 k4 hown' hgrow hat hlt hrow hB
            generalize World.setCell w3 _ _ = W9 at *
            go_wp2
            refine ⟨⟨j + 2, k + 1, by omega, by have := HJ.out; omega, by go_num, pre ++ [(x1, x2)], .slice (some ⟨gg, 0, none⟩) (pre.length + 1) cap', by simp [HPL.out], ?_, hB9, ?_, hF9⟩, by simp [intOf]; omega⟩
            · rw [HPRE.out, HST.out, show 22 - k = 23 - (k + 1) by omega]; simp
            · rw [extCells_snoc, List.length_append, List.length_singleton]; exact hrow9)
      · have hk4 : k = 23 := by omega
        subst hk4
        have hpe : extsF l 23 0 = pre := by rw [hpre]; simp [extsF]
        have hj64 : j = 64 := by omega
        subst hj64
        clear hpre hRr
        rw [← hpe] at hrow
        go_wp2_with fail
        go_meet
        exact ⟨r, hB, hrow, hF⟩
  case rest =>
  obtain ⟨r, hB, hrow, hF⟩ := hcut
  have hr3 := Sl.of_owns hrow
  obtain ⟨a3, cap3, rfl⟩ := hr3.form
  have c0 := heap_cell (o := 0) hB rfl
  have c1 := heap_cell (o := 1) hB rfl
  have c2 := heap_cell (o := 2) hB rfl
  have hF0w : Fr No w wc := hF5.trans hF
  have hsz := HSB.out
  have CE := Lib.hid (encode_calls (nameOf l) (sizeOf' l) (.slice a3 (extsF l 23 0).length cap3) (extsF l 23 0) wc (by rw [nameOf, strOfNums_size, hg]; simp; omega) (by omega) (by omega) (by have := extsF_length l 23 0; omega) hr3)
  have HB3 := Lib.hid (fun k (e : (Value.slice a3 (extsF l 23 0).length cap3).ownBlock = some k) => (hrow.lt k e).1)
  clear hsz hrow
  go_wp2_with fail
  refine CE.out.mono ?_
  rintro e w7 ⟨hF7, ⟨ho, r7, rfl, hr7, -⟩ | ⟨ho, rfl⟩⟩
  · have g2 := (inoOk_small ho).2.1
    have HQ := equal_calls r7 (.slice (some ⟨b, off, none⟩) 64 cap) (encF (nameOf l) (sizeOf' l) (extsF l 23 0)) l w7 (encF_range _ _ _ g2) h0' (by rw [encF_length _ _ _ g2]; exact hr7) (HV.out.fr0 (hF0w.trans hF7))
    have HT := Lib.hid (hF7.heap hB (fun h => h))
    have HO := Lib.hid ((hF.trans hF7).heap HB5.out (fun h => h))
    have HS3 := Lib.hid (Sl.fr0 hr3 hF7)
    have hF07 := hF0w.trans hF7
    have d0 := heap_cell (o := 0) HT.out rfl
    have d1 := heap_cell (o := 1) HT.out rfl
    have d2 := heap_cell (o := 2) HT.out rfl
    have o0 := heap_cell (o := 0) HO.out rfl
    have o1 := heap_cell (o := 1) HO.out rfl
    have o2 := heap_cell (o := 2) HO.out rfl
    have p0 := heap_frozen (o := 0) HO.out
    have p1 := heap_frozen (o := 1) HO.out
    have p2 := heap_frozen (o := 2) HO.out
    clear hr7 hr3 c0 c1 c2 hB CE
    by_cases hq : encF (nameOf l) (sizeOf' l) (extsF l 23 0) = l
    · rw [decide_eq_true hq] at HQ
      have HQ' := Lib.hid HQ
      have hok : decOk l = true := by rw [decOk, ho, decide_eq_true hq]; rfl
      clear HQ hq
      go_wp2_with (go_at_call 109; ((with_reducible refine HQ'.out.mono ?_); rintro e w8 ⟨rfl, rfl⟩))
      have q := heap_set3 (.string (nameOf l)) (.int .i64 (sizeOf' l)) (.slice a3 (extsF l 23 0).length cap3) HO.out
      have q0 := heap_cell (o := 0) q rfl
      have q1 := heap_cell (o := 1) q rfl
      have q2 := heap_cell (o := 2) q rfl
      refine bodyPost_ret (v := .tuple #[.agg #[.string (nameOf l), .int .i64 (sizeOf' l), .slice a3 (extsF l 23 0).length cap3], .bool true, .int .i64 0]) (by simp [results, Tryz.results108, go_sem, q0, q1, q2]) rfl ⟨hF07.set3 (Nat.le_refl _) _ _ _, .inl ⟨hok, _, rfl, HS3.out.fr (Fr.set3_at _ _ _ _ _) (fun k e _ hk => by have := HB3.out k e; omega), fun k e _ => by have := HB3.out k e; have := hF0w.size; have := hF.size; omega⟩⟩
    · rw [decide_eq_false hq] at HQ
      have HQ' := Lib.hid HQ
      have hok : decOk l = false := by rw [decOk, ho, decide_eq_false hq]; rfl
      clear HQ hq
      go_wp2_with (go_at_call 109; ((with_reducible refine HQ'.out.mono ?_); rintro e w8 ⟨rfl, rfl⟩))
      have q := heap_set3 (.string ⟨#[]⟩) (.int .i64 0) (.slice none 0 0) HO.out
      have q0 := heap_cell (o := 0) q rfl
      have q1 := heap_cell (o := 1) q rfl
      have q2 := heap_cell (o := 2) q rfl
      refine bodyPost_ret (v := .tuple #[.agg #[.string ⟨#[]⟩, .int .i64 0, .slice none 0 0], .bool false, .int .i64 110]) (by simp [results, Tryz.results108, go_sem, q0, q1, q2]) rfl ⟨hF07.set3 (Nat.le_refl _) _ _ _, .inr ⟨hok, rfl⟩⟩
  · have hok : decOk l = false := by rw [decOk, ho]; rfl
    have HO := Lib.hid ((hF.trans hF7).heap HB5.out (fun h => h))
    have hF07 := hF0w.trans hF7
    have o0 := heap_cell (o := 0) HO.out rfl
    have o1 := heap_cell (o := 1) HO.out rfl
    have o2 := heap_cell (o := 2) HO.out rfl
    have p0 := heap_frozen (o := 0) HO.out
    have p1 := heap_frozen (o := 1) HO.out
    have p2 := heap_frozen (o := 2) HO.out
    clear hr3 c0 c1 c2 hB CE
    go_wp2
    have q := heap_set3 (.string ⟨#[]⟩) (.int .i64 0) (.slice none 0 0) HO.out
    have q0 := heap_cell (o := 0) q rfl
    have q1 := heap_cell (o := 1) q rfl
    have q2 := heap_cell (o := 2) q rfl
    refine bodyPost_ret (v := .tuple #[.agg #[.string ⟨#[]⟩, .int .i64 0, .slice none 0 0], .bool false, .int .i64 110]) (by simp [results, Tryz.results108, go_sem, q0, q1, q2]) rfl ⟨hF07.set3 (Nat.le_refl _) _ _ _, .inr ⟨hok, rfl⟩⟩
end Go.Proofs.YtoajnmbbgbpbgaaGreat
namespace Go.Proofs.YtoajnmbbgbpbgaaGreat
set_option linter.unusedVariables false
set_option linter.unusedSimpArgs false
open Go.RowKit Go.Shelf
open Extern.Stop (cell)

/-- What Decode comes to. -/
def zeroIno (ok : Bool) (n : Int) : Ending := .returned (.tuple #[.agg #[.string ⟨#[]⟩, .int .i64 0, .slice none 0 0], .bool ok, .int .i64 n])
def DecPost (w : World) (l : List Int) (e : Ending) (w' : World) : Prop :=
  Fr No w w' ∧ ((decKind l = 0 ∧ e = zeroIno false 0) ∨ (decKind l = 1 ∧ ∃ r, e = .returned (.tuple #[.agg #[.string (nameOf l), .int .i64 (sizeOf' l), r], .bool true, .int .i64 0]) ∧ Sn w.heap.size w' r (extsF l 23 0).length (extCells (extsF l 23 0))) ∨ (decKind l = 2 ∧ e = zeroIno false 110))

theorem decode_calls (v : Value) (l : List Int) (w : World) (hlen : l.length ≤ 1000) (h0 : ∀ b ∈ l, 0 ≤ b ∧ b < 256) (hv : Sl w v l.length (bys l)) :
    Calls Tryz.prog 108 #[v] w (DecPost w l) := by
  by_cases h1 : l.length = 64
  · by_cases h2 : l = zs 64
    · have hb : decide (15 < l.getD 0 0) = false := by rw [h2]; decide
      refine (dec_zero v l w h1 h0 hv hb h2).mono ?_
      rintro e w' ⟨rfl, hF⟩
      exact ⟨hF, .inl ⟨by rw [decKind, if_neg (by omega), if_pos h2], rfl⟩⟩
    · by_cases h3 : 15 < l.getD 0 0
      · refine (dec_bad v l w hlen h0 hv (.inr ⟨h1, h3⟩)).mono ?_
        rintro e w' ⟨rfl, hF⟩
        exact ⟨hF, .inr (.inr ⟨by rw [decKind, if_neg (by omega), if_neg h2, if_pos h3], rfl⟩)⟩
      · refine (dec_good v l w h1 h0 hv (decide_eq_false h3) h2).mono ?_
        rintro e w' ⟨hF, ⟨ho, r, rfl, hr⟩ | ⟨ho, rfl⟩⟩
        · exact ⟨hF, .inr (.inl ⟨by rw [decKind, if_neg (by omega), if_neg h2, if_neg h3, if_pos ho], r, rfl, hr⟩)⟩
        · exact ⟨hF, .inr (.inr ⟨by rw [decKind, if_neg (by omega), if_neg h2, if_neg h3, ho]; rfl, rfl⟩)⟩
  · refine (dec_bad v l w hlen h0 hv (.inl h1)).mono ?_
    rintro e w' ⟨rfl, hF⟩
    exact ⟨hF, .inr (.inr ⟨by rw [decKind, if_pos h1], rfl⟩)⟩

set_option maxHeartbeats 1000000 in
set_option maxRecDepth 1000000 in
theorem rdec_len (v : Value) (l : List Int) (w : World) (hlen : l.length ≤ 1000) (hv : Sl w v l.length (bys l)) (h1 : l.length ≠ 64) :
    Calls Tryz.prog 122 #[v] w fun e w' => e = zeroIno false 110 ∧ Fr No w w' := by
  obtain ⟨a, cap, rfl⟩ := hv.form
  go_enter Tryz.func122, Tryz.ntmps122
  go_wp2
  refine bodyPost_ret (v := .tuple #[.agg #[.string ⟨#[]⟩, .int .i64 0, .slice none 0 0], .bool false, .int .i64 110]) (by simp [results, Tryz.results122, go_sem]) rfl ⟨rfl, (Fr.refl _ _).alloc _⟩

theorem rsame_zero (a : Option Addr) (cap : Nat) (l : List Int) (w : World) (z : Bool) (h1 : l.length = 64) (h0 : ∀ b ∈ l, 0 ≤ b ∧ b < 256) (hv : Sl w (.slice a 64 cap) 64 (bys l)) (hz : decide (l = zs 64) = z) :
    Calls Tryz.prog 124 #[.slice a 64 cap, .slice (some ⟨w.heap.size + 1, 0, none⟩) 64 64] ((w.alloc (Obj.cells #[.string ⟨#[]⟩, .int .i64 0, .slice none 0 0] 95)).alloc (Obj.cells (bys (zs 64)).toArray 5))
      fun e w' => e = .returned (.bool z) ∧ ((w.alloc (Obj.cells #[.string ⟨#[]⟩, .int .i64 0, .slice none 0 0] 95)).alloc (Obj.cells (bys (zs 64)).toArray 5)) = w' := by
  have hF0 : Fr No w ((w.alloc (Obj.cells #[.string ⟨#[]⟩, .int .i64 0, .slice none 0 0] 95)).alloc (Obj.cells (bys (zs 64)).toArray 5)) := ((Fr.refl _ _).alloc _).alloc _
  subst hz
  exact same01_calls (.slice a 64 cap) (.slice (some ⟨w.heap.size + 1, 0, none⟩) 64 64) l (zs 64) _ h0 (zs_range 64) (by rw [h1]; exact hv.fr0 hF0)
    (by have := (Row.new (w.alloc (Obj.cells #[.string ⟨#[]⟩, .int .i64 0, .slice none 0 0] 95)) 5 (zs 64)).sl; rw [zs_length] at this ⊢; simpa using this)

set_option maxHeartbeats 1000000 in
set_option maxRecDepth 1000000 in
theorem rdec_zero (v : Value) (l : List Int) (w : World) (h1 : l.length = 64) (h0 : ∀ b ∈ l, 0 ≤ b ∧ b < 256) (hv : Sl w v l.length (bys l)) (hz : l = zs 64) :
    Calls Tryz.prog 122 #[v] w fun e w' => e = zeroIno false 0 ∧ Fr No w w' := by
  obtain ⟨a, cap, rfl⟩ := hv.form
  have hF0 : Fr No w ((w.alloc (Obj.cells #[.string ⟨#[]⟩, .int .i64 0, .slice none 0 0] 95)).alloc (Obj.cells (bys (zs 64)).toArray 5)) := ((Fr.refl _ _).alloc _).alloc _
  rw [h1] at hv ⊢
  have HS' := Lib.hid (rsame_zero a cap l w true h1 h0 hv (decide_eq_true hz))
  have hmk : ∀ w : World, (Instr.makeSlice 22 (.int .i64 64) (.int .i64 64)).run Tryz.prog w = .ok (.slice (some ⟨w.heap.size, 0, none⟩) 64 64) (w.alloc (.cells (bys (zs 64)).toArray 5)) := fun w => mk_bytes w 64 (by omega)
  have HB0 := heap_alloc (Obj.cells (bys (zs 64)).toArray 5) (heap_new w (Obj.cells #[.string ⟨#[]⟩, .int .i64 0, .slice none 0 0] 95))
  have o0 := heap_cell (o := 0) HB0 rfl
  have o1 := heap_cell (o := 1) HB0 rfl
  have o2 := heap_cell (o := 2) HB0 rfl
  have p0 := heap_frozen (o := 0) HB0
  have p1 := heap_frozen (o := 1) HB0
  have p2 := heap_frozen (o := 2) HB0
  have HB := Lib.hid HB0
  clear hz hv HB0
  go_enter Tryz.func122, Tryz.ntmps122
  go_wp2_with (go_at_call 124; ((with_reducible refine HS'.out.mono ?_); rintro e w1 ⟨rfl, rfl⟩))
  have q := heap_set3 (.string ⟨#[]⟩) (.int .i64 0) (.slice none 0 0) HB.out
  have q0 := heap_cell (o := 0) q rfl
  have q1 := heap_cell (o := 1) q rfl
  have q2 := heap_cell (o := 2) q rfl
  refine bodyPost_ret (v := .tuple #[.agg #[.string ⟨#[]⟩, .int .i64 0, .slice none 0 0], .bool false, .int .i64 0]) (by simp [results, Tryz.results122, go_sem, q0, q1, q2]) rfl ⟨rfl, hF0⟩

set_option maxHeartbeats 1000000 in
set_option maxRecDepth 1000000 in
theorem rdec_bad (v : Value) (l : List Int) (w : World) (h1 : l.length = 64) (h0 : ∀ b ∈ l, 0 ≤ b ∧ b < 256) (hv : Sl w v l.length (bys l)) (hz : l ≠ zs 64) (hb : 15 < l.getD 0 0) :
    Calls Tryz.prog 122 #[v] w fun e w' => e = zeroIno false 110 ∧ Fr No w w' := by
  obtain ⟨a, cap, rfl⟩ := hv.form
  have hF0 : Fr No w ((w.alloc (Obj.cells #[.string ⟨#[]⟩, .int .i64 0, .slice none 0 0] 95)).alloc (Obj.cells (bys (zs 64)).toArray 5)) := ((Fr.refl _ _).alloc _).alloc _
  rw [h1] at hv ⊢
  have HS' := Lib.hid (rsame_zero a cap l w false h1 h0 hv (decide_eq_false hz))
  have hmk : ∀ w : World, (Instr.makeSlice 22 (.int .i64 64) (.int .i64 64)).run Tryz.prog w = .ok (.slice (some ⟨w.heap.size, 0, none⟩) 64 64) (w.alloc (.cells (bys (zs 64)).toArray 5)) := fun w => mk_bytes w 64 (by omega)
  have HB0 := heap_alloc (Obj.cells (bys (zs 64)).toArray 5) (heap_new w (Obj.cells #[.string ⟨#[]⟩, .int .i64 0, .slice none 0 0] 95))
  have o0 := heap_cell (o := 0) HB0 rfl
  have o1 := heap_cell (o := 1) HB0 rfl
  have o2 := heap_cell (o := 2) HB0 rfl
  have p0 := heap_frozen (o := 0) HB0
  have p1 := heap_frozen (o := 1) HB0
  have p2 := heap_frozen (o := 2) HB0
  have HB := Lib.hid HB0
  have hx : (0 : Nat) < l.length := by omega
  obtain ⟨b, off, rfl, hbb, hc⟩ := hv.at (bys_ne _ _ hx)
  have c1 := hF0.cell (hc _ _ (bys_get _ _ hx)) (fun h => h)
  have hg : l.getD 0 0 = l[0] := by simp [List.getD, hx]
  rw [hg] at hb
  rw [Nat.add_zero] at c1
  revert hb c1
  generalize l[0] = y
  intro hb c1
  clear hz hv HB0 hc h0 hg
  go_enter Tryz.func122, Tryz.ntmps122
  go_wp2_with (go_at_call 124; ((with_reducible refine HS'.out.mono ?_); rintro e w1 ⟨rfl, rfl⟩))
  have q := heap_set3 (.string ⟨#[]⟩) (.int .i64 0) (.slice none 0 0) HB.out
  have q0 := heap_cell (o := 0) q rfl
  have q1 := heap_cell (o := 1) q rfl
  have q2 := heap_cell (o := 2) q rfl
  refine bodyPost_ret (v := .tuple #[.agg #[.string ⟨#[]⟩, .int .i64 0, .slice none 0 0], .bool false, .int .i64 110]) (by simp [results, Tryz.results122, go_sem, q0, q1, q2]) rfl ⟨rfl, hF0⟩
end Go.Proofs.YtoajnmbbgbpbgaaGreat
namespace Go.Proofs.YtoajnmbbgbpbgaaGreat
set_option linter.unusedVariables false
set_option linter.unusedSimpArgs false
open Go.RowKit Go.Shelf

set_option maxHeartbeats 1000000 in
set_option maxRecDepth 1000000 in
theorem rdec_good (v : Value) (l : List Int) (w : World) (hl : l.length = 64) (h0 : ∀ b ∈ l, 0 ≤ b ∧ b < 256) (hv : Sl w v l.length (bys l)) (hz : l ≠ zs 64) (hb : decide (15 < l.getD 0 0) = false) :
    Calls Tryz.prog 122 #[v] w fun e w' => Fr No w w' ∧ ((decOk l = true ∧ ∃ r, e = .returned (.tuple #[.agg #[.string (nameOf l), .int .i64 (sizeOf' l), r], .bool true, .int .i64 0]) ∧ Sn w.heap.size w' r (extsF l 23 0).length (extCells (extsF l 23 0))) ∨ (decOk l = false ∧ e = zeroIno false 110)) := by
  obtain ⟨a, cap, rfl⟩ := hv.form
  have hF0 : Fr No w ((w.alloc (Obj.cells #[.string ⟨#[]⟩, .int .i64 0, .slice none 0 0] 95)).alloc (Obj.cells (bys (zs 64)).toArray 5)) := ((Fr.refl _ _).alloc _).alloc _
  rw [hl] at hv ⊢
  have HS' := Lib.hid (rsame_zero a cap l w false hl h0 hv (decide_eq_false hz))
  have hmk : ∀ w : World, (Instr.makeSlice 22 (.int .i64 64) (.int .i64 64)).run Tryz.prog w = .ok (.slice (some ⟨w.heap.size, 0, none⟩) 64 64) (w.alloc (.cells (bys (zs 64)).toArray 5)) := fun w => mk_bytes w 64 (by omega)
  have HB0 := heap_alloc (Obj.cells (bys (zs 64)).toArray 5) (heap_new w (Obj.cells #[.string ⟨#[]⟩, .int .i64 0, .slice none 0 0] 95))
  have hx : (0 : Nat) < l.length := by omega
  have hcap : 64 ≤ cap := hv.le
  obtain ⟨b, off, rfl, hbb, hc⟩ := hv.at (bys_ne _ _ hx)
  have c1 := hF0.cell (hc _ _ (bys_get _ _ hx)) (fun h => h)
  have hg : l.getD 0 0 = l[0] := by simp [List.getD, hx]
  rw [hg] at hb
  rw [Nat.add_zero] at c1
  have hr0 := h0 _ (List.getElem_mem hx)
  revert hb c1 hg hr0
  generalize l[0] = y
  intro hb c1 hg hr0
  obtain ⟨m, rfl⟩ : ∃ m : Nat, y = m := ⟨y.toNat, by omega⟩
  have hm : m ≤ 15 := by have := of_decide_eq_false hb; omega
  have h0' := h0
  have HV := Lib.hid hv
  have HB5 := Lib.hid HB0
  have HC := Lib.hid hc
  clear hr0 hz hv HB0 hc h0
  go_enter Tryz.func122, Tryz.ntmps122
  go_wp2_with (go_at_call 124; ((with_reducible refine HS'.out.mono ?_); rintro e w1 ⟨rfl, rfl⟩))
  clear hmk HS'
  generalize (w.alloc _).alloc _ = W5 at *
  have HVS := Lib.hid (fun w' (h : Fr No W5 w') => HV.out.fr0 (hF0.trans h))
  have hcv : ∀ w', Sl w' (.slice (some ⟨b, off, none⟩) 64 cap) 64 (bys l) → (convert 22 9 (.slice (some ⟨b, off + 1, none⟩) m (cap - 1))).run Tryz.prog w' = .ok (.string (nameOf l)) w' := fun w' h => by
    have hlen : ((l.drop 1).take m).length = m := by simp; omega
    have h1 : Sl w' (.slice (some ⟨b, off + 1, none⟩) ((l.drop 1).take m).length (cap - 1)) ((l.drop 1).take m).length (bys ((l.drop 1).take m)) := by
      have h3 := (h.drop (k := 1) (size := 1) (by omega) (by rw [bys_len]; omega))
      rw [if_neg (by omega)] at h3
      have h4 := h3.take (k := m) (by omega) 1
      rw [hlen]
      rw [show bys ((l.drop 1).take m) = ((bys l).drop (1 * 1)).take (m * 1) by simp [bys, List.map_take, List.map_drop]]
      simpa [Addr.add] using h4
    have h2 := conv_sl h1
    rw [hlen] at h2
    rw [h2, nameOf, hg, Int.toNat_natCast]
  have HN3 := Lib.hid (fun w1 (h : Fr No W5 w1) => (show Calls Tryz.prog 134 #[.slice (some ⟨b, off, none⟩) 64 cap, .int .i64 16, .int .i64 2] w1 fun e w' => e = .returned (.int .u64 (sizeOf' l)) ∧ w1 = w' from
    rnum_calls (.slice (some ⟨b, off, none⟩) 64 cap) l 16 2 w1 (by omega) (by omega) (by omega) h0' (by rw [hl]; exact HVS.out _ h)))
  have HSS := Lib.hid (fun w' (h : Fr No W5 w') => (⟨h, h.cell c1 (fun h => h), hcv w' (HVS.out _ h)⟩ : Fr No W5 w' ∧ w'.cell? ⟨b, off, none⟩ = some (.int .u8 m) ∧ (convert 22 9 (.slice (some ⟨b, off + 1, none⟩) m (cap - 1))).run Tryz.prog w' = .ok (.string (nameOf l)) w'))
  have hwm : IntKind.u8.wrap (1 + (m : Int)) = 1 + m := by rw [IntKind.wrap_u8]; omega
  have htm : (1 + (m : Int)).toNat = 1 + m := by omega
  have hm1 : 1 + m - 1 = m := by omega
  have hs1 : (1 : Int) ≤ 1 + (m : Int) := by omega
  have hs2 : (1 : Int) + (m : Int) ≤ cap := by omega
  have hs3 : (0 : Int) ≤ 1 + (m : Int) := by omega
  have hs4 : 1 + m ≤ cap := by omega
  have hs5 : ¬ cap = 1 := by omega
  have hnb := numL_sum l h0' 16 2 (by omega)
  have hnl := sumL_lt l h0' 16 2
  have hsw : IntKind.i64.wrap (sizeOf' l) = sizeOf' l := IntWalk.i64_in _ (by rw [sizeOf', hnb]; omega)
  have HSB := Lib.hid (show 0 ≤ sizeOf' l ∧ sizeOf' l < 65536 by rw [sizeOf', hnb]; omega)
  clear hnb hnl hcv
  have hFW := Fr.refl No W5
  go_cut [5] (fun s6 wx => ∃ b6 : Nat, s6 = .pointer (some ⟨b6, 0, none⟩) ∧ W5.heap.size ≤ b6 ∧ Fr No W5 wx ∧ wx.heap[b6]? = some (.cells #[.string (nameOf l), .int .i64 (sizeOf' l), .slice none 0 0] 95 (0, 0)))
  case first =>
    go_region_held3 (fun w' => Fr No W5 w' ∧ w'.cell? ⟨b, off, none⟩ = some (.int .u8 m) ∧ (convert 22 9 (.slice (some ⟨b, off + 1, none⟩) m (cap - 1))).run Tryz.prog w' = .ok (.string (nameOf l)) w')
      (first | exact HSS.out _ hFW | exact HSS.out _ hFW.drew | exact HSS.out _ (hFW.alloc _) | exact HSS.out _ (hFW.alloc _).drew | fail "keep")
      (first | (go_at_call 134; (first | (with_reducible refine (HN3.out _ hFW).mono ?_) | (with_reducible refine (HN3.out _ hFW.drew).mono ?_) | (with_reducible refine (HN3.out _ (hFW.alloc _).drew).mono ?_)); rintro e w5 ⟨rfl, rfl⟩))
    all_goals (go_wp2_with fail; go_meet; exact ⟨_, rfl, Nat.le_refl _, (hFW.alloc _).drew, heap_new W5 _⟩)
  case rest =>
  obtain ⟨b6, rfl, hb6, hFx, HB6⟩ := hcut
  clear hFW
  go_upto_block 0 with fail
  go_cut [6] (fun s6' wx => ∃ r : Value, wx.heap[b6]? = some (.cells #[.string (nameOf l), .int .i64 (sizeOf' l), r] 95 (0, 0)) ∧ wx.ownsRow W5.heap.size 139 2 r (extsF l 23 0).length (extCells (extsF l 23 0)) ∧ Fr No W5 wx)
  case first =>
    go_wp2_with fail
    go_loopw [6] (fun i wr => ∃ j k : Nat, k ≤ 23 ∧ j = 18 + 2 * k ∧ i = .int .i64 j ∧ ∃ (pre : List (Int × Int)) (r : Value), pre.length = k ∧ extsF l 23 0 = pre ++ extsF l (23 - k) k ∧ wr.heap[b6]? = some (.cells #[.string (nameOf l), .int .i64 (sizeOf' l), r] 95 (0, 0)) ∧ wr.ownsRow W5.heap.size 139 2 r pre.length (extCells pre) ∧ Fr No W5 wr)
      (fun i _ => 64 - (intOf i).toNat)
    case atStart => exact ⟨18, 0, by omega, rfl, rfl, [], _, rfl, rfl, HB6, World.ownsRow_nil _ _ _ _, hFx⟩
    case round =>
      obtain ⟨j, k, hk, hj, rfl, pre, r, hpl, hpre, hB, hrow, hF⟩ := hrel
      by_cases hk3 : k < 23
      · have i1 : j < l.length := by omega
        have i2 : j + 1 < l.length := by omega
        have q1 := hF.cell (hF0.cell (HC.out _ _ (bys_get _ _ i1)) (fun h => h)) (fun h => h)
        have q2 := hF.cell (hF0.cell (HC.out _ _ (bys_get _ _ i2)) (fun h => h)) (fun h => h)
        have z1 := h0' _ (List.getElem_mem i1)
        have z2 := h0' _ (List.getElem_mem i2)
        have hst : extsF l (23 - k) k = if l[j + 1] = 0 then [] else (l[j], l[j + 1]) :: extsF l (22 - k) (k + 1) := by
          rw [show 23 - k = (22 - k) + 1 by omega, extsF]
          simp [List.getD, i1, i2, ← hj]
        revert q1 q2 z1 z2 hst
        generalize l[j + 1] = x2
        generalize l[j] = x1
        intro q1 q2 z1 z2 hst
        have HJ := Lib.hid hj
        have hj1 : j < 63 := by omega
        have hj2 : 18 ≤ j := by omega
        clear hj i1 i2
        by_cases hx2 : x2 = 0
        · subst hx2
          rw [if_pos rfl] at hst
          have hpe : extsF l 23 0 = pre := by rw [hpre, hst, List.append_nil]
          clear hst hpre q1 z1 z2
          rw [← hpe] at hrow
          go_wp2_with fail
          go_meet
          exact ⟨r, hB, hrow, hF⟩
        · rw [if_neg hx2] at hst
          have hgt : 0 < x2 := by omega
          obtain ⟨z10, z11⟩ := z1
          obtain ⟨z20, z21⟩ := z2
          have HST := Lib.hid hst
          have HPRE := Lib.hid hpre
          have HPL := Lib.hid hpl
          have hpb : pre.length ≤ 22 := by omega
          clear hst hpre hx2 hpl
          have k2 := heap_cell (o := 2) hB rfl
          go_wp2
          have hw1 : IntKind.i64.wrap ((j : Int) + 1) = (j : Int) + 1 := IntWalk.i64_in _ (by omega)
          have hw2 : ((j : Int) + 1).toNat = j + 1 := by omega
          have hw3 : 0 ≤ (j : Int) + 1 := by omega
          have hw4 : (j : Int) + 1 < 64 := by omega
          have hw5 : IntKind.i64.wrap x1 = x1 := IntWalk.i64_in _ (by omega)
          have hw6 : IntKind.i64.wrap x2 = x2 := IntWalk.i64_in _ (by omega)
          obtain ⟨i0, hi0, hz0, hz1, hz2⟩ := info_parts el_ext.info
          have hwl := hF.size
          have hbl : b < wr.heap.size := by have := hF0.size; omega
          have hb6l := heap_lt hB
          go_region_law (refine step_append_lies _ (by rfl) _ _ _ (by rfl) W5.heap.size 139 i0 _ 2 16 el_ext.und hi0 hz0 hz1 hz2 rfl (by omega) r pre.length (extCells pre) (by rfl) (World.ownsRow.drew (hrow.alloc _)) ⟨wr.heap.size, 0, none⟩ 1 1 [.int .i64 x1, .int .i64 x2] (by rfl) (by rfl) (World.news_of_block (cs := #[.int .i64 x1, .int .i64 x2]) (t := 139) (fr := (0, 0)) (heap_alloc_new wr _)) (by simp [Value.oneCell']) (by omega) (by unfold maxLen; omega) (by omega) (by simp; omega) (wr.heap.size + 1) (by simp) ?_; intro gg cap' w3 hown' hgrow hat hlt; have hg3 := grownBy_alloc (grownBy_undrew hgrow); have h3 := (hg3.block b6 (heap_lt hB) (not_row hB (by decide) hrow)).trans hB; have k3 := heap_cell (o := 2) h3 rfl; have k4 := heap_frozen (o := 2) h3)
          all_goals (
            have hB9 : (w3.setCell ⟨b6, 2, none⟩ (.slice (some ⟨gg, 0, none⟩) (pre.length + 1) cap')).heap[b6]? = some (.cells #[.string (nameOf l), .int .i64 (sizeOf' l), .slice (some ⟨gg, 0, none⟩) (pre.length + 1) cap'] 95 (0, 0)) := by simp [World.setCell, Array.getElem?_modify, h3]
            have hgs : w3.grownBy (w3.setCell ⟨b6, 2, none⟩ (.slice (some ⟨gg, 0, none⟩) (pre.length + 1) cap')) (some b6) := ⟨rfl, rfl, rfl, by simp [World.setCell], fun i _ hn => Below.heap_setCell _ _ _ _ (fun e => hn (by rw [e]))⟩
            have hrow9 := hown'.kept hgs (.inr (not_row h3 (by decide) hown').symm)
            have hF9 := (hF.grown hg3 (fun k e hk => by have := (hrow.lt k e).1; omega)).setCell (p := ⟨b6, 2, none⟩) (fun hh => absurd hh (by simp; omega)) (.slice (some ⟨gg, 0, none⟩) (pre.length + 1) cap')
            clear hgs h3 hg3 k3 k4 hown' hgrow hat hlt hrow hB
            generalize World.setCell w3 _ _ = W9 at *
            go_wp2
            refine ⟨⟨j + 2, k + 1, by omega, by have := HJ.out; omega, by go_num, pre ++ [(x1, x2)], .slice (some ⟨gg, 0, none⟩) (pre.length + 1) cap', by simp [HPL.out], ?_, hB9, ?_, hF9⟩, by simp [intOf]; omega⟩
            · rw [HPRE.out, HST.out, show 22 - k = 23 - (k + 1) by omega]; simp
            · rw [extCells_snoc, List.length_append, List.length_singleton]; exact hrow9)
      · have hk4 : k = 23 := by omega
        subst hk4
        have hpe : extsF l 23 0 = pre := by rw [hpre]; simp [extsF]
        have hj64 : j = 64 := by omega
        subst hj64
        clear hpre
        rw [← hpe] at hrow
        go_wp2_with fail
        go_meet
        exact ⟨r, hB, hrow, hF⟩
  case rest =>
  obtain ⟨r, hB, hrow, hF⟩ := hcut
  have hr3 := Sl.of_owns hrow
  obtain ⟨a3, cap3, rfl⟩ := hr3.form
  have c0 := heap_cell (o := 0) hB rfl
  have c1 := heap_cell (o := 1) hB rfl
  have c2 := heap_cell (o := 2) hB rfl
  have hF0w : Fr No w wc := hF0.trans hF
  have hsz := HSB.out
  have CE := Lib.hid (rencode_calls (nameOf l) (sizeOf' l) (.slice a3 (extsF l 23 0).length cap3) (extsF l 23 0) wc (by rw [nameOf, strOfNums_size, hg]; simp; omega) (by omega) (by omega) (by have := extsF_length l 23 0; omega) hr3)
  have HB3 := Lib.hid (fun k (e : (Value.slice a3 (extsF l 23 0).length cap3).ownBlock = some k) => (hrow.lt k e).1)
  clear hsz hrow
  go_wp2_with fail
  refine CE.out.mono ?_
  rintro e w7 ⟨hF7, ⟨ho, r7, rfl, hr7, -⟩ | ⟨ho, rfl⟩⟩
  · have g2 := (inoOk_small ho).2.1
    have HQ := same01_calls (.slice (some ⟨b, off, none⟩) 64 cap) r7 l (encF (nameOf l) (sizeOf' l) (extsF l 23 0)) w7 h0' (encF_range _ _ _ g2) (by rw [hl]; exact HV.out.fr0 (hF0w.trans hF7)) (by rw [encF_length _ _ _ g2]; exact hr7)
    have HT := Lib.hid (hF7.heap hB (fun h => h))
    have HO := Lib.hid ((hF.trans hF7).heap HB5.out (fun h => h))
    have HS3 := Lib.hid (Sl.fr0 hr3 hF7)
    have hF07 := hF0w.trans hF7
    have d0 := heap_cell (o := 0) HT.out rfl
    have d1 := heap_cell (o := 1) HT.out rfl
    have d2 := heap_cell (o := 2) HT.out rfl
    have o0 := heap_cell (o := 0) HO.out rfl
    have o1 := heap_cell (o := 1) HO.out rfl
    have o2 := heap_cell (o := 2) HO.out rfl
    have p0 := heap_frozen (o := 0) HO.out
    have p1 := heap_frozen (o := 1) HO.out
    have p2 := heap_frozen (o := 2) HO.out
    clear hr7 hr3 c0 c1 c2 hB CE
    by_cases hq : encF (nameOf l) (sizeOf' l) (extsF l 23 0) = l
    · rw [decide_eq_true hq.symm] at HQ
      have HQ' := Lib.hid HQ
      have hok : decOk l = true := by rw [decOk, ho, decide_eq_true hq]; rfl
      clear HQ hq
      go_wp2_with (go_at_call 124; ((with_reducible refine HQ'.out.mono ?_); rintro e w8 ⟨rfl, rfl⟩))
      have q := heap_set3 (.string (nameOf l)) (.int .i64 (sizeOf' l)) (.slice a3 (extsF l 23 0).length cap3) HO.out
      have q0 := heap_cell (o := 0) q rfl
      have q1 := heap_cell (o := 1) q rfl
      have q2 := heap_cell (o := 2) q rfl
      refine bodyPost_ret (v := .tuple #[.agg #[.string (nameOf l), .int .i64 (sizeOf' l), .slice a3 (extsF l 23 0).length cap3], .bool true, .int .i64 0]) (by simp [results, Tryz.results122, go_sem, q0, q1, q2]) rfl ⟨hF07.set3 (Nat.le_refl _) _ _ _, .inl ⟨hok, _, rfl, HS3.out.fr (Fr.set3_at _ _ _ _ _) (fun k e _ hk => by have := HB3.out k e; have := heap_lt HB5.out; omega), fun k e _ => by have := HB3.out k e; have := hF0.size; omega⟩⟩
    · rw [decide_eq_false (fun e => hq e.symm)] at HQ
      have HQ' := Lib.hid HQ
      have hok : decOk l = false := by rw [decOk, ho, decide_eq_false hq]; rfl
      clear HQ hq
      go_wp2_with (go_at_call 124; ((with_reducible refine HQ'.out.mono ?_); rintro e w8 ⟨rfl, rfl⟩))
      have q := heap_set3 (.string ⟨#[]⟩) (.int .i64 0) (.slice none 0 0) HO.out
      have q0 := heap_cell (o := 0) q rfl
      have q1 := heap_cell (o := 1) q rfl
      have q2 := heap_cell (o := 2) q rfl
      refine bodyPost_ret (v := .tuple #[.agg #[.string ⟨#[]⟩, .int .i64 0, .slice none 0 0], .bool false, .int .i64 110]) (by simp [results, Tryz.results122, go_sem, q0, q1, q2]) rfl ⟨hF07.set3 (Nat.le_refl _) _ _ _, .inr ⟨hok, rfl⟩⟩
  · have hok : decOk l = false := by rw [decOk, ho]; rfl
    have HO := Lib.hid ((hF.trans hF7).heap HB5.out (fun h => h))
    have hF07 := hF0w.trans hF7
    have o0 := heap_cell (o := 0) HO.out rfl
    have o1 := heap_cell (o := 1) HO.out rfl
    have o2 := heap_cell (o := 2) HO.out rfl
    have p0 := heap_frozen (o := 0) HO.out
    have p1 := heap_frozen (o := 1) HO.out
    have p2 := heap_frozen (o := 2) HO.out
    clear hr3 c0 c1 c2 hB CE
    go_wp2
    have q := heap_set3 (.string ⟨#[]⟩) (.int .i64 0) (.slice none 0 0) HO.out
    have q0 := heap_cell (o := 0) q rfl
    have q1 := heap_cell (o := 1) q rfl
    have q2 := heap_cell (o := 2) q rfl
    refine bodyPost_ret (v := .tuple #[.agg #[.string ⟨#[]⟩, .int .i64 0, .slice none 0 0], .bool false, .int .i64 110]) (by simp [results, Tryz.results122, go_sem, q0, q1, q2]) rfl ⟨hF07.set3 (Nat.le_refl _) _ _ _, .inr ⟨hok, rfl⟩⟩

theorem rdecode_calls (v : Value) (l : List Int) (w : World) (hlen : l.length ≤ 1000) (h0 : ∀ b ∈ l, 0 ≤ b ∧ b < 256) (hv : Sl w v l.length (bys l)) :
    Calls Tryz.prog 122 #[v] w (DecPost w l) := by
  by_cases h1 : l.length = 64
  · by_cases h2 : l = zs 64
    · refine (rdec_zero v l w h1 h0 hv h2).mono ?_
      rintro e w' ⟨rfl, hF⟩
      exact ⟨hF, .inl ⟨by rw [decKind, if_neg (by omega), if_pos h2], rfl⟩⟩
    · by_cases h3 : 15 < l.getD 0 0
      · refine (rdec_bad v l w h1 h0 hv h2 h3).mono ?_
        rintro e w' ⟨rfl, hF⟩
        exact ⟨hF, .inr (.inr ⟨by rw [decKind, if_neg (by omega), if_neg h2, if_pos h3], rfl⟩)⟩
      · refine (rdec_good v l w h1 h0 hv h2 (decide_eq_false h3)).mono ?_
        rintro e w' ⟨hF, ⟨ho, r, rfl, hr⟩ | ⟨ho, rfl⟩⟩
        · exact ⟨hF, .inr (.inl ⟨by rw [decKind, if_neg (by omega), if_neg h2, if_neg h3, if_pos ho], r, rfl, hr⟩)⟩
        · exact ⟨hF, .inr (.inr ⟨by rw [decKind, if_neg (by omega), if_neg h2, if_neg h3, ho]; rfl, rfl⟩)⟩
  · refine (rdec_len v l w hlen hv h1).mono ?_
    rintro e w' ⟨rfl, hF⟩
    exact ⟨hF, .inr (.inr ⟨by rw [decKind, if_pos h1], rfl⟩)⟩
end Go.Proofs.YtoajnmbbgbpbgaaGreat
namespace Go.Proofs.YtoajnmbbgbpbgaaGreat
set_option linter.unusedVariables false
set_option linter.unusedSimpArgs false
open Go.RowKit Go.Shelf

/-- What Decode tells, said once for all bytes. -/
def decS (l : List Int) : ByteArray := if decKind l = 1 then nameOf l else ⟨#[]⟩
def decN (l : List Int) : Int := if decKind l = 1 then sizeOf' l else 0
def decX (l : List Int) : List (Int × Int) := if decKind l = 1 then extsF l 23 0 else []
def decB (l : List Int) : Bool := decide (decKind l = 1)
def decE (l : List Int) : Int := if decKind l = 2 then 110 else 0
theorem decX_length (l : List Int) : (decX l).length ≤ 23 := by
  rw [decX]; split
  · exact extsF_length l 23 0
  · simp
theorem dec_uni {w w' : World} {l : List Int} {e : Ending} (h : DecPost w l e w') :
    Fr No w w' ∧ ∃ r, e = .returned (.tuple #[.agg #[.string (decS l), .int .i64 (decN l), r], .bool (decB l), .int .i64 (decE l)]) ∧ Sl w' r (decX l).length (extCells (decX l)) := by
  obtain ⟨hF, ⟨hk, rfl⟩ | ⟨hk, r, rfl, hr⟩ | ⟨hk, rfl⟩⟩ := h
  · exact ⟨hF, _, by rw [zeroIno, decS, decN, decB, decE, hk]; rfl, by rw [decX, hk]; exact Sl.nil _⟩
  · exact ⟨hF, r, by rw [decS, decN, decB, decE, hk]; rfl, by rw [decX, hk]; exact hr.1⟩
  · exact ⟨hF, _, by rw [zeroIno, decS, decN, decB, decE, hk]; rfl, by rw [decX, hk]; exact Sl.nil _⟩

theorem dec_new {w w' : World} {l : List Int} {e : Ending} (h : DecPost w l e w') :
    Fr No w w' ∧ ∃ r, e = .returned (.tuple #[.agg #[.string (decS l), .int .i64 (decN l), r], .bool (decB l), .int .i64 (decE l)]) ∧ Sn w.heap.size w' r (decX l).length (extCells (decX l)) := by
  obtain ⟨hF, ⟨hk, rfl⟩ | ⟨hk, r, rfl, hr⟩ | ⟨hk, rfl⟩⟩ := h
  · exact ⟨hF, _, by rw [zeroIno, decS, decN, decB, decE, hk]; rfl, by rw [decX, hk]; exact Sn.nil _ _⟩
  · exact ⟨hF, r, by rw [decS, decN, decB, decE, hk]; rfl, by rw [decX, hk]; exact hr⟩
  · exact ⟨hF, _, by rw [zeroIno, decS, decN, decB, decE, hk]; rfl, by rw [decX, hk]; exact Sn.nil _ _⟩

end Go.Proofs.YtoajnmbbgbpbgaaGreat
