/-
  What arguments read as, opened: slices of whatever elements, as 'Sl' says it.
-/
import Derived.Test.YtpcikbloflpahaaDoorYA
import Derived.Test.YtpcikbloflpahaaDoorRows
import Derived.WalkKit
import Derived.ProofKit
import Derived.OpenShut
import Derived.ShutString
import Derived.ChangeOld
import Derived.Below
import Derived.Deep.Slices
import Derived.SizedLaws
import Derived.Test.YtpcikbloflpahaaDoorYB
namespace Go.Proofs.YtpcikbloflpahaaDoor
set_option linter.unusedVariables false
set_option linter.unusedSimpArgs false
open Go.RowKit Go.Deep Go.ChangeShapes Go.WideShapes

section
variable {H : Type} {enc : TypeId × Value → H} {P : Program} {W : World} {base : Nat} {spare : Nat → Bool} {held : Bool}

theorem flat_length {α : Type} (cells : α → List Value) (sz : Nat) (hcl : ∀ y, (cells y).length = sz) (l : List α) : (l.flatMap cells).length = l.length * sz := by
  induction l with
  | nil => simp
  | cons y l ih => rw [List.flatMap_cons, List.length_append, ih, hcl, List.length_cons, Nat.succ_mul]; omega

/-- A slice opened: its elements, each as 'cells' has it, each with what its reading tells ('ok'). -/
theorem sl_open {α : Type} [Inhabited α] {t e : TypeId} {sz fuel : Nat} {v : Value} {x : DataW H × List MemPlace} (cells : α → List Value) (ok : α → Prop)
    (ht : P.underlying t = some (.slice e)) (hs : P.cellsOf e = sz) (hp : 0 < sz) (hcl : ∀ y, (cells y).length = sz)
    (el : ∀ n cs z, cs.length = sz → DataW.trod enc P W base spare held n e cs = some z → ∃ y, cs = cells y ∧ ok y)
    (h : DataW.trod enc P W base spare held fuel t [v] = some x) :
    ∃ xs : List α, Sl W v xs.length (xs.flatMap cells) ∧ xs.length ≤ maxLen ∧ ∀ y ∈ xs, ok y := by
  rcases open_slice ht h with ⟨h1, -⟩ | ⟨a, len, cap, m, n, D, Pl, h1, hb, hl, hm, hmm, -, hx⟩
  · cases h1; exact ⟨[], Sl.nil W, by simp, by simp⟩
  · cases h1
    have hle : len ≤ m := by rw [hmm]; split <;> omega
    have hx' : ∀ i, i < len → ∃ y : α, ok y ∧ ∀ j, j < sz → W.cell? ((a.add (i * sz)).add j) = (cells y)[j]? := fun i hi => by
      obtain ⟨cs', g1, g2⟩ := hx i (Nat.lt_of_lt_of_le hi hle)
      rw [hs] at g1
      obtain ⟨_, k1, k2⟩ := World.cells?_some g1
      obtain ⟨y, rfl, hy⟩ := el _ _ _ k1 g2
      exact ⟨y, hy, k2⟩
    obtain ⟨f, hf⟩ := choose_lt hx'
    refine ⟨(List.range len).map f, ?_, by simp; omega, fun y hy => ?_⟩
    rotate_left
    · simp only [List.mem_map, List.mem_range] at hy
      obtain ⟨i, hi, rfl⟩ := hy
      exact (hf i hi).1
    simp only [List.length_map, List.length_range]
    have hcell : ∀ k u, (((List.range len).map f).flatMap cells)[k]? = some u → W.cell? (a.add k) = some u := by
      have : ∀ (len' : Nat), len' ≤ len → ∀ k u, (((List.range len').map f).flatMap cells)[k]? = some u → W.cell? (a.add k) = some u := by
        intro len'
        induction len' with
        | zero => intro _ k u hk; simp at hk
        | succ l ih =>
          intro hll k u hk
          have hlen : (((List.range l).map f).flatMap cells).length = l * sz := by
            rw [flat_length cells sz hcl]; simp
          rw [List.range_succ, List.map_append, List.flatMap_append] at hk
          by_cases hkl : k < l * sz
          · rw [List.getElem?_append_left (by omega)] at hk
            exact ih (by omega) k u hk
          · rw [List.getElem?_append_right (by omega), hlen] at hk
            have hk' : (cells (f l))[k - l * sz]? = some u := by simpa using hk
            have hlt : k - l * sz < sz := by
              have h3 := hcl (f l)
              cases Nat.lt_or_ge (k - l * sz) sz with
              | inl h => exact h
              | inr h => rw [List.getElem?_eq_none (by omega)] at hk'; cases hk'
            have := (hf l (by omega)).2 _ hlt
            rw [hk', add_add] at this
            rw [← this]; congr 2; omega
      exact fun k u h => this len (Nat.le_refl _) k u h
    refine ⟨some a, cap, rfl, ⟨by simp, hl⟩, fun hne => ?_, fun b off j u e hj => ?_⟩
    · cases hxs : ((List.range len).map f).flatMap cells with
      | nil => exact absurd hxs hne
      | cons c cs =>
        have h3 := hcell 0 c (by rw [hxs]; rfl)
        obtain ⟨b, off, sp⟩ := a
        cases sp with
        | none => exact ⟨b, off, rfl⟩
        | some s =>
          simp only [Addr.add, if_true, World.cell?] at h3
          split at h3 <;> simp at h3
    · cases e
      have := hcell j u hj
      simp only [Addr.add] at this
      split at this
      · next h0 => subst h0; simpa using this
      · exact this

theorem open_int64s {f0 f1 : Field} {e : TypeId} (he : P.underlying e = some (.struct #[f0, f1])) (o0 : f0.offset = 0) (o1 : f1.offset = 1) (e0 : P.underlying f0.type = some (.int .i64)) (e1 : P.underlying f1.type = some (.int .i64))
    (c0 : P.cellsOf f0.type = 1) (c1 : P.cellsOf f1.type = 1) (n : Nat) (cs : List Value) (z : DataW H × List MemPlace) (hl : cs.length = 2) (h : DataW.trod enc P W base spare held n e cs = some z) :
    ∃ y : Int × Int, cs = [.int .i64 y.1, .int .i64 y.2] ∧ ((Lit.int .i64 y.1).wf = true ∧ (Lit.int .i64 y.2).wf = true) := by
  obtain ⟨y0, y1, m, -, -, h0, h1⟩ := trod_struct2 he h
  rw [o0, c0] at h0
  rw [o1, c1] at h1
  match cs, hl with
  | [u0, u1], _ =>
    obtain ⟨n0, g0, -, w0⟩ := DataW.trod_int e0 h0
    obtain ⟨n1, g1, -, w1⟩ := DataW.trod_int e1 h1
    simp at g0 g1
    subst g0; subst g1
    exact ⟨(n0, n1), rfl, w0, w1⟩
end

end Go.Proofs.YtpcikbloflpahaaDoor
namespace Go.Proofs.YtpcikbloflpahaaDoor
set_option linter.unusedVariables false
set_option linter.unusedSimpArgs false
open Go.RowKit Go.Deep Go.ChangeShapes Go.WideShapes

section
variable {H : Type} {enc : TypeId × Value → H} {P : Program} {W : World} {base : Nat} {spare : Nat → Bool} {held : Bool}

theorem open_sni {t : TypeId} {f0 f1 f2 : Field} {r : Reach} {b0 : Nat} {v : Value} {d : DataW H} {ps : List MemPlace} (Q : Value → Prop) (ht : P.underlying t = some (.struct #[f0, f1, f2])) (hc : P.cellsOf t = 3)
    (o0 : f0.offset = 0) (o1 : f1.offset = 1) (o2 : f2.offset = 2) (c0 : P.cellsOf f0.type = 1) (c1 : P.cellsOf f1.type = 1) (c2 : P.cellsOf f2.type = 1)
    (u0 : P.underlying f0.type = some .string) (u1 : P.underlying f1.type = some (.int .i64))
    (hQ : ∀ fuel u x, DataW.trod enc P W base spare held fuel f2.type [u] = some x → Q u)
    (hval : Value.okWide P W r b0 t v) (h : DataW.Trod enc P W base spare held t v d ps) :
    ∃ (s : ByteArray) (n : Int) (u : Value), v = .agg #[.string s, .int .i64 n, u] ∧ s.size ≤ maxLen ∧ (Lit.int .i64 n).wf = true ∧ Q u := by
  obtain ⟨cs, rfl, hsz⟩ := okWide_struct ht hval
  rw [hc] at hsz
  obtain ⟨fuel, hf⟩ := h
  obtain ⟨xs, m, -, -, -, hxl, hall⟩ := DataW.trod_struct ht hf
  have hcs : cs = #[cs[0], cs[1], cs[2]] := by
    apply Array.ext
    · simp [hsz]
    · intro i h1 h2
      simp at h2
      match i, h2 with
      | 0, _ => rfl
      | 1, _ => rfl
      | 2, _ => rfl
  generalize cs[0] = y0 at hcs
  generalize cs[1] = y1 at hcs
  generalize cs[2] = y2 at hcs
  subst hcs
  match xs, hxl with
  | [z0, z1, z2], _ =>
    have a0 := hall 0 f0 rfl
    have a1 := hall 1 f1 rfl
    have a2 := hall 2 f2 rfl
    rw [o0, c0] at a0
    rw [o1, c1] at a1
    rw [o2, c2] at a2
    simp [Value.cells] at a0 a1 a2
    obtain ⟨s, g0, -, hs⟩ := DataW.trod_string u0 a0
    obtain ⟨n, g1, -, hn⟩ := DataW.trod_int u1 a1
    simp at g0 g1
    subst g0; subst g1
    exact ⟨s, n, y2, rfl, hs, hn, hQ _ _ _ a2⟩
end
end Go.Proofs.YtpcikbloflpahaaDoor
namespace Go.Proofs.YtpcikbloflpahaaDoor
set_option linter.unusedVariables false
set_option linter.unusedSimpArgs false
open Go.RowKit Go.Deep Go.ChangeShapes Go.WideShapes

section
variable {H : Type} {enc : TypeId × Value → H} {P : Program} {W : World} {base : Nat} {spare : Nat → Bool} {held : Bool}

theorem bys_flat (l : List Int) : l.flatMap (fun y => [Value.int .u8 y]) = bys l := by
  induction l with
  | nil => rfl
  | cons y l ih => rw [List.flatMap_cons, ih]; rfl
theorem sl_open_bytes {t e : TypeId} {fuel : Nat} {v : Value} {x : DataW H × List MemPlace} (ht : P.underlying t = some (.slice e)) (he : P.underlying e = some (.int .u8)) (hs : P.cellsOf e = 1)
    (h : DataW.trod enc P W base spare held fuel t [v] = some x) : ∃ xs : List Int, Sl W v xs.length (bys xs) ∧ xs.length ≤ maxLen ∧ ∀ y ∈ xs, 0 ≤ y ∧ y < 256 := by
  obtain ⟨xs, h1, h2, h3⟩ := sl_open (fun y : Int => [.int .u8 y]) (fun y => (Lit.int .u8 y).wf = true) ht hs (by decide) (fun _ => rfl) (fun n cs z hl hh => by
    match cs, hl with
    | [u0], _ =>
      obtain ⟨n0, g0, -, w0⟩ := DataW.trod_int he hh
      simp at g0
      subst g0
      exact ⟨n0, rfl, w0⟩) h
  rw [bys_flat] at h1
  exact ⟨xs, h1, h2, fun y hy => by have := bounds_u8 (h3 y hy); omega⟩
end
end Go.Proofs.YtpcikbloflpahaaDoor
namespace Go.Proofs.YtpcikbloflpahaaDoor
set_option linter.unusedVariables false
set_option linter.unusedSimpArgs false
open Go.RowKit Go.Deep Go.ChangeShapes Go.WideShapes

section
variable {H : Type} {enc : TypeId × Value → H} {P : Program} {W : World} {base : Nat} {spare : Nat → Bool} {held : Bool}

theorem open_nnnu {t : TypeId} {f0 f1 f2 f3 : Field} {r : Reach} {b0 : Nat} {v : Value} {d : DataW H} {ps : List MemPlace} (Q : Value → Prop) (ht : P.underlying t = some (.struct #[f0, f1, f2, f3])) (hc : P.cellsOf t = 4)
    (o0 : f0.offset = 0) (o1 : f1.offset = 1) (o2 : f2.offset = 2) (o3 : f3.offset = 3) (c0 : P.cellsOf f0.type = 1) (c1 : P.cellsOf f1.type = 1) (c2 : P.cellsOf f2.type = 1) (c3 : P.cellsOf f3.type = 1)
    (u0 : P.underlying f0.type = some (.int .i64)) (u1 : P.underlying f1.type = some (.int .i64)) (u2 : P.underlying f2.type = some (.int .i64))
    (hQ : ∀ fuel u x, DataW.trod enc P W base spare held fuel f3.type [u] = some x → Q u)
    (hval : Value.okWide P W r b0 t v) (h : DataW.Trod enc P W base spare held t v d ps) :
    ∃ (k a n : Int) (u : Value), v = .agg #[.int .i64 k, .int .i64 a, .int .i64 n, u] ∧ (Lit.int .i64 k).wf = true ∧ (Lit.int .i64 a).wf = true ∧ (Lit.int .i64 n).wf = true ∧ Q u := by
  obtain ⟨cs, rfl, hsz⟩ := okWide_struct ht hval
  rw [hc] at hsz
  obtain ⟨fuel, hf⟩ := h
  obtain ⟨xs, m, -, -, -, hxl, hall⟩ := DataW.trod_struct ht hf
  have hcs : cs = #[cs[0], cs[1], cs[2], cs[3]] := by
    apply Array.ext
    · simp [hsz]
    · intro i h1 h2
      simp at h2
      match i, h2 with
      | 0, _ => rfl
      | 1, _ => rfl
      | 2, _ => rfl
      | 3, _ => rfl
  generalize cs[0] = y0 at hcs
  generalize cs[1] = y1 at hcs
  generalize cs[2] = y2 at hcs
  generalize cs[3] = y3 at hcs
  subst hcs
  match xs, hxl with
  | [z0, z1, z2, z3], _ =>
    have a0 := hall 0 f0 rfl
    have a1 := hall 1 f1 rfl
    have a2 := hall 2 f2 rfl
    have a3 := hall 3 f3 rfl
    rw [o0, c0] at a0
    rw [o1, c1] at a1
    rw [o2, c2] at a2
    rw [o3, c3] at a3
    simp [Value.cells] at a0 a1 a2 a3
    obtain ⟨k, g0, -, hk⟩ := DataW.trod_int u0 a0
    obtain ⟨a, g1, -, ha⟩ := DataW.trod_int u1 a1
    obtain ⟨n, g2, -, hn⟩ := DataW.trod_int u2 a2
    simp at g0 g1 g2
    subst g0; subst g1; subst g2
    exact ⟨k, a, n, y3, rfl, hk, ha, hn, hQ _ _ _ a3⟩
end
end Go.Proofs.YtpcikbloflpahaaDoor
namespace Go.Proofs.YtpcikbloflpahaaDoor
set_option linter.unusedVariables false
set_option linter.unusedSimpArgs false
open Go.RowKit Go.Deep Go.ChangeShapes Go.WideShapes

/-- All that a reading holds is within the form's own reach. -/
def Light {H : Type} (P : Program) (t : TypeId) (d : DataW H) : Prop := ∀ n ∈ DataW.weights P t d, n ≤ reachBytes
theorem weightsAll_mem {H : Type} {P : Program} {e : TypeId} {d : DataW H} {n : Nat} : ∀ {l : List (DataW H)}, d ∈ l → n ∈ DataW.weights P e d → n ∈ DataW.weightsAll P e l
  | x :: l, hd, hn => by
    simp only [DataW.weightsAll, List.mem_append]
    rcases List.mem_cons.1 hd with rfl | h
    · exact .inl hn
    · exact .inr (weightsAll_mem h hn)
theorem Light.elem {H : Type} {P : Program} {t e : TypeId} {elems spare : List (DataW H)} (ht : P.underlying t = some (.slice e)) (h : Light P t (.slice elems spare)) {d : DataW H} (hd : d ∈ elems) : Light P e d := fun n hn => by
  apply h
  simp only [DataW.weights, ht, List.mem_cons, List.mem_append]
  exact .inr (.inl (weightsAll_mem hd hn))
theorem Light.len {H : Type} {P : Program} {t e : TypeId} {elems spare : List (DataW H)} (ht : P.underlying t = some (.slice e)) (h : Light P t (.slice elems spare)) : elems.length * P.bytesOf e ≤ reachBytes := by
  have := h ((elems.length + spare.length) * P.bytesOf e) (by simp [DataW.weights, ht])
  rw [Nat.add_mul] at this
  omega
theorem Light.part {H : Type} {P : Program} {t : TypeId} {fs : Array Field} {parts : List (DataW H)} (ht : P.underlying t = some (.struct fs)) (h : Light P t (.agg parts)) {j : Nat} {f : Field} {d : DataW H} (hf : fs[j]? = some f) (hd : parts[j]? = some d) : Light P f.type d := fun n hn => by
  apply h
  simp only [DataW.weights, ht]
  exact DataW.weights_mem_each (ts := fs.toList.map (·.type)) (j := j) (by simp [hf]) hd n hn
theorem Light.str {H : Type} {P : Program} {t : TypeId} {s : ByteArray} (h : Light (H := H) P t (.lit (.string s.data.toList))) : s.size ≤ reachBytes := by
  have := h s.data.toList.length (by simp [DataW.weights])
  simpa using this
theorem light_all {H : Type} {P : Program} {ts : List TypeId} {ds : List (DataW H)} (h : (DataW.weightsEach P ts ds).all (· ≤ reachBytes) = true) {j : Nat} {t : TypeId} {d : DataW H} (ht : ts[j]? = some t) (hd : ds[j]? = some d) : Light P t d := fun n hn => by
  have := List.all_eq_true.1 h _ (DataW.weights_mem_each ht hd n hn)
  simpa using this

section
variable {H : Type} {enc : TypeId × Value → H} {P : Program} {W : World} {base : Nat} {spare : Nat → Bool} {held : Bool}

/-- A slice opened, its size bounded. -/
theorem sl_open_w {α : Type} [Inhabited α] {t e : TypeId} {sz fuel : Nat} {v : Value} {x : DataW H × List MemPlace} (cells : α → List Value) (ok : α → Prop)
    (ht : P.underlying t = some (.slice e)) (hs : P.cellsOf e = sz) (hp : 0 < sz) (hcl : ∀ y, (cells y).length = sz)
    (el : ∀ n cs z, cs.length = sz → DataW.trod enc P W base spare held n e cs = some z → Light P e z.1 → ∃ y, cs = cells y ∧ ok y)
    (h : DataW.trod enc P W base spare held fuel t [v] = some x) (hw : Light P t x.1) :
    ∃ xs : List α, Sl W v xs.length (xs.flatMap cells) ∧ xs.length * P.bytesOf e ≤ reachBytes ∧ xs.length ≤ maxLen ∧ ∀ y ∈ xs, ok y := by
  rcases open_slice ht h with ⟨h1, -⟩ | ⟨a, len, cap, m, n, D, Pl, h1, hb, hl, hm, hmm, hxe, hx⟩
  · cases h1; exact ⟨[], Sl.nil W, by simp, by simp, by simp⟩
  · cases h1
    subst hxe
    have hwl := hw.len ht
    rw [List.length_map, List.length_range] at hwl
    have hle : len ≤ m := by rw [hmm]; split <;> omega
    have hx' : ∀ i, i < len → ∃ y : α, ok y ∧ ∀ j, j < sz → W.cell? ((a.add (i * sz)).add j) = (cells y)[j]? := fun i hi => by
      obtain ⟨cs', g1, g2⟩ := hx i (Nat.lt_of_lt_of_le hi hle)
      rw [hs] at g1
      obtain ⟨_, k1, k2⟩ := World.cells?_some g1
      obtain ⟨y, rfl, hy⟩ := el _ _ _ k1 g2 (hw.elem ht (List.mem_map_of_mem (by simpa using hi)))
      exact ⟨y, hy, k2⟩
    obtain ⟨f, hf⟩ := choose_lt hx'
    refine ⟨(List.range len).map f, ?_, by simpa using hwl, by simp; omega, fun y hy => ?_⟩
    rotate_left
    · simp only [List.mem_map, List.mem_range] at hy
      obtain ⟨i, hi, rfl⟩ := hy
      exact (hf i hi).1
    simp only [List.length_map, List.length_range]
    have hcell : ∀ k u, (((List.range len).map f).flatMap cells)[k]? = some u → W.cell? (a.add k) = some u := by
      have : ∀ (len' : Nat), len' ≤ len → ∀ k u, (((List.range len').map f).flatMap cells)[k]? = some u → W.cell? (a.add k) = some u := by
        intro len'
        induction len' with
        | zero => intro _ k u hk; simp at hk
        | succ l ih =>
          intro hll k u hk
          have hlen : (((List.range l).map f).flatMap cells).length = l * sz := by
            rw [flat_length cells sz hcl]; simp
          rw [List.range_succ, List.map_append, List.flatMap_append] at hk
          by_cases hkl : k < l * sz
          · rw [List.getElem?_append_left (by omega)] at hk
            exact ih (by omega) k u hk
          · rw [List.getElem?_append_right (by omega), hlen] at hk
            have hk' : (cells (f l))[k - l * sz]? = some u := by simpa using hk
            have hlt : k - l * sz < sz := by
              have h3 := hcl (f l)
              cases Nat.lt_or_ge (k - l * sz) sz with
              | inl h => exact h
              | inr h => rw [List.getElem?_eq_none (by omega)] at hk'; cases hk'
            have := (hf l (by omega)).2 _ hlt
            rw [hk', add_add] at this
            rw [← this]; congr 2; omega
      exact fun k u h => this len (Nat.le_refl _) k u h
    refine ⟨some a, cap, rfl, ⟨by simp, hl⟩, fun hne => ?_, fun b off j u e hj => ?_⟩
    · cases hxs : ((List.range len).map f).flatMap cells with
      | nil => exact absurd hxs hne
      | cons c cs =>
        have h3 := hcell 0 c (by rw [hxs]; rfl)
        obtain ⟨b, off, sp⟩ := a
        cases sp with
        | none => exact ⟨b, off, rfl⟩
        | some s =>
          simp only [Addr.add, if_true, World.cell?] at h3
          split at h3 <;> simp at h3
    · cases e
      have := hcell j u hj
      simp only [Addr.add] at this
      split at this
      · next h0 => subst h0; simpa using this
      · exact this

theorem sl_open_bytes_w {t e : TypeId} {fuel : Nat} {v : Value} {x : DataW H × List MemPlace} (ht : P.underlying t = some (.slice e)) (he : P.underlying e = some (.int .u8)) (hs : P.cellsOf e = 1) (hb : P.bytesOf e = 1)
    (h : DataW.trod enc P W base spare held fuel t [v] = some x) (hw : Light P t x.1) : ∃ xs : List Int, Sl W v xs.length (bys xs) ∧ xs.length ≤ reachBytes ∧ ∀ y ∈ xs, 0 ≤ y ∧ y < 256 := by
  obtain ⟨xs, h1, h2, -, h3⟩ := sl_open_w (sz := 1) (fun y : Int => [Value.int .u8 y]) (fun y => 0 ≤ y ∧ y < 256) ht hs (by decide) (fun _ => rfl) (fun n cs z hl hf _ => by
    obtain ⟨m, g, -, w⟩ := DataW.trod_int he hf
    exact ⟨m, g, by have := bounds_u8 w; omega⟩) h hw
  rw [hb, Nat.mul_one] at h2
  rw [bys_flat] at h1
  exact ⟨xs, h1, h2, h3⟩

/-- A call of chapter 12: what is done, two names, an inode, a place, a number, bytes. -/
abbrev ActF := Int × ByteArray × ByteArray × Int × Int × Int × Option Addr × Nat × Nat
def actFCell (y : ActF) : List Value := [.int .i64 y.1, .string y.2.1, .string y.2.2.1, .int .i64 y.2.2.2.1, .int .i64 y.2.2.2.2.1, .int .i64 y.2.2.2.2.2.1, .slice y.2.2.2.2.2.2.1 y.2.2.2.2.2.2.2.1 y.2.2.2.2.2.2.2.2]
def actFOk (W : World) (y : ActF) : Prop := (Lit.int .i64 y.1).wf = true ∧ y.2.1.size ≤ reachBytes ∧ y.2.2.1.size ≤ reachBytes ∧ (Lit.int .i64 y.2.2.2.1).wf = true ∧ (Lit.int .i64 y.2.2.2.2.1).wf = true ∧ (Lit.int .i64 y.2.2.2.2.2.1).wf = true ∧
  ∃ xs : List Int, Sl W (.slice y.2.2.2.2.2.2.1 y.2.2.2.2.2.2.2.1 y.2.2.2.2.2.2.2.2) xs.length (bys xs) ∧ xs.length ≤ reachBytes ∧ ∀ b ∈ xs, 0 ≤ b ∧ b < 256
theorem open_actsF {t e tb tu : TypeId} {f0 f1 f2 f3 f4 f5 f6 : Field} {fuel : Nat} {v : Value} {x : DataW H × List MemPlace} (ht : P.underlying t = some (.slice e)) (he : P.underlying e = some (.struct #[f0, f1, f2, f3, f4, f5, f6])) (hc : P.cellsOf e = 7)
    (ho : #[f0, f1, f2, f3, f4, f5, f6].map (·.offset) = #[0, 1, 2, 3, 4, 5, 6]) (hcs : #[f0, f1, f2, f3, f4, f5, f6].map (fun f => P.cellsOf f.type) = #[1, 1, 1, 1, 1, 1, 1])
    (hu : #[f0, f1, f2, f3, f4, f5, f6].map (fun f => P.underlying f.type) = #[some (.int .i64), some .string, some .string, some (.int .i64), some (.int .i64), some (.int .i64), some (.slice tu)])
    (ub : P.underlying tu = some (.int .u8)) (cb : P.cellsOf tu = 1) (bb : P.bytesOf tu = 1)
    (h : DataW.trod enc P W base spare held fuel t [v] = some x) (hw : Light P t x.1) : ∃ L : List ActF, Sl W v L.length (L.flatMap actFCell) ∧ L.length ≤ maxLen ∧ ∀ y ∈ L, actFOk W y := by
  obtain ⟨L, h1, -, h2, h3⟩ := sl_open_w (sz := 7) actFCell (actFOk W) ht hc (by decide) (fun _ => rfl) (fun n cs z hl hf hz => by
    obtain ⟨xs, m, -, hze, -, hxl, hall⟩ := DataW.trod_struct he hf
    match cs, hl with
    | [y0, y1, y2, y3, y4, y5, y6], _ =>
      match xs, hxl with
      | [z0, z1, z2, z3, z4, z5, z6], _ =>
        subst hze
        have a0 := hall 0 f0 rfl
        have a1 := hall 1 f1 rfl
        have a2 := hall 2 f2 rfl
        have a3 := hall 3 f3 rfl
        have a4 := hall 4 f4 rfl
        have a5 := hall 5 f5 rfl
        have a6 := hall 6 f6 rfl
        simp at ho hcs hu
        obtain ⟨o0, o1, o2, o3, o4, o5, o6⟩ := ho
        obtain ⟨c0, c1, c2, c3, c4, c5, c6⟩ := hcs
        obtain ⟨u0, u1, u2, u3, u4, u5, u6⟩ := hu
        rw [o0, c0] at a0
        rw [o1, c1] at a1
        rw [o2, c2] at a2
        rw [o3, c3] at a3
        rw [o4, c4] at a4
        rw [o5, c5] at a5
        rw [o6, c6] at a6
        simp at a0 a1 a2 a3 a4 a5 a6
        obtain ⟨k0, g0, -, w0⟩ := DataW.trod_int u0 a0
        obtain ⟨s1, g1, e1, -⟩ := DataW.trod_string u1 a1
        obtain ⟨s2, g2, e2, -⟩ := DataW.trod_string u2 a2
        obtain ⟨k3, g3, -, w3⟩ := DataW.trod_int u3 a3
        obtain ⟨k4, g4, -, w4⟩ := DataW.trod_int u4 a4
        obtain ⟨k5, g5, -, w5⟩ := DataW.trod_int u5 a5
        simp at g0 g1 g2 g3 g4 g5
        subst g0; subst g1; subst g2; subst g3; subst g4; subst g5
        have l1 := hz.part he (j := 1) rfl rfl
        have l2 := hz.part he (j := 2) rfl rfl
        have l6 := hz.part he (j := 6) rfl rfl
        rw [e1] at l1
        rw [e2] at l2
        obtain ⟨bs, hs, hb1, hb2⟩ := sl_open_bytes_w u6 ub cb bb a6 l6
        obtain ⟨au, cu, e, hs'⟩ := id hs
        subst e
        exact ⟨(k0, s1, s2, k3, k4, k5, au, bs.length, cu), rfl, w0, l1.str, l2.str, w3, w4, w5, bs, hs, hb1, hb2⟩) h hw
  exact ⟨L, h1, h2, h3⟩

theorem open_actF {t tu : TypeId} {f0 f1 f2 f3 f4 f5 f6 : Field} {r : Reach} {b0 : Nat} {v : Value} {d : DataW H} {ps : List MemPlace} (ht : P.underlying t = some (.struct #[f0, f1, f2, f3, f4, f5, f6])) (hc : P.cellsOf t = 7)
    (ho : #[f0, f1, f2, f3, f4, f5, f6].map (·.offset) = #[0, 1, 2, 3, 4, 5, 6]) (hcs : #[f0, f1, f2, f3, f4, f5, f6].map (fun f => P.cellsOf f.type) = #[1, 1, 1, 1, 1, 1, 1])
    (hu : #[f0, f1, f2, f3, f4, f5, f6].map (fun f => P.underlying f.type) = #[some (.int .i64), some .string, some .string, some (.int .i64), some (.int .i64), some (.int .i64), some (.slice tu)])
    (ub : P.underlying tu = some (.int .u8)) (cb : P.cellsOf tu = 1)
    (hval : Value.okWide P W r b0 t v) (h : DataW.Trod enc P W base spare held t v d ps) : ∃ y : ActF, v = .agg (actFCell y).toArray := by
  obtain ⟨cs, rfl, hsz⟩ := okWide_struct ht hval
  rw [hc] at hsz
  obtain ⟨fuel, hf⟩ := h
  obtain ⟨xs, m, -, -, -, hxl, hall⟩ := DataW.trod_struct ht hf
  obtain ⟨cl⟩ := cs
  match cl, hsz with
  | [y0, y1, y2, y3, y4, y5, y6], _ =>
    match xs, hxl with
    | [z0, z1, z2, z3, z4, z5, z6], _ =>
      have a0 := hall 0 f0 rfl
      have a1 := hall 1 f1 rfl
      have a2 := hall 2 f2 rfl
      have a3 := hall 3 f3 rfl
      have a4 := hall 4 f4 rfl
      have a5 := hall 5 f5 rfl
      have a6 := hall 6 f6 rfl
      simp at ho hcs hu
      obtain ⟨o0, o1, o2, o3, o4, o5, o6⟩ := ho
      obtain ⟨c0, c1, c2, c3, c4, c5, c6⟩ := hcs
      obtain ⟨u0, u1, u2, u3, u4, u5, u6⟩ := hu
      rw [o0, c0] at a0
      rw [o1, c1] at a1
      rw [o2, c2] at a2
      rw [o3, c3] at a3
      rw [o4, c4] at a4
      rw [o5, c5] at a5
      rw [o6, c6] at a6
      simp [Value.cells] at a0 a1 a2 a3 a4 a5 a6
      obtain ⟨k0, g0, -, w0⟩ := DataW.trod_int u0 a0
      obtain ⟨s1, g1, e1, -⟩ := DataW.trod_string u1 a1
      obtain ⟨s2, g2, e2, -⟩ := DataW.trod_string u2 a2
      obtain ⟨k3, g3, -, w3⟩ := DataW.trod_int u3 a3
      obtain ⟨k4, g4, -, w4⟩ := DataW.trod_int u4 a4
      obtain ⟨k5, g5, -, w5⟩ := DataW.trod_int u5 a5
      simp at g0 g1 g2 g3 g4 g5
      subst g0; subst g1; subst g2; subst g3; subst g4; subst g5
      obtain ⟨bs, hs, hb1, hb2⟩ := sl_open_bytes u6 ub cb a6
      obtain ⟨au, cu, e, hs'⟩ := id hs
      subst e
      exact ⟨(k0, s1, s2, k3, k4, k5, au, bs.length, cu), rfl⟩
end
end Go.Proofs.YtpcikbloflpahaaDoor
namespace Go.Proofs.YtpcikbloflpahaaDoor
set_option linter.unusedVariables false
set_option linter.unusedSimpArgs false
open Go.RowKit Go.Deep Go.ChangeShapes Go.WideShapes

section
variable {H : Type} {enc : TypeId × Value → H} {P : Program} {W : World} {base : Nat} {spare : Nat → Bool} {held : Bool}

theorem open_chgs {t e tb : TypeId} {f0 f1 : Field} {fuel : Nat} {v : Value} {x : DataW H × List MemPlace} (ht : P.underlying t = some (.slice e)) (he : P.underlying e = some (.struct #[f0, f1])) (hc : P.cellsOf e = 2) (hbe : P.bytesOf e = 32)
    (ho : #[f0, f1].map (·.offset) = #[0, 1]) (hcs : #[f0, f1].map (fun f => P.cellsOf f.type) = #[1, 1])
    (hu : #[f0, f1].map (fun f => P.underlying f.type) = #[some (.int .i64), some (.slice tb)])
    (ub : P.underlying tb = some (.int .u8)) (cb : P.cellsOf tb = 1) (bb : P.bytesOf tb = 1)
    (h : DataW.trod enc P W base spare held fuel t [v] = some x) (hw : Light P t x.1) : ∃ L : List ChA, Sl W v L.length (L.flatMap chaC) ∧ L.length ≤ 140737488355328 ∧ ∀ y ∈ L, chaOk W y := by
  obtain ⟨L, h1, h2, -, h3⟩ := sl_open_w (sz := 2) chaC (chaOk W) ht hc (by decide) (fun _ => rfl) (fun n cs z hl hf hz => by
    obtain ⟨xs, m, -, hze, -, hxl, hall⟩ := DataW.trod_struct he hf
    match cs, hl with
    | [y0, y1], _ =>
      match xs, hxl with
      | [z0, z1], _ =>
        subst hze
        have a0 := hall 0 f0 rfl
        have a1 := hall 1 f1 rfl
        simp at ho hcs hu
        obtain ⟨o0, o1⟩ := ho
        obtain ⟨c0, c1⟩ := hcs
        obtain ⟨u0, u1⟩ := hu
        rw [o0, c0] at a0
        rw [o1, c1] at a1
        simp at a0 a1
        obtain ⟨k0, g0, -, w0⟩ := DataW.trod_int u0 a0
        simp at g0
        subst g0
        have l1 := hz.part he (j := 1) rfl rfl
        obtain ⟨bs, hs, hb1, hb2⟩ := sl_open_bytes_w u1 ub cb bb a1 l1
        obtain ⟨au, cu, e, hs'⟩ := id hs
        subst e
        exact ⟨(k0, au, cu, bs), rfl, by have := bounds_i64 w0; omega, hs, Nat.le_trans hb1 (by decide), hb2⟩) h hw
  refine ⟨L, h1, ?_, h3⟩
  rw [hbe] at h2
  have : reachBytes = 140737488351232 := rfl
  omega
end
end Go.Proofs.YtpcikbloflpahaaDoor
