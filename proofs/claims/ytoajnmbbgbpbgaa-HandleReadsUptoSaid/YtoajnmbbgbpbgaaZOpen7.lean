/-
  What arguments read as, opened: slices with what their readings hold ('bulk'); the parts and the sizes of HandleReads.
-/
import Derived.Test.YtoajnmbbgbpbgaaZD
import Derived.Test.YtoajnmbbgbpbgaaZHd11
namespace Go.Proofs.Ytoajnmbbgbpbgaa
set_option linter.unusedVariables false
set_option linter.unusedSimpArgs false
open Go.RowKit Go.Deep Go.ChangeShapes Go.WideShapes

theorem bulk_pos {H : Type} (d : DataW H) : 1 ≤ Rows.uptoBulk d := by
  cases d with
  | lit l => cases l <;> simp [Rows.uptoBulk]
  | nil => simp [Rows.uptoBulk]
  | ptr d => simp [Rows.uptoBulk]
  | slice elems spare => simp [Rows.uptoBulk]
  | agg parts => simp [Rows.uptoBulk]
  | iface t d => simp [Rows.uptoBulk]
  | map entries => simp [Rows.uptoBulk]
  | held h => simp [Rows.uptoBulk]
theorem bulk_len {H : Type} (l : List (DataW H)) : l.length ≤ Rows.uptoBulkAll l := by
  induction l with
  | nil => exact Nat.zero_le _
  | cons x r ih => have := bulk_pos x; simp only [Rows.uptoBulkAll, List.length_cons]; omega
theorem bulk_sum {H : Type} : ∀ (P : List Part) (l : List (DataW H)), l.length = P.length → (∀ i (h1 : i < P.length) (h2 : i < l.length), P[i].2.2.length + 1 ≤ Rows.uptoBulk l[i]) → sumP P ≤ Rows.uptoBulkAll l
  | [], _, _, _ => Nat.zero_le _
  | y :: P, [], h, _ => by simp at h
  | y :: P, d :: l, h, hi => by
    have h0 := hi 0 (by simp) (by simp)
    have h1 := bulk_sum P l (by simpa using h) (fun i h1 h2 => by
      have := hi (i + 1) (by simp; omega) (by simp; omega)
      simpa using this)
    simp only [List.getElem_cons_zero] at h0
    simp only [sumP, List.map_cons, List.sum_cons, Rows.uptoBulkAll] at h1 ⊢
    omega

section
variable {H : Type} {enc : TypeId × Value → H} {P : Program} {W : World} {base : Nat} {spare : Nat → Bool} {held : Bool}

/-- A slice opened, with its elements' readings. -/
theorem sl_open_r {α : Type} [Inhabited α] {t e : TypeId} {sz fuel : Nat} {v : Value} {x : DataW H × List MemPlace} (cells : α → List Value) (ok : α → DataW H → Prop)
    (ht : P.underlying t = some (.slice e)) (hs : P.cellsOf e = sz) (hp : 0 < sz) (hcl : ∀ y, (cells y).length = sz)
    (el : ∀ n cs z, cs.length = sz → DataW.trod enc P W base spare held n e cs = some z → ∃ y, cs = cells y ∧ ok y z.1)
    (h : DataW.trod enc P W base spare held fuel t [v] = some x) :
    ∃ xs : List α, Sl W v xs.length (xs.flatMap cells) ∧ xs.length ≤ maxLen ∧ ((x.1 = .nil ∧ xs = []) ∨ ∃ elems sp, x.1 = .slice elems sp ∧ elems.length = xs.length ∧ ∀ i (h1 : i < xs.length) (h2 : i < elems.length), ok xs[i] elems[i]) := by
  rcases open_slice ht h with ⟨h1, hx0⟩ | ⟨a, len, cap, m, n, D, Pl, h1, hb, hl, hm, hmm, hxe, hx⟩
  · cases h1; exact ⟨[], Sl.nil W, by simp, .inl ⟨by rw [hx0], rfl⟩⟩
  · cases h1
    have hle : len ≤ m := by rw [hmm]; split <;> omega
    have hx' : ∀ i, i < len → ∃ y : α, ok y (D i) ∧ ∀ j, j < sz → W.cell? ((a.add (i * sz)).add j) = (cells y)[j]? := fun i hi => by
      obtain ⟨cs', g1, g2⟩ := hx i (Nat.lt_of_lt_of_le hi hle)
      rw [hs] at g1
      obtain ⟨_, k1, k2⟩ := World.cells?_some g1
      obtain ⟨y, rfl, hy⟩ := el _ _ _ k1 g2
      exact ⟨y, hy, k2⟩
    obtain ⟨f, hf⟩ := choose_lt hx'
    refine ⟨(List.range len).map f, ?_, by simp; omega, .inr ⟨_, _, by rw [hxe], by simp, fun i h1 h2 => ?_⟩⟩
    rotate_left
    · simp only [List.getElem_map, List.getElem_range]
      exact (hf i (by simpa using h1)).1
    simp only [List.length_map, List.length_range]
    have hcell : ∀ k u, (((List.range len).map f).flatMap cells)[k]? = some u → W.cell? (a.add k) = some u := by
      have : ∀ (len' : Nat), len' ≤ len → ∀ k u, (((List.range len').map f).flatMap cells)[k]? = some u → W.cell? (a.add k) = some u := by
        intro len'
        induction len' with
        | zero => intro _ k u hk; simp at hk
        | succ l ih =>
          intro hll k u hk
          have hlen : (((List.range l).map f).flatMap cells).length = l * sz := by
            rw [flat_length cells sz hcl]; simp
          rw [List.range_succ, List.map_append, List.flatMap_append] at hk
          by_cases hkl : k < l * sz
          · rw [List.getElem?_append_left (by omega)] at hk
            exact ih (by omega) k u hk
          · rw [List.getElem?_append_right (by omega), hlen] at hk
            have hk' : (cells (f l))[k - l * sz]? = some u := by simpa using hk
            have hlt : k - l * sz < sz := by
              have h3 := hcl (f l)
              cases Nat.lt_or_ge (k - l * sz) sz with
              | inl h => exact h
              | inr h => rw [List.getElem?_eq_none (by omega)] at hk'; cases hk'
            have := (hf l (by omega)).2 _ hlt
            rw [hk', add_add] at this
            rw [← this]; congr 2; omega
      exact fun k u h => this len (Nat.le_refl _) k u h
    refine ⟨some a, cap, rfl, ⟨by simp, hl⟩, fun hne => ?_, fun b off j u e hj => ?_⟩
    · cases hxs : ((List.range len).map f).flatMap cells with
      | nil => exact absurd hxs hne
      | cons c cs =>
        have h3 := hcell 0 c (by rw [hxs]; rfl)
        obtain ⟨b, off, sp⟩ := a
        cases sp with
        | none => exact ⟨b, off, rfl⟩
        | some s =>
          simp only [Addr.add, if_true, World.cell?] at h3
          split at h3 <;> simp at h3
    · cases e
      have := hcell j u hj
      simp only [Addr.add] at this
      split at this
      · next h0 => subst h0; simpa using this
      · exact this

theorem bulk_of {α : Type} {xs : List α} {d : DataW H} {Q : List (DataW H) → Prop} (h : (d = .nil ∧ xs = []) ∨ ∃ elems sp, d = .slice elems sp ∧ elems.length = xs.length ∧ Q elems) : xs.length + 1 ≤ Rows.uptoBulk d := by
  rcases h with ⟨rfl, rfl⟩ | ⟨elems, sp, rfl, hl, -⟩
  · simp [Rows.uptoBulk]
  · have := bulk_len elems
    simp only [Rows.uptoBulk]
    omega

theorem ints_flat (l : List Int) : l.flatMap (fun y => [Value.int .i64 y]) = ints l := by
  induction l with
  | nil => rfl
  | cons y l ih => rw [List.flatMap_cons, ih]; rfl
theorem parts_flat (l : List Part) : l.flatMap (fun y => [partC y]) = l.map partC := by
  induction l with
  | nil => rfl
  | cons y l ih => rw [List.flatMap_cons, ih]; rfl

theorem sl_open_bytes_r {t e : TypeId} {fuel : Nat} {v : Value} {x : DataW H × List MemPlace} (ht : P.underlying t = some (.slice e)) (he : P.underlying e = some (.int .u8)) (hs : P.cellsOf e = 1)
    (h : DataW.trod enc P W base spare held fuel t [v] = some x) : ∃ xs : List Int, Sl W v xs.length (bys xs) ∧ (∀ y ∈ xs, 0 ≤ y ∧ y < 256) ∧ xs.length + 1 ≤ Rows.uptoBulk x.1 := by
  obtain ⟨xs, h1, h2, h3⟩ := sl_open_r (fun y : Int => [.int .u8 y]) (fun y _ => 0 ≤ y ∧ y < 256) ht hs (by decide) (fun _ => rfl) (fun n cs z hl hh => by
    match cs, hl with
    | [u0], _ =>
      obtain ⟨n0, g0, -, w0⟩ := DataW.trod_int he hh
      simp at g0
      subst g0
      exact ⟨n0, rfl, by have := bounds_u8 w0; omega⟩) h
  rw [bys_flat] at h1
  refine ⟨xs, h1, fun y hy => ?_, bulk_of h3⟩
  rcases h3 with ⟨-, rfl⟩ | ⟨elems, sp, -, hl, hok⟩
  · cases hy
  · obtain ⟨i, hi, rfl⟩ := List.getElem_of_mem hy
    exact hok i hi (by omega)
theorem sl_open_ints_r {t e : TypeId} {fuel : Nat} {v : Value} {x : DataW H × List MemPlace} (ht : P.underlying t = some (.slice e)) (he : P.underlying e = some (.int .i64)) (hs : P.cellsOf e = 1)
    (h : DataW.trod enc P W base spare held fuel t [v] = some x) : ∃ xs : List Int, Sl W v xs.length (ints xs) ∧ (∀ y ∈ xs, -9223372036854775808 ≤ y ∧ y ≤ 9223372036854775807) ∧ xs.length + 1 ≤ Rows.uptoBulk x.1 := by
  obtain ⟨xs, h1, h2, h3⟩ := sl_open_r (fun y : Int => [.int .i64 y]) (fun y _ => -9223372036854775808 ≤ y ∧ y ≤ 9223372036854775807) ht hs (by decide) (fun _ => rfl) (fun n cs z hl hh => by
    match cs, hl with
    | [u0], _ =>
      obtain ⟨n0, g0, -, w0⟩ := DataW.trod_int he hh
      simp at g0
      subst g0
      exact ⟨n0, rfl, by have := bounds_i64 w0; omega⟩) h
  rw [ints_flat] at h1
  refine ⟨xs, h1, fun y hy => ?_, bulk_of h3⟩
  rcases h3 with ⟨-, rfl⟩ | ⟨elems, sp, -, hl, hok⟩
  · cases hy
  · obtain ⟨i, hi, rfl⟩ := List.getElem_of_mem hy
    exact hok i hi (by omega)
theorem sl_open_parts_r {t e f : TypeId} {fuel : Nat} {v : Value} {x : DataW H × List MemPlace} (ht : P.underlying t = some (.slice e)) (he : P.underlying e = some (.slice f)) (hs : P.cellsOf e = 1) (hf : P.underlying f = some (.int .u8)) (hsf : P.cellsOf f = 1)
    (h : DataW.trod enc P W base spare held fuel t [v] = some x) : ∃ xs : List Part, Sl W v xs.length (xs.map partC) ∧ (∀ y ∈ xs, Sl W (partC y) y.2.2.length (bys y.2.2) ∧ ∀ b ∈ y.2.2, 0 ≤ b ∧ b < 256) ∧ sumP xs + 1 ≤ Rows.uptoBulk x.1 ∧ xs.length + 1 ≤ Rows.uptoBulk x.1 := by
  obtain ⟨xs, h1, h2, h3⟩ := sl_open_r (fun y : Part => [partC y]) (fun y d => (Sl W (partC y) y.2.2.length (bys y.2.2) ∧ ∀ b ∈ y.2.2, 0 ≤ b ∧ b < 256) ∧ y.2.2.length + 1 ≤ Rows.uptoBulk d) ht hs (by decide) (fun _ => rfl) (fun n cs z hl hh => by
    match cs, hl with
    | [u0], _ =>
      obtain ⟨ys, k1, k2, k3⟩ := sl_open_bytes_r he hf hsf hh
      obtain ⟨a, c, rfl⟩ := k1.form
      exact ⟨(a, c, ys), rfl, ⟨k1, k2⟩, k3⟩) h
  rw [parts_flat] at h1
  refine ⟨xs, h1, fun y hy => ?_, ?_, bulk_of h3⟩
  · rcases h3 with ⟨-, rfl⟩ | ⟨elems, sp, -, hl, hok⟩
    · cases hy
    · obtain ⟨i, hi, rfl⟩ := List.getElem_of_mem hy
      exact (hok i hi (by omega)).1
  · rcases h3 with ⟨e, rfl⟩ | ⟨elems, sp, e, hl, hok⟩
    · rw [e]; exact bulk_pos _
    · rw [e]
      have := bulk_sum xs elems hl (fun i h1 h2 => (hok i h1 h2).2)
      simp only [Rows.uptoBulk]
      omega
end
end Go.Proofs.Ytoajnmbbgbpbgaa
