/-
  Chapter 12, the law FsMap: its list of files as values, and its small functions.
-/
import Derived.Test.YtoajnmbbgbpbgaaGreatZK
import Derived.Test.YtoajnmbbgbpbgaaGreatZA
import Derived.Test.YtoajnmbbgbpbgaaGreatZD
namespace Go.Proofs.YtoajnmbbgbpbgaaGreat
set_option linter.unusedVariables false
set_option linter.unusedSimpArgs false
open Go.RowKit Go.Shelf Go.Maps

theorem flat_get12 {α : Type} (cells : α → List Value) (sz : Nat) (hcl : ∀ y, (cells y).length = sz) (L : List α) (k i : Nat) (hk : k < L.length) (hi : i < sz) : (L.flatMap cells)[k * sz + i]? = (cells L[k])[i]? := by
  induction L generalizing k with
  | nil => simp at hk
  | cons y L ih =>
    rw [List.flatMap_cons]
    cases k with
    | zero => rw [List.getElem?_append_left (by rw [hcl]; omega)]; simp
    | succ k =>
      rw [List.getElem?_append_right (by rw [hcl, Nat.succ_mul]; omega), hcl]
      have := ih k (by simp at hk; omega)
      rw [show (k + 1) * sz + i - sz = k * sz + i by rw [Nat.succ_mul]; omega]
      simpa using this

theorem All2.get {α β : Type} {R : α → β → Prop} {xs : List α} {ys : List β} (h : All2 R xs ys) (j : Nat) (hj : j < xs.length) : ∃ hj' : j < ys.length, R xs[j] ys[j] := by
  induction h generalizing j with
  | nil => simp at hj
  | cons hx hr ih =>
    cases j with
    | zero => exact ⟨by simp, hx⟩
    | succ j =>
      obtain ⟨h1, h2⟩ := ih j (by simpa using hj)
      exact ⟨by simpa using h1, h2⟩
theorem All2.set {α β : Type} {R : α → β → Prop} {xs : List α} {ys : List β} (h : All2 R xs ys) (j : Nat) {x : α} {y : β} (hx : R x y) : All2 R (xs.set j x) (ys.set j y) := by
  induction h generalizing j with
  | nil => exact .nil
  | cons hx' hr ih =>
    cases j with
    | zero => exact .cons hx hr
    | succ j => exact .cons hx' (ih j)
theorem All2.erase {α β : Type} {R : α → β → Prop} {xs : List α} {ys : List β} (h : All2 R xs ys) (j : Nat) : All2 R (xs.eraseIdx j) (ys.eraseIdx j) := by
  induction h generalizing j with
  | nil => exact .nil
  | cons hx' hr ih =>
    cases j with
    | zero => exact hr
    | succ j => exact .cons hx' (ih j)

theorem fileCells_get2 (vs : List (ByteArray × Value)) (j : Nat) (hj : j < vs.length) : (fileCells vs)[2 * j + 1]? = some vs[j].2 := by
  induction vs generalizing j with
  | nil => simp at hj
  | cons p vs ih =>
    cases j with
    | zero => rfl
    | succ j =>
      have := ih j (by simpa using hj)
      rw [show 2 * (j + 1) + 1 = 2 * j + 1 + 1 + 1 by omega]
      simpa [fileCells] using this
theorem fileCells_set (vs : List (ByteArray × Value)) (j : Nat) (hj : j < vs.length) (v : Value) : (fileCells vs).set (2 * j + 1) v = fileCells (vs.set j (vs[j].1, v)) := by
  induction vs generalizing j with
  | nil => simp at hj
  | cons p vs ih =>
    cases j with
    | zero => simp [fileCells]
    | succ j =>
      have := ih j (by simpa using hj)
      rw [show 2 * (j + 1) + 1 = 2 * j + 1 + 1 + 1 by omega]
      simpa [fileCells] using this
theorem fileCells_erase (vs : List (ByteArray × Value)) (j : Nat) (hj : j < vs.length) : (fileCells vs).take (j * 2) ++ (fileCells vs).drop ((j + 1) * 2) = fileCells (vs.eraseIdx j) := by
  induction vs generalizing j with
  | nil => simp at hj
  | cons p vs ih =>
    cases j with
    | zero => simp [fileCells]
    | succ j =>
      have := ih j (by simpa using hj)
      rw [show (j + 1) * 2 = j * 2 + 1 + 1 by omega, show (j + 1 + 1) * 2 = (j + 1) * 2 + 1 + 1 by omega]
      simpa [fileCells] using this
theorem fileCells_one {fs : Files} {vs : List (ByteArray × Value)} {w : World} {A : Nat → Prop} (h : FilesV fs vs w A) : ∀ u ∈ fileCells vs, u.oneCell' = true := by
  induction h with
  | nil => simp [fileCells]
  | cons hx hr ih =>
    rename_i x p xs ys
    intro u hu
    have e : fileCells (p :: ys) = .string p.1 :: p.2 :: fileCells ys := by simp [fileCells]
    rw [e] at hu
    rcases List.mem_cons.1 hu with rfl | hu
    · rfl
    · rcases List.mem_cons.1 hu with rfl | hu
      · obtain ⟨a, c, e⟩ := (Sl.of_owns hx.2.1).form
        rw [e]; rfl
      · exact ih u hu

theorem FilesV.at {fs : Files} {vs : List (ByteArray × Value)} {w : World} {A : Nat → Prop} (h : FilesV fs vs w A) (j : Nat) (hj : j < fs.length) :
    ∃ hj' : j < vs.length, ∃ a c, vs[j].1 = fs[j].1 ∧ vs[j].2 = .slice a fs[j].2.length c ∧ w.ownsRow 0 5 1 (.slice a fs[j].2.length c) fs[j].2.length (bys fs[j].2) ∧ ∀ k, (Value.slice a fs[j].2.length c).ownBlock = some k → ¬ A k := by
  obtain ⟨h1, h2, h3, h4⟩ := All2.get h j hj
  obtain ⟨a, c, e⟩ := (Sl.of_owns h3).form
  rw [e] at h3 h4
  exact ⟨h1, a, c, h2, e, h3, h4⟩
theorem FilesV.fr0 {fs : Files} {vs : List (ByteArray × Value)} {w w' : World} {A : Nat → Prop} (h : FilesV fs vs w A) (hF : Fr No w w') : FilesV fs vs w' A := h.fr hF.no (fun k hk => .inl hk)
theorem FilesV.len {fs : Files} {vs : List (ByteArray × Value)} {w : World} {A : Nat → Prop} (h : FilesV fs vs w A) : fs.length = vs.length := All2.len h

end Go.Proofs.YtoajnmbbgbpbgaaGreat
