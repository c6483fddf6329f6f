/-
  Chapter 12, the reference: Same.
-/
import Derived.Test.YtoajnmbbgbpbgaaGreatZFs52
namespace Go.Proofs.YtoajnmbbgbpbgaaGreat
set_option linter.unusedVariables false
set_option linter.unusedSimpArgs false
open Go.RowKit Go.Shelf Go.Maps

/-- A file's cells in a list of files that lies as a slice. -/
theorem files_at {w : World} {fs : Files} {vs : List (ByteArray × Value)} {a : Option Addr} {c : Nat} {A : Nat → Prop} (h : Sl w (.slice a fs.length c) fs.length (fileCells vs)) (hf : FilesV fs vs w A) (j : Nat) (hj : j < fs.length) :
    ∃ g off a1 c1 l, a = some ⟨g, off, none⟩ ∧ fs[j].2 = l ∧ w.cell? ⟨g, off + j * 2, none⟩ = some (.string fs[j].1) ∧ w.cell? ⟨g, off + j * 2 + 1, none⟩ = some (.slice a1 l.length c1) ∧ Sl w (.slice a1 l.length c1) l.length (bys l) := by
  obtain ⟨hj', a1, c1, e1, e2, h3, -⟩ := hf.at j hj
  have h4 := fileCells_get vs j hj'
  have h5 := fileCells_get2 vs j hj'
  obtain ⟨g, off, rfl, -, hc⟩ := h.at (by intro e; rw [e] at h4; simp at h4)
  refine ⟨g, off, a1, c1, _, rfl, rfl, ?_, ?_, Sl.of_owns h3⟩
  · have := hc _ _ h4
    rw [Nat.mul_comm, this, e1]
  · have := hc _ _ h5
    rw [Nat.add_assoc, Nat.mul_comm, this, e2]

end Go.Proofs.YtoajnmbbgbpbgaaGreat
