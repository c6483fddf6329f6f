/-
  Chapter 12: what a call leaves of a region that is as it should be; what a call on both memories leaves.
-/
import Derived.Test.YtoajnmbbgbpbgaaGreatZFs53
import Derived.Test.YtoajnmbbgbpbgaaGreatZFs37
import Derived.Test.YtoajnmbbgbpbgaaGreatZE
namespace Go.Proofs.YtoajnmbbgbpbgaaGreat
set_option linter.unusedVariables false
set_option linter.unusedSimpArgs false
open Go.RowKit Go.Shelf Go.Maps

theorem filesR_no {B : List Int} (h : tableF B = none) : filesR B = ([], 120) := by
  unfold filesR; generalize tableF B = t at *; subst h; rfl
def HasT (B : List Int) : Prop := B.length = 8192 ∧ ∃ L u, Tab B L u
theorem HasT.create {B : List Int} (h : HasT B) (s : ByteArray) : HasT (createR B s).1 := by
  obtain ⟨hB, L, u, ht⟩ := id h
  rw [createR_some ((tableF_iff _ _ _).2 ht)]
  by_cases h1 : nameF s = false
  · rw [if_pos h1]; exact h
  · rw [if_neg h1]
    by_cases h2 : findI L s ≠ -1
    · rw [if_pos h2]; exact h
    · rw [if_neg h2]
      by_cases h3 : findI L noName = -1
      · rw [if_pos h3]; exact h
      · rw [if_neg h3]
        rcases findI_spec L noName with ⟨h4, -⟩ | ⟨k, hk, h4, h5, -⟩
        · exact absurd h4 h3
        · rw [h4, Int.toNat_natCast]
          dsimp only
          refine ⟨(layT_length ..).trans hB, _, _, create_tab hB ht hk h5 (by simpa using h1) ?_⟩
          rcases findI_spec L s with ⟨-, h6⟩ | ⟨j, hj, h6, -, -⟩
          · exact h6
          · exact absurd (by rw [h6]; omega) h2
theorem HasT.delete {B : List Int} (h : HasT B) (s : ByteArray) : HasT (deleteR B s).1 := by
  obtain ⟨hB, L0, u0, ht0⟩ := id h
  rcases find_facts B s with ⟨x, -, -, hd⟩ | ⟨L, u, k, ht, hk, -, -, -, -, hd⟩
  · rw [hd]; exact h
  · rw [hd]
    have htab := (tableF_iff _ _ _).1 ht
    have hkL : k < L.length := by rw [htab.len]; exact hk
    have := delete_tab hB htab hkL
    rw [getD_get hkL]
    dsimp only
    exact ⟨(layT_length ..).trans hB, _, _, this⟩
theorem HasT.rename {B : List Int} (h : HasT B) (s t : ByteArray) : HasT (renameR B s t).1 := by
  obtain ⟨hB, L0, u0, ht0⟩ := id h
  rcases rename_facts B s t with ⟨x, -, -, -, hd⟩ | ⟨a, x, -, -, -, hd⟩ | ⟨b, y, -, -, -, hd⟩ | ⟨a, b, -, -, hd⟩ | ⟨L, u, k, ht, hk, hnm, hns, hnt, hf, hg, hd⟩
  · rw [hd]; exact h
  · rw [hd]; exact h
  · rw [hd]; exact h
  · rw [hd]; exact h
  · rw [hd]
    have htab := (tableF_iff _ _ _).1 ht
    have hkL : k < L.length := by rw [htab.len]; exact hk
    rw [getD_get hkL] at hnm ⊢
    dsimp only
    refine ⟨(layT_length ..).trans hB, _, _, rename_tab hB htab hkL (by rw [hnm]; exact nameF_ne hns) hnt ?_⟩
    rcases findI_spec L t with ⟨-, h6⟩ | ⟨j, hj, h6, -, -⟩
    · exact h6
    · rw [findR_some ht, if_neg (by rw [hnt]; decide), h6, if_neg (by omega)] at hg
      have h7 : (0 : Int) = 123 := congrArg Prod.snd hg
      exact absurd h7 (by decide)
theorem HasT.resize {B : List Int} (h : HasT B) (n m : Int) : HasT (resizeR B n m).1 := by
  obtain ⟨hB, L, u, ht⟩ := h
  obtain ⟨L', h1, ⟨u', h2⟩, -⟩ := kept_resizeR hB ht n m
  exact ⟨h1, L', u', h2⟩
theorem HasT.write {B : List Int} (h : HasT B) (n o : Int) (b : List Int) : HasT (writeR B n o b).1 := by
  obtain ⟨hB, L, u, ht⟩ := h
  obtain ⟨L', h1, ⟨u', h2⟩, -⟩ := kept_write hB ht n o b
  exact ⟨h1, L', u', h2⟩
theorem HasT.check {B : List Int} (h : HasT B) : checkE B = 0 := by
  obtain ⟨hB, L, u, ht⟩ := h
  exact checkE_some ((tableF_iff _ _ _).2 ht)
theorem HasT.format {B : List Int} (hB : B.length = 8192) : HasT (formatF B) := ⟨by rw [formatF, layF_length, layF_length, hB], _, _, format_tab B hB⟩

/-- Both memories, the same bytes, behind a call. -/
def Tz (w : World) (mb : Nat) (A : Nat → Prop) (rb : Nat) (R : Nat → Prop) (F B2 : List Int) (w' : World) : Prop :=
  ∃ A' R', Two w' mb A' rb R' F B2 B2 ∧ Fr (fun k => A k ∨ R k) w w' ∧ Gr w A A' ∧ Gr w R R'
theorem Tz.of {w w1 w2 : World} {mb rb : Nat} {A A1 R R2 : Nat → Prop} {F B B2 : List Int} (h : Two w mb A rb R F B B) (hp : Mp w mb A F B2 w1 A1) (hq : Rp w1 rb R F B2 w2 R2) : Tz w mb A rb R F B2 w2 :=
  ⟨A1, R2, (h.mem hp).ref hq, (hp.2.1.mono (fun i _ h => .inl h)).trans (hq.2.1.mono (fun i _ h => .inr h)), hp.2.2, fun j hj => by
    rcases hq.2.2 j hj with h1 | h1
    · exact .inl h1
    · exact .inr (Nat.le_trans hp.2.1.size h1)⟩
theorem Tz.fr {w w1 w2 : World} {mb rb : Nat} {A R : Nat → Prop} {F B : List Int} (h : Tz w mb A rb R F B w1) (hF : Fr No w1 w2) : Tz w mb A rb R F B w2 := by
  obtain ⟨A', R', h1, h2, h3, h4⟩ := h
  exact ⟨A', R', h1.fr0 hF, h2.trans hF.no, h3, h4⟩
theorem Tz.ahead {w w1 w2 : World} {mb rb : Nat} {A R : Nat → Prop} {F B : List Int} (hF : Fr No w w1) (h : Tz w1 mb A rb R F B w2) : Tz w mb A rb R F B w2 := by
  obtain ⟨A', R', h1, h2, h3, h4⟩ := h
  refine ⟨A', R', h1, hF.no.trans h2, fun j hj => ?_, fun j hj => ?_⟩
  · rcases h3 j hj with h5 | h5
    · exact .inl h5
    · exact .inr (Nat.le_trans hF.size h5)
  · rcases h4 j hj with h5 | h5
    · exact .inl h5
    · exact .inr (Nat.le_trans hF.size h5)
/-- A step of a walk that has all blocks of its own. -/
theorem Tz.step {w wi w' : World} {mb rb : Nat} {A R : Nat → Prop} {F B : List Int} (h : Tz wi mb A rb R F B w') (hF : Fr No w wi) (hA : ∀ k, A k → w.heap.size ≤ k) (hR : ∀ k, R k → w.heap.size ≤ k) :
    ∃ A' R', Two w' mb A' rb R' F B B ∧ Fr No w w' ∧ (∀ k, A' k → w.heap.size ≤ k) ∧ ∀ k, R' k → w.heap.size ≤ k := by
  obtain ⟨A', R', h1, h2, h3, h4⟩ := h
  refine ⟨A', R', h1, hF.trans' h2 (fun i hi hs => by rcases hs with hs | hs; have := hA i hs; omega; have := hR i hs; omega), fun j hj => ?_, fun j hj => ?_⟩
  · rcases h3 j hj with h5 | h5
    · exact hA j h5
    · exact Nat.le_trans hF.size h5
  · rcases h4 j hj with h5 | h5
    · exact hR j h5
    · exact Nat.le_trans hF.size h5
end Go.Proofs.YtoajnmbbgbpbgaaGreat
