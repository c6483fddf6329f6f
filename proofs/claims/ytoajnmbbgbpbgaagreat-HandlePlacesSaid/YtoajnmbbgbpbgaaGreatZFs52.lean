/-
  Chapter 12, the reference: Files.
-/
import Derived.Test.YtoajnmbbgbpbgaaGreatZFs51
import Derived.Test.YtoajnmbbgbpbgaaGreatZK
import Derived.Test.YtoajnmbbgbpbgaaGreatZFs35
namespace Go.Proofs.YtoajnmbbgbpbgaaGreat
set_option linter.unusedVariables false
set_option linter.unusedSimpArgs false
open Go.RowKit Go.Shelf Go.Maps

theorem ownsRow_take {w : World} {base e n cap k : Nat} {a : Option Addr} {xs : List Value} (h : w.ownsRow base e 1 (.slice a n cap) n xs) (hk : k ≤ n) : w.ownsRow base e 1 (.slice a k cap) k (xs.take k) := by
  obtain ⟨h1, ⟨e1, e2⟩ | ⟨g, cap', cur, e1, hg, hh, hn, hm, hc, ht⟩⟩ := h
  · injection e1 with q1 q2 q3
    subst q1; subst q2; subst q3
    obtain rfl : k = 0 := by omega
    exact World.ownsRow_nil _ _ _ _
  · injection e1 with q1 q2 q3
    subst q1; subst q3
    refine ⟨by rw [List.length_take]; omega, .inr ⟨g, cap, cur, rfl, hg, hh, by omega, hm, hc, ?_⟩⟩
    rw [← ht, List.take_take]
    congr 1
    omega
theorem filesL_take {B : List Int} {L : List Nd} {k : Nat} (h : k < L.length) : filesL B (L.take (k + 1)) = if L[k].name = noName then filesL B (L.take k) else filesL B (L.take k) ++ [entry B L[k]] := by
  rw [List.take_succ_eq_append_getElem h]
  by_cases hn : L[k].name = noName
  · have hd : named L[k] = false := by simp [named, hn]
    rw [if_pos hn, filesL, List.filter_append, List.map_append, List.filter_cons_of_neg (by rw [hd]; decide)]; simp [filesL]
  · have hd : named L[k] = true := by simp [named, hn]
    rw [if_neg hn, filesL, List.filter_append, List.map_append, List.filter_cons_of_pos hd]; simp [filesL]
theorem filesL_len (B : List Int) (L : List Nd) : (filesL B L).length ≤ L.length := by
  rw [filesL, List.length_map]; exact List.length_filter_le _ _

end Go.Proofs.YtoajnmbbgbpbgaaGreat
