/-
  Chapter 12, the reference: Resize, plainly.
-/
import Derived.Test.YtoajnmbbgbpbgaaGreatZFs45
import Derived.Test.YtoajnmbbgbpbgaaGreatZFs37
namespace Go.Proofs.YtoajnmbbgbpbgaaGreat
set_option linter.unusedVariables false
set_option linter.unusedSimpArgs false
open Go.RowKit Go.Shelf Go.Maps

/-- The reference lays the inode and the set of blocks ahead of the rest of the last block. -/
theorem resize_ref {B : List Int} (hB : B.length = 8192) {L : List Nd} {u : Nat} (h : Tab B L u) {k : Nat} (hk : k < 8) {x' : Nd} (u' : Nat) (m : Int) (h0 : 0 ≤ m) (hok : inoOk x'.name x'.size x'.ext = true) (hsz : x'.size = m) (hl : (listF x'.ext).length = (needF m).toNat) (hh : Nat) :
    resizeB B L k x' u' hh = if 0 < m % 64 then layF (layF (layF (zeroN B ((listF x'.ext).drop hh)) (6144 + 64 * (1 + (k : Int))) (encF x'.name x'.size x'.ext)) (6144 + 64 * 0) (headF u')) (6144 + 64 * (listF x'.ext).getD ((needF m).toNat - 1) 0 + m % 64) (zs (64 - m % 64).toNat)
      else layF (layF (zeroN B ((listF x'.ext).drop hh)) (6144 + 64 * (1 + (k : Int))) (encF x'.name x'.size x'.ext)) (6144 + 64 * 0) (headF u') := by
  have hkL : k < L.length := by rw [h.len]; exact hk
  have hBz : (zeroN B ((listF x'.ext).drop hh)).length = 8192 := by rw [zeroN_length, hB]
  have hs15 := (inoOk_small hok).2.1
  rw [resizeB, layT, getD_set hkL, ndB_named (good_name hok), hsz, show 6144 + 64 * ((k + 1 : Nat) : Int) = 6144 + 64 * (1 + (k : Int)) by omega, restB]
  by_cases hr : 0 < m % 64
  · rw [if_pos hr, if_pos hr]
    have hn := need_rest h0 hr
    have h9 := listF_nine ((listF x'.ext).getD ((needF m).toNat - 1) 0) (getD_mem (by omega))
    rw [layF_comm _ hBz _ _ _ _ (by rw [zs_length, encF_length _ _ _ hs15]; omega)]
    rw [layF_comm _ (by rw [layF_length]; exact hBz) _ _ 6144 _ (by rw [zs_length, headF_length]; omega)]
    rw [show (6144 : Int) + 64 * 0 = 6144 by omega]
  · rw [if_neg hr, if_neg hr, show (6144 : Int) + 64 * 0 = 6144 by omega]
/-- What a resize asks of the sets of blocks. -/
theorem resize_ways {x : Nd} {u : Nat} {m : Int} (hok : okB (blkSeq (-1) x.ext) = true) (h0 : 0 ≤ needF m) :
    (((listF x.ext).length : Int) ≤ needF m → (match resizeT x u m with
      | none => growT x.ext u (needF m - (listF x.ext).length) = .inl 50
      | some (x', u') => growT x.ext u (needF m - (listF x.ext).length) = .inr (x'.ext, u') ∧ x'.name = x.name ∧ x'.size = m)) ∧
    (needF m < ((listF x.ext).length : Int) → ∃ x' u', resizeT x u m = some (x', u') ∧ shrinkT x.ext u (needF m) = .inr (x'.ext, u') ∧ x'.name = x.name ∧ x'.size = m) := by
  constructor
  · intro h
    rw [resizeT, if_neg (by omega)]
    cases hg : growF x.ext u (needF m - (listF x.ext).length) with
    | none =>
      simp only [Option.map_none]
      rw [growT, if_pos ⟨hok, by omega⟩, hg]
    | some p =>
      obtain ⟨ys, v⟩ := p
      simp only [Option.map_some]
      exact ⟨by rw [growT, if_pos ⟨hok, by omega⟩, hg], trivial, trivial⟩
  · intro h
    rw [resizeT, if_pos h]
    have hsh : shrinkF x.ext u (needF m) = some (joinsL ((listF x.ext).take (needF m).toNat), dropL u ((listF x.ext).drop (needF m).toNat)) := by rw [shrinkF, if_pos ⟨hok, h0, by omega⟩]
    rw [hsh]
    refine ⟨_, _, rfl, ?_, rfl, rfl⟩
    rw [shrinkT, hsh]
end Go.Proofs.YtoajnmbbgbpbgaaGreat
