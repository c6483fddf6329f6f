/-
  Chapter 7: a tree reaches its own sectors alone (plain).
-/
import Derived.Test.YtpcikbloflpahaaDoorZLo1
namespace Go.Proofs.YtpcikbloflpahaaDoor
set_option linter.unusedVariables false
set_option linter.unusedSimpArgs false
open Go.RowKit Go.Shelf Go.Maps

theorem rdN_agree {B B' : List Int} {n : Int} (h : n ≠ 0 → secB B' n.toNat = secB B n.toNat) : rdN B' n = rdN B n := by
  unfold rdN
  by_cases e : n = 0
  · rw [if_pos e, if_pos e]
  · rw [if_neg e, if_neg e]
    unfold ndB
    rw [h e]
theorem valT_agree {B B' : List Int} {N : Nat} {top : Int} (h : TreeOk B N top) (hag : ∀ a, a < 133 → valT B top a ≠ 0 → secB B' (valT B top a).toNat = secB B (valT B top a).toNat) : rdN B' top = rdN B top ∧ ∀ a, a < 133 → valT B' top a = valT B top a := by
  have h0 : rdN B' top = rdN B top := rdN_agree (fun hz => by
    have := hag 0 (by omega)
    have e : valT B top 0 = top := rfl
    rw [e] at this
    exact this hz)
  refine ⟨h0, fun a ha => ?_⟩
  unfold valT
  by_cases e0 : a = 0
  · rw [if_pos e0, if_pos e0]
  · rw [if_neg e0, if_neg e0, h0]
    by_cases e5 : a < 5
    · rw [if_pos e5, if_pos e5]
    · rw [if_neg e5, if_neg e5]
      rw [rdN_agree (B := B) (B' := B') (n := (rdN B top).getD ((a - 5) / 32) 0) (fun hz => by
        have := hag (1 + (a - 5) / 32) (by omega)
        rw [valT_leaf B top _ (by omega)] at this
        exact this hz)]
theorem tree_agree {B B' : List Int} {N N' : Nat} {top : Int} (h : TreeOk B N top) (hN : N ≤ N') (hag : ∀ a, a < 133 → valT B top a ≠ 0 → secB B' (valT B top a).toNat = secB B (valT B top a).toNat) : TreeOk B' N' top ∧ memB B' top = memB B top := by
  obtain ⟨h0, hv⟩ := valT_agree h hag
  obtain ⟨k1, k2, k3⟩ := h
  refine ⟨⟨fun i h4 h32 => by rw [h0]; exact k1 i h4 h32, fun a ha hne => ?_, fun a b ha hb hab hne => ?_⟩, ?_⟩
  · rw [hv a ha] at hne ⊢
    have := k2 a ha hne
    omega
  · rw [hv a ha] at hne ⊢
    rw [hv b hb]
    exact k3 a b ha hb hab hne
  · have hpg : pgB B' top 128 = pgB B top 128 := by
      apply List.ext_getElem (by rw [pgB_len, pgB_len])
      intro p h1 h2
      rw [pgB_len] at h1
      have e1 := pgB_get B' top p h1
      have e2 := pgB_get B top p h1
      rw [List.getD_eq_getElem?_getD, List.getElem?_eq_getElem (by rw [pgB_len]; exact h1)] at e1 e2
      simp only [Option.getD_some] at e1 e2
      rw [e1, e2, hv (5 + p) (by omega)]
    unfold memB
    rw [hpg]
    unfold memJ
    apply flat_congr7
    intro p hp
    have hp1 : p < 128 := List.mem_range.1 hp
    rw [if_pos hp1, if_pos hp1, pgB_get B top p hp1]
    unfold pageB
    by_cases hpos : 0 < valT B top (5 + p)
    · rw [if_pos hpos, if_pos hpos]
      exact hag (5 + p) (by omega) (by omega)
    · rw [if_neg hpos, if_neg hpos]
end Go.Proofs.YtpcikbloflpahaaDoor
