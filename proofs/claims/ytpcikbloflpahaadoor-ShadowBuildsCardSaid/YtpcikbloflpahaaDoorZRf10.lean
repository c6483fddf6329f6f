/-
  Chapter 7: both Costs are the same (plain).
-/
import Derived.Test.YtpcikbloflpahaaDoorYL
namespace Go.Proofs.YtpcikbloflpahaaDoor
set_option linter.unusedVariables false
set_option linter.unusedSimpArgs false
open Go.RowKit Go.Shelf Go.Maps

theorem nd0_get (k : Nat) : nd0.getD k 0 = 0 := by
  unfold nd0
  rw [List.getD_eq_getElem?_getD, List.getElem?_replicate]
  split <;> rfl
theorem ne_nd0 {l : List Int} (hl : l.length = 32) : l ≠ nd0 ↔ ∃ k, k < 32 ∧ l.getD k 0 ≠ 0 := by
  constructor
  · intro h
    by_cases hq : ∃ k, k < 32 ∧ l.getD k 0 ≠ 0
    · exact hq
    · exfalso
      apply h
      apply List.ext_getElem (by rw [hl]; rfl)
      intro i h1 h2
      have : l.getD i 0 = 0 := by
        by_cases e : l.getD i 0 = 0
        · exact e
        · exact absurd ⟨i, by omega, e⟩ hq
      rw [List.getD_eq_getElem?_getD, List.getElem?_eq_getElem h1] at this
      simp only [Option.getD_some] at this
      rw [this]
      exact (by have := nd0_get i; rw [List.getD_eq_getElem?_getD, List.getElem?_eq_getElem h2] at this; exact this.symm)
  · rintro ⟨k, hk, h⟩ rfl
    exact h (nd0_get k)
theorem anyH_iff (H : List Bool) (i : Nat) : anyH H i 32 = true ↔ ∃ k, k < 32 ∧ H.getD (32 * i + k) false = true := by
  unfold anyH
  rw [List.any_eq_true]
  constructor
  · rintro ⟨k, hk, h⟩; exact ⟨k, by simpa using hk, h⟩
  · rintro ⟨k, hk, h⟩; exact ⟨k, by simpa using hk, h⟩
theorem rdN_range {B : List Int} (h : ∀ x ∈ B, 0 ≤ x ∧ x < 256) (n : Int) (k : Nat) : 0 ≤ (rdN B n).getD k 0 := by
  unfold rdN
  split
  · rw [nd0_get]; exact Int.le_refl _
  · exact (ndB_range h _ _).1
theorem set_getD {α : Type} (l : List α) (i j : Nat) (x d : α) (hi : i < l.length) : (l.set i x).getD j d = if i = j then x else l.getD j d := by
  rw [List.getD_eq_getElem?_getD, List.getD_eq_getElem?_getD, List.getElem?_set]
  by_cases e : i = j
  · rw [if_pos e, if_pos e, if_pos hi]; rfl
  · rw [if_neg e, if_neg e]
/-- What both know of pages and leaves, behind some changes. -/
theorem cost_inv {B : List Int} (hB : ∀ x ∈ B, 0 ≤ x ∧ x < 256) (top : Int) (cs : List Chg) (hg : ∀ c ∈ cs, 0 ≤ c.1 ∧ c.1 < 128 ∧ c.2.length = 64) (n : Nat) (hn : n ≤ cs.length) :
    (∀ i : Nat, i < 4 → (touF (cs.take n)).getD i false = (plnF B (rdN B top) (cs.take n) (i : Int)).isSome) ∧
    ∀ i k : Nat, i < 4 → k < 32 → (hasF (hasT B top) (cs.take n)).getD (32 * i + k) false = decide ((leafG7 (plnF B (rdN B top) (cs.take n)) B (rdN B top) (i : Int)).getD k 0 ≠ 0) := by
  induction n with
  | zero =>
    refine ⟨fun i hi => ?_, fun i k hi hk => ?_⟩
    · rw [List.take_zero]
      show (List.replicate 4 false).getD i false = false
      rw [List.getD_eq_getElem?_getD, List.getElem?_replicate]
      split <;> rfl
    · rw [List.take_zero]
      show (hasT B top).getD (32 * i + k) false = decide ((rdN B ((rdN B top).getD ((i : Int)).toNat 0)).getD k 0 ≠ 0)
      have hlt : 32 * i + k < (hasT B top).length := by unfold hasT; rw [posJ_len, pgB_len]; omega
      rw [List.getD_eq_getElem?_getD, List.getElem?_eq_getElem hlt, Int.toNat_natCast]
      have h2 : (pgB B top 128).getD (32 * i + k) 0 = (rdN B ((rdN B top).getD i 0)).getD k 0 := by
        rw [List.getD_eq_getElem?_getD, List.getElem?_eq_getElem (by rw [pgB_len]; omega)]
        simp only [pgB, List.getElem_map, List.getElem_range, Option.getD_some]
        rw [if_pos (by omega), show (32 * i + k) / 32 = i from by omega, show (32 * i + k) % 32 = k from by omega]
      simp only [hasT, posJ, List.getElem_map, List.getElem_range, Option.getD_some]
      rw [if_pos (by omega), h2]
      have h0 := rdN_range hB ((rdN B top).getD i 0) k
      by_cases e : (rdN B ((rdN B top).getD i 0)).getD k 0 = 0
      · rw [e]; rfl
      · have h3 : 0 < (rdN B ((rdN B top).getD i 0)).getD k 0 := by omega
        rw [decide_eq_true h3, decide_eq_true e]
  | succ n ih =>
    obtain ⟨ih1, ih2⟩ := ih (by omega)
    have hlt : n < cs.length := by omega
    have hgn := hg _ (List.getElem_mem hlt)
    have hok : okF (plnF B (rdN B top) (cs.take n)) := plnF_ok _ _ _ (fun c hc => by have := hg c (List.mem_of_mem_take hc); exact ⟨this.1, this.2.1⟩)
    have e1 := touF_snoc (cs.take n) cs[n]
    have e2 := hasF_snoc (hasT B top) (cs.take n) cs[n]
    have e3 := plnF_snoc B (rdN B top) (cs.take n) cs[n]
    rw [← List.take_succ_eq_append_getElem hlt] at e1 e2 e3
    rw [e1, e2, e3]
    have htl := touF_len (cs.take n)
    have hhl : (hasF (hasT B top) (cs.take n)).length = 128 := by rw [hasF_len]; unfold hasT; rw [posJ_len, pgB_len]
    have hll := fun i => leafG7_len hok B (rdN B top) i
    generalize cs[n] = c at *
    obtain ⟨pg, dt⟩ := c
    dsimp only at hgn ⊢
    obtain ⟨h0, h1, -⟩ := hgn
    generalize plnF B (rdN B top) (cs.take n) = F at *
    generalize touF (cs.take n) = T at *
    generalize hasF (hasT B top) (cs.take n) = H at *
    refine ⟨fun i hi => ?_, fun i k hi hk => ?_⟩
    · rw [set_getD _ _ _ _ _ (by omega)]
      unfold stepL
      dsimp only
      by_cases e : (pg / 32).toNat = i
      · rw [if_pos e, if_pos (show (i : Int) = pg / 32 by omega)]; rfl
      · rw [if_neg e, if_neg (show ¬ (i : Int) = pg / 32 by omega)]; exact ih1 i hi
    · rw [set_getD _ _ _ _ _ (by omega)]
      have hs : leafG7 (stepL B (rdN B top) F (pg, dt)) B (rdN B top) (i : Int) = if (i : Int) = pg / 32 then (leafG7 F B (rdN B top) (pg / 32)).set (pg % 32).toNat (if blankB dt then 0 else -1) else leafG7 F B (rdN B top) (i : Int) := by
        unfold stepL
        dsimp only
        by_cases e : (i : Int) = pg / 32
        · rw [if_pos e]
          show (if (i : Int) = pg / 32 then some _ else F (i : Int)).getD _ = _
          rw [if_pos e]; rfl
        · rw [if_neg e]
          show (if (i : Int) = pg / 32 then some _ else F (i : Int)).getD _ = _
          rw [if_neg e]; rfl
      rw [hs]
      by_cases e : (i : Int) = pg / 32
      · rw [if_pos e, set_getD _ _ _ _ _ (by rw [hll]; omega)]
        by_cases e2 : (pg % 32).toNat = k
        · rw [if_pos (show pg.toNat = 32 * i + k by omega), if_pos e2]
          cases blankB dt <;> rfl
        · rw [if_neg (show ¬ pg.toNat = 32 * i + k by omega), if_neg e2, ← e]
          exact ih2 i k hi hk
      · rw [if_neg e, if_neg (show ¬ pg.toNat = 32 * i + k by omega)]
        exact ih2 i k hi hk
theorem cost_same {B : List Int} {N : Nat} {top : Int} {s : List (Int × Int)} (hB : ∀ x ∈ B, 0 ≤ x ∧ x < 256) (ht : treeB B N top = some s) (L : List ChA) (hgL : ∀ y ∈ L, goodC y) : costG B top L = (countR (hasT B top) (lvT B top) (outG (pagesG L 128)) : Int) := by
  have hg := outG_good hgL
  unfold costG costP countR
  generalize outG (pagesG L 128) = cs at *
  have hinv := cost_inv hB top cs hg cs.length (Nat.le_refl _)
  rw [List.take_length] at hinv
  obtain ⟨hT, hH⟩ := hinv
  have hok : okF (plnF B (rdN B top) cs) := plnF_ok _ _ _ (fun c hc => ⟨(hg c hc).1, (hg c hc).2.1⟩)
  have htl := fun k hk => tree_leaf ht k hk
  have hlv : ∀ i : Nat, i < 4 → (lvT B top).getD i false = decide (0 < (rdN B top).getD i 0) := fun i hi => by
    have hl : i < (lvT B top).length := by unfold lvT; rw [posJ_len, lvB_len]; exact hi
    have h2 : (lvB B top 4).getD i 0 = (rdN B top).getD i 0 := by
      rw [List.getD_eq_getElem?_getD, List.getElem?_eq_getElem (by rw [lvB_len]; omega)]
      simp only [lvB, List.getElem_map, List.getElem_range, Option.getD_some]
      rw [if_pos (by omega)]
    rw [List.getD_eq_getElem?_getD, List.getElem?_eq_getElem hl]
    simp only [lvT, posJ, List.getElem_map, List.getElem_range, Option.getD_some]
    rw [if_pos (by omega), h2]
  generalize plnF B (rdN B top) cs = F at *
  generalize hasF (hasT B top) cs = H at *
  generalize touF cs = T at *
  generalize lvT B top = lv at *
  have hany : ∀ i : Nat, i < 4 → ∀ l, F (i : Int) = some l → (anyH H i 32 = true ↔ l ≠ nd0) := fun i hi l hl => by
    rw [anyH_iff, ne_nd0 (hok _ _ hl).2.2]
    constructor
    · rintro ⟨k, hk, h⟩
      rw [hH i k hi hk] at h
      refine ⟨k, hk, ?_⟩
      have := of_decide_eq_true h
      unfold leafG7 at this
      rw [hl] at this
      exact this
    · rintro ⟨k, hk, h⟩
      refine ⟨k, hk, ?_⟩
      rw [hH i k hi hk]
      unfold leafG7
      rw [hl]
      exact decide_eq_true h
  have hone : ∀ i : Nat, i < 4 → one4 (keepF F) (i : Int) = if T.getD i false = true ∧ anyH H i 32 = true then 1 else 0 := fun i hi => by
    unfold one4 keepF
    rw [hT i hi]
    cases hq : F (i : Int) with
    | none => rfl
    | some l =>
      have := hany i hi l hq
      by_cases e : l = nd0
      · have h2 : ¬ anyH H i 32 = true := fun h => (this.1 h) e
        have h3 : anyH H i 32 = false := by simpa using h2
        simp [e, h3]
      · have h3 := this.2 e
        simp [e, h3]
  have hcnt : cnt4 (keepF F) = cN H T 4 := by
    have h0 := hone 0 (by omega)
    have h1 := hone 1 (by omega)
    have h2 := hone 2 (by omega)
    have h3 := hone 3 (by omega)
    unfold cnt4
    rw [show ((0 : Int)) = ((0 : Nat) : Int) from rfl, show ((1 : Int)) = ((1 : Nat) : Int) from rfl, show ((2 : Int)) = ((2 : Nat) : Int) from rfl, show ((3 : Int)) = ((3 : Nat) : Int) from rfl, h0, h1, h2, h3]
    simp only [cN]
    omega
  have hsv : ∀ i : Nat, i < 4 → (svL H lv T i = true ↔ (topF (rdN B top) F).getD i 0 ≠ 0) := fun i hi => by
    have h1 : (topF (rdN B top) F).getD i 0 = match F (i : Int) with | none => (rdN B top).getD i 0 | some l => if l = nd0 then 0 else -1 := by
      rw [List.getD_eq_getElem?_getD, List.getElem?_eq_getElem (by rw [topF_len]; omega)]
      simp only [topF, List.getElem_map, List.getElem_range, Option.getD_some]
      cases F (i : Int) <;> rfl
    rw [h1]
    unfold svL
    rw [hT i hi]
    cases hq : F (i : Int) with
    | none =>
      rw [if_neg (by simp), hlv i hi]
      have := htl i (by omega)
      rw [decide_eq_true_iff]
      dsimp only
      omega
    | some l =>
      rw [if_pos (by rfl), hany i hi l hq]
      dsimp only
      by_cases e : l = nd0
      · simp [e]
      · simp [e]
  have htop : topF (rdN B top) F ≠ nd0 ↔ sN H lv T 4 = true := by
    rw [ne_nd0 (topF_len _ _)]
    have hs : sN H lv T 4 = true ↔ ∃ i, i < 4 ∧ svL H lv T i = true := by
      simp only [sN, Bool.or_eq_true, Bool.false_or]
      constructor
      · rintro (((h | h) | h) | h)
        · exact ⟨0, by omega, h⟩
        · exact ⟨1, by omega, h⟩
        · exact ⟨2, by omega, h⟩
        · exact ⟨3, by omega, h⟩
      · rintro ⟨i, hi, h⟩
        have : i = 0 ∨ i = 1 ∨ i = 2 ∨ i = 3 := by omega
        rcases this with rfl | rfl | rfl | rfl
        · exact .inl (.inl (.inl h))
        · exact .inl (.inl (.inr h))
        · exact .inl (.inr h)
        · exact .inr h
    rw [hs]
    constructor
    · rintro ⟨k, hk, h⟩
      have hk4 : k < 4 := by
        by_cases e : k < 4
        · exact e
        · exfalso
          apply h
          rw [List.getD_eq_getElem?_getD, List.getElem?_eq_getElem (by rw [topF_len]; omega)]
          simp only [topF, List.getElem_map, List.getElem_range, Option.getD_some]
          cases hq : F (k : Int) with
          | none =>
            have := htl k hk
            dsimp only
            omega
          | some l => have := (hok _ _ hq).2.1; omega
      exact ⟨k, hk4, (hsv k hk4).2 h⟩
    · rintro ⟨i, hi, h⟩
      exact ⟨i, by omega, (hsv i hi).1 h⟩
  rw [hcnt]
  have hif : (decide (cs = []) = false ∧ topF (rdN B top) F ≠ nd0) ↔ (cs ≠ [] ∧ sN H lv T 4 = true) := by
    rw [htop, decide_eq_false_iff_not]
  simp only [hif]
  split <;> simp <;> omega
end Go.Proofs.YtpcikbloflpahaaDoor
