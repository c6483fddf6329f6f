/-
  Chapter 7: a plan is fit to be laid (plain).
-/
import Derived.Test.YtpcikbloflpahaaDoorZBu3
import Derived.Test.YtpcikbloflpahaaDoorZRf10
namespace Go.Proofs.YtpcikbloflpahaaDoor
set_option linter.unusedVariables false
set_option linter.unusedSimpArgs false
open Go.RowKit Go.Shelf Go.Maps

theorem pagesG_asc (L : List ChA) (n : Nat) : (∀ y ∈ pagesG L n, 0 ≤ y.1 ∧ y.1 < (n : Int)) ∧ (pagesG L n).Pairwise (fun a b => a.1 < b.1) := by
  induction n with
  | zero => exact ⟨fun y hy => by simp [pagesG] at hy, List.Pairwise.nil⟩
  | succ n ih =>
    unfold pagesG
    cases hl : lastG L (n : Int) with
    | none => dsimp only; rw [List.append_nil]; exact ⟨fun y hy => by have := ih.1 y hy; omega, ih.2⟩
    | some b =>
      dsimp only
      refine ⟨fun y hy => ?_, ?_⟩
      · rcases List.mem_append.1 hy with h | h
        · have := ih.1 y h; omega
        · simp at h; subst h; dsimp only; omega
      · rw [List.pairwise_append]
        refine ⟨ih.2, List.pairwise_singleton _ _, fun a ha b hb => ?_⟩
        simp at hb
        subst hb
        exact (ih.1 a ha).2
theorem outG_asc (L : List ChA) : (outG (pagesG L 128)).Pairwise (fun a b => a.1 < b.1) := by
  unfold outG
  rw [List.pairwise_map]
  exact (pagesG_asc L 128).2
theorem rdN_range2 {B : List Int} (h : ∀ x ∈ B, 0 ≤ x ∧ x < 256) (n : Int) (k : Nat) : 0 ≤ (rdN B n).getD k 0 ∧ (rdN B n).getD k 0 ≤ 65535 := by
  unfold rdN
  split
  · rw [nd0_get]; omega
  · exact ndB_range h _ _
/-- What a plan's leaves hold, behind some changes. -/
theorem pln_inv {B : List Int} (hB : ∀ x ∈ B, 0 ≤ x ∧ x < 256) (tn : List Int) (cs : List Chg) (hg : ∀ c ∈ cs, 0 ≤ c.1 ∧ c.1 < 128 ∧ c.2.length = 64) (ha : cs.Pairwise (fun a b => a.1 < b.1)) (n : Nat) (hn : n ≤ cs.length) :
    (∀ (i : Int) (k : Nat), k < 32 → (0 ≤ (leafG7 (plnF B tn (cs.take n)) B tn i).getD k 0 ∧ (leafG7 (plnF B tn (cs.take n)) B tn i).getD k 0 ≤ 65535) ∨ ∃ p ∈ fullC (cs.take n), p.1 = 32 * i + (k : Int)) ∧
    ∀ p ∈ fullC (cs.take n), ∃ l, plnF B tn (cs.take n) (p.1 / 32) = some l ∧ l.getD (p.1 % 32).toNat 0 = -1 := by
  induction n with
  | zero =>
    refine ⟨fun i k hk => .inl ?_, fun p hp => by simp [fullC] at hp⟩
    rw [List.take_zero]
    exact rdN_range2 hB _ k
  | succ n ih =>
    obtain ⟨ih1, ih2⟩ := ih (by omega)
    have hlt : n < cs.length := by omega
    have hgn := hg _ (List.getElem_mem hlt)
    have hok : okF (plnF B tn (cs.take n)) := plnF_ok _ _ _ (fun c hc => by have := hg c (List.mem_of_mem_take hc); exact ⟨this.1, this.2.1⟩)
    have hll := fun i => leafG7_len hok B tn i
    have e3 := plnF_snoc B tn (cs.take n) cs[n]
    have e4 := fullC_snoc (cs.take n) cs[n]
    have hbef : ∀ p ∈ cs.take n, p.1 < cs[n].1 := fun p hp => by
      obtain ⟨i, hi, rfl⟩ := List.getElem_of_mem hp
      rw [List.length_take] at hi
      rw [List.getElem_take]
      exact List.pairwise_iff_getElem.1 ha i n (by omega) hlt (by omega)
    rw [← List.take_succ_eq_append_getElem hlt] at e3 e4
    rw [e3, e4]
    have hfm : ∀ p ∈ fullC (cs.take n), p ∈ cs.take n := fun p hp => (List.mem_filter.1 hp).1
    generalize cs[n] = c at *
    obtain ⟨pg, dt⟩ := c
    dsimp only at hgn hbef ⊢
    obtain ⟨h0, h1, -⟩ := hgn
    generalize plnF B tn (cs.take n) = F at *
    have hs : ∀ i, leafG7 (stepL B tn F (pg, dt)) B tn i = if i = pg / 32 then (leafG7 F B tn (pg / 32)).set (pg % 32).toNat (if blankB dt then 0 else -1) else leafG7 F B tn i := fun i => by
      unfold stepL
      dsimp only
      by_cases e : i = pg / 32
      · rw [if_pos e]
        show (if i = pg / 32 then some _ else F i).getD _ = _
        rw [if_pos e]; rfl
      · rw [if_neg e]
        show (if i = pg / 32 then some _ else F i).getD _ = _
        rw [if_neg e]; rfl
    refine ⟨fun i k hk => ?_, fun p hp => ?_⟩
    · rw [hs]
      by_cases e : i = pg / 32
      · rw [if_pos e, set_getD7 _ _ _ _ (by rw [hll]; omega)]
        by_cases e2 : (pg % 32).toNat = k
        · rw [if_pos e2]
          cases hb : blankB dt with
          | true => left; simp
          | false => right; exact ⟨(pg, dt), by simp, by dsimp only; omega⟩
        · rw [if_neg e2, ← e]
          rcases ih1 i k hk with h | ⟨p, hp, h⟩
          · exact .inl h
          · exact .inr ⟨p, List.mem_append_left _ hp, h⟩
      · rw [if_neg e]
        rcases ih1 i k hk with h | ⟨p, hp, h⟩
        · exact .inl h
        · exact .inr ⟨p, List.mem_append_left _ hp, h⟩
    · rcases List.mem_append.1 hp with hp | hp
      · obtain ⟨l, hl, hk⟩ := ih2 p hp
        have hlt2 := hbef p (hfm p hp)
        have hgp : 0 ≤ p.1 := (hg p (List.mem_of_mem_take (hfm p hp))).1
        by_cases e : p.1 / 32 = pg / 32
        · refine ⟨(leafG7 F B tn (pg / 32)).set (pg % 32).toNat (if blankB dt then 0 else -1), by unfold stepL; dsimp only; rw [if_pos e], ?_⟩
          rw [set_getD7 _ _ _ _ (by rw [hll]; omega), if_neg (by omega)]
          have : leafG7 F B tn (pg / 32) = l := by unfold leafG7; rw [← e, hl]; rfl
          rw [this]; exact hk
        · exact ⟨l, by unfold stepL; dsimp only; rw [if_neg e]; exact hl, hk⟩
      · cases hb : blankB dt with
        | true => rw [hb] at hp; simp at hp
        | false =>
          rw [hb] at hp
          simp at hp
          subst hp
          refine ⟨_, by unfold stepL; dsimp only; rw [if_pos rfl], ?_⟩
          rw [set_getD7 _ _ _ _ (by rw [hll]; omega), if_pos rfl, hb]
          rfl
theorem plan_ok {B : List Int} (hB : ∀ x ∈ B, 0 ≤ x ∧ x < 256) (top : Int) (cs : List Chg) (hg : ∀ c ∈ cs, 0 ≤ c.1 ∧ c.1 < 128 ∧ c.2.length = 64) (hr : ∀ c ∈ cs, ∀ x ∈ c.2, 0 ≤ x ∧ x < 256) (ha : cs.Pairwise (fun a b => a.1 < b.1)) :
    OkP (keepF (plnF B (rdN B top) cs)) (fullC cs) ∧ OkT (keepF (plnF B (rdN B top) cs)) (topF (rdN B top) (plnF B (rdN B top) cs)) 0 := by
  have hinv := pln_inv hB (rdN B top) cs hg ha cs.length (Nat.le_refl _)
  rw [List.take_length] at hinv
  obtain ⟨h1, h2⟩ := hinv
  have hok : okF (plnF B (rdN B top) cs) := plnF_ok _ _ _ (fun c hc => ⟨(hg c hc).1, (hg c hc).2.1⟩)
  generalize plnF B (rdN B top) cs = F at *
  have hkeep : ∀ i l, keepF F i = some l → F i = some l := fun i l h => by
    unfold keepF at h
    cases hq : F i with
    | none => rw [hq] at h; cases h
    | some l0 =>
      rw [hq] at h
      simp only [Option.bind_some] at h
      split at h
      · cases h
      · exact h
  refine ⟨⟨fun i l h => hok i l (hkeep i l h), fun i l h k hk => ?_, fun p hp => ?_⟩, ⟨topF_len _ _, fun k hk => ?_⟩⟩
  · have := h1 i k hk
    unfold leafG7 at this
    rw [hkeep i l h] at this
    exact this
  · have hm : p ∈ cs := (List.mem_filter.1 hp).1
    obtain ⟨a, b, c⟩ := hg p hm
    refine ⟨⟨a, b, c, hr p hm⟩, ?_⟩
    obtain ⟨l, hl, hv⟩ := h2 p hp
    unfold keepF
    rw [hl]
    have hne : l ≠ nd0 := fun e => by rw [e, nd0_get] at hv; cases hv
    simp [hne]
  · have h3 : (topF (rdN B top) F).getD k 0 = match F (k : Int) with | none => (rdN B top).getD k 0 | some l => if l = nd0 then 0 else -1 := by
      rw [List.getD_eq_getElem?_getD, List.getElem?_eq_getElem (by rw [topF_len]; omega)]
      simp only [topF, List.getElem_map, List.getElem_range, Option.getD_some]
      cases F (k : Int) <;> rfl
    rw [h3]
    cases hq : F (k : Int) with
    | none => exact .inl (rdN_range2 hB _ k)
    | some l =>
      dsimp only
      by_cases e : l = nd0
      · rw [if_pos e]; left; omega
      · right
        refine ⟨Nat.zero_le _, by have := (hok _ _ hq).2.1; omega, ?_⟩
        unfold keepF
        rw [hq]
        simp [e]
end Go.Proofs.YtpcikbloflpahaaDoor
