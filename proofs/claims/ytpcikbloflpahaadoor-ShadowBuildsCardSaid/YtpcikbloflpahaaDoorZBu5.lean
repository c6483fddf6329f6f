/-
  Chapter 7: the room that a plan needs (plain); a plan that changes nothing.
-/
import Derived.Test.YtpcikbloflpahaaDoorZBu4
namespace Go.Proofs.YtpcikbloflpahaaDoor
set_option linter.unusedVariables false
set_option linter.unusedSimpArgs false
open Go.RowKit Go.Shelf Go.Maps

theorem takeN_ok {c : List Int} (h : 0 < freeN c) : takeC c = some (takeN c) ∧ 2 ≤ takeN c ∧ takeN c < c.length ∧ freeN (c.set (takeN c) 1) + 1 = freeN c := by
  obtain ⟨n, hn⟩ := take_ok h
  have e : takeN c = n := by unfold takeN; rw [hn]; rfl
  rw [e]
  obtain ⟨h1, h2, -⟩ := takeC_some hn
  exact ⟨hn, (freeQ_iff.1 h1).1, h2, freeN_take hn⟩
theorem pagesL_free (F : LfF) (c : List Int) (ws : Ws) (ps : List Chg) (hf : ps.length ≤ freeN c) (n : Nat) (hn : n ≤ ps.length) : freeN (pagesL F c ws (ps.take n)).2.1 + n = freeN c := by
  induction n with
  | zero => rw [List.take_zero]; rfl
  | succ n ih =>
    have := ih (by omega)
    rw [List.take_succ_eq_append_getElem (by omega), pagesL_snoc]
    unfold stP
    dsimp only
    have := (takeN_ok (c := (pagesL F c ws (ps.take n)).2.1) (by omega)).2.2.2
    omega
theorem leavesL_free (F : LfF) (tn c : List Int) (ws : Ws) (htn : tn.length = 32) (hf : cntU F 4 ≤ freeN c) (q : Nat) (hq : q ≤ 4) :
    freeN (leavesL F tn c ws q).2.1 + cntU F q = freeN c ∧ (leavesL F tn c ws q).1.length = 32 ∧ ∀ k : Nat, k < 32 → ((k < q ∧ (F (k : Int)).isSome = true) → 2 ≤ (leavesL F tn c ws q).1.getD k 0) ∧ (¬ (k < q ∧ (F (k : Int)).isSome = true) → (leavesL F tn c ws q).1.getD k 0 = tn.getD k 0) := by
  induction q with
  | zero => exact ⟨rfl, htn, fun k hk => ⟨fun h => by omega, fun h => rfl⟩⟩
  | succ q ih =>
    obtain ⟨i1, i2, i3⟩ := ih (by omega)
    have hu := cntU_le F (q + 1) (by omega)
    rw [← cntU4] at hu
    rw [leavesL_succ]
    rw [cntU_succ] at hu ⊢
    generalize leavesL F tn c ws q = t at *
    obtain ⟨ta, ct, wt⟩ := t
    dsimp only at i1 i2 i3
    unfold stL
    cases hF : F (q : Int) with
    | none =>
      have h1 : one4 F (q : Int) = 0 := by unfold one4; rw [hF]; rfl
      refine ⟨by dsimp only; omega, i2, fun k hk => ?_⟩
      have := i3 k hk
      by_cases e : k = q
      · subst e
        rw [hF] at this ⊢
        exact ⟨fun h => absurd h.2 (by simp), fun _ => this.2 (fun h => absurd h.2 (by simp))⟩
      · exact ⟨fun h => this.1 ⟨by omega, h.2⟩, fun h => this.2 (fun h2 => h ⟨by omega, h2.2⟩)⟩
    | some lf =>
      have h1 : one4 F (q : Int) = 1 := by unfold one4; rw [hF]; rfl
      obtain ⟨t1, t2, t3, t4⟩ := takeN_ok (c := ct) (by omega)
      refine ⟨by dsimp only; omega, by simp [i2], fun k hk => ?_⟩
      dsimp only
      rw [set_getD7 _ _ _ _ (by omega)]
      have := i3 k hk
      by_cases e : q = k
      · subst e
        rw [if_pos rfl, hF]
        exact ⟨fun _ => by omega, fun h => absurd ⟨by omega, rfl⟩ h⟩
      · rw [if_neg e]
        exact ⟨fun h => this.1 ⟨by omega, h.2⟩, fun h => this.2 (fun h2 => h ⟨by omega, h2.2⟩)⟩
/-- Whether the new tree is empty: as planned. -/
theorem layT_nd0 (F : LfF) (tn c : List Int) (ws : Ws) (ps : List Chg) (htn : tn.length = 32) (hf : ps.length + cnt4 F ≤ freeN c) (h1 : ∀ (i : Int) l, F i = some l → 0 ≤ i ∧ i < 4) (h2 : ∀ k : Nat, k < 32 → (F (k : Int)).isSome = true → tn.getD k 0 ≠ 0) : layT F tn c ws ps = nd0 ↔ tn = nd0 := by
  have hpf := pagesL_free F c ws ps (by omega) ps.length (Nat.le_refl _)
  rw [List.take_length] at hpf
  have hps := pagesL_some F c ws ps
  unfold layT
  generalize pagesL F c ws ps = s at *
  obtain ⟨F1, c1, ws1⟩ := s
  dsimp only at hpf hps ⊢
  have hc : cntU F1 4 = cnt4 F := by rw [cntU4]; unfold cnt4 one4; simp only [hps]
  obtain ⟨-, i2, i3⟩ := leavesL_free F1 tn c1 ws1 htn (by omega) 4 (Nat.le_refl _)
  generalize (leavesL F1 tn c1 ws1 4).1 = ta at *
  have hlt4 : ∀ k : Nat, (F1 (k : Int)).isSome = true → k < 4 := fun k h => by
    rw [hps] at h
    obtain ⟨l, hl⟩ := Option.isSome_iff_exists.1 h
    have := (h1 _ _ hl).2
    omega
  constructor
  · intro h
    apply Decidable.byContradiction
    intro hne
    obtain ⟨k, hk, hv⟩ := (ne_nd0 htn).1 hne
    have := i3 k hk
    rw [h, nd0_get] at this
    by_cases hs : (F1 (k : Int)).isSome = true
    · have := this.1 ⟨hlt4 k hs, hs⟩; omega
    · exact hv (this.2 (fun h => hs h.2)).symm
  · intro h
    apply Decidable.byContradiction
    intro hne
    obtain ⟨k, hk, hv⟩ := (ne_nd0 i2).1 hne
    have := i3 k hk
    by_cases hs : (F1 (k : Int)).isSome = true
    · have h3 := h2 k hk (by rw [← hps]; exact hs)
      rw [h, nd0_get] at h3
      exact h3 rfl
    · have h3 := this.2 (fun h => hs h.2)
      rw [h, nd0_get] at h3
      exact hv h3
theorem plan34g {w : World} {pb lm : Nat} {pv : Value} {tn : List Int} {old : Int} {sm : Bool} (h : w.heap[pb]? = some (.cells (PlC pv tn lm old sm).toArray 129 (0, 0))) (hl : tn.length = 32) : w.cell? ⟨pb, 34, none⟩ = some (.int .i64 old) := by
  refine heap_cell h ?_
  rw [List.getElem?_toArray, PlC, List.getElem?_cons_succ, List.getElem?_append_right (by rw [nds_len, hl]; omega), nds_len, hl]
  rfl
set_option maxHeartbeats 1000000 in
set_option maxRecDepth 1000000 in
theorem slay_same {w : World} {pb lm wb : Nat} {pv : Value} {tn : List Int} {old : Int} (hb : w.heap[pb]? = some (.cells (PlC pv tn lm old true).toArray 129 (0, 0))) (hl : tn.length = 32) :
    Calls Tryd.prog 48 #[.pointer (some ⟨pb, 0, none⟩), .pointer (some ⟨wb, 0, none⟩)] w fun e w' => e = .returned (.int .i64 old) ∧ w' = w := by
  have k35 : w.cell? ⟨pb, 35, none⟩ = some (.bool true) := plan35g hb hl
  have k34 := plan34g hb hl
  clear hb hl
  go_enter Tryd.func48, Tryd.ntmps48
  go_wp2_with fail
  go_ret
  exact ⟨rfl, rfl⟩
end Go.Proofs.YtpcikbloflpahaaDoor
