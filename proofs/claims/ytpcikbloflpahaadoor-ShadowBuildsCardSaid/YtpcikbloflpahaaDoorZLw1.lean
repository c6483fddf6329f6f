/-
  Chapter 7: what Build leaves behind, in one.
-/
import Derived.Test.YtpcikbloflpahaaDoorZLo3
import Derived.Test.YtpcikbloflpahaaDoorYK
import Derived.Test.YtpcikbloflpahaaDoorZBu7
import Derived.Test.YtpcikbloflpahaaDoorYH
namespace Go.Proofs.YtpcikbloflpahaaDoor
set_option linter.unusedVariables false
set_option linter.unusedSimpArgs false
open Go.RowKit Go.Shelf Go.Maps

theorem valT_top0 (B : List Int) (a : Nat) : valT B 0 a = 0 := by
  unfold valT
  split
  · rfl
  split
  · exact rdN_zero B _
  · rw [show (rdN B 0).getD ((a - 5) / 32) 0 = 0 from rdN_zero B _]
    exact rdN_zero B _
theorem treeOk_top0 (B : List Int) (N : Nat) : TreeOk B N 0 :=
  ⟨fun i _ _ => rdN_zero B i, fun a _ h => absurd (valT_top0 B a) h, fun a b _ _ _ h => absurd (valT_top0 B a) h⟩
theorem treeB_top0 (B : List Int) (N : Nat) : treeB B N 0 = some [] := by unfold treeB treeS; rw [if_pos rfl]
theorem tree_any (B : List Int) (N : Nat) (top : Int) : (∃ s, treeB B N top = some s) ↔ TreeOk B N top := by
  by_cases h : top = 0
  · subst h
    exact ⟨fun _ => treeOk_top0 B N, fun _ => ⟨[], treeB_top0 B N⟩⟩
  · exact tree_iff B N top h
theorem tree_mem_any {B : List Int} {N : Nat} {top : Int} {s : List (Int × Int)} (hs : treeB B N top = some s) (n : Int) : n ∈ s.map Prod.fst ↔ ∃ a, a < 133 ∧ valT B top a = n ∧ n ≠ 0 := by
  by_cases h : top = 0
  · subst h
    rw [treeB_top0] at hs
    injection hs with hs
    subst hs
    constructor
    · intro h; cases h
    · rintro ⟨a, -, e, h⟩; exact absurd (e.symm.trans (valT_top0 B a)) h
  · exact tree_mem h hs n
theorem holdC_mono {c : List Int} {n : Int} {k : Nat} (hr : ∀ x ∈ c, 0 ≤ x) (h : c.getD k 0 ≠ 0) : (holdC c n).getD k 0 ≠ 0 := by
  unfold holdC
  split
  · rename_i hin
    by_cases e : n.toNat = k
    · have hk : k < c.length := by omega
      have h0 : 0 ≤ c.getD k 0 := by
        rw [List.getD_eq_getElem?_getD, List.getElem?_eq_getElem hk]
        exact hr _ (List.getElem_mem hk)
      rw [← e, List.getD_eq_getElem?_getD, List.getElem?_set_self (by omega), e]
      simp only [Option.getD_some]
      omega
    · rw [List.getD_eq_getElem?_getD, List.getElem?_set_ne e, ← List.getD_eq_getElem?_getD]
      exact h
  · exact h
theorem heldC_at {N : Nat} {l : List Int} {n : Nat} (h : (n : Int) ∈ l) (h2 : 2 ≤ n) (hN : n < N) : (heldC N l).getD n 0 ≠ 0 := by
  suffices ∀ m ≤ l.length, (n : Int) ∈ l.take m → (heldC N (l.take m)).getD n 0 ≠ 0 by
    have := this l.length (Nat.le_refl _)
    rw [List.take_length] at this
    exact this h
  intro m
  induction m with
  | zero => intro _ h; simp at h
  | succ m ih =>
    intro hm hin
    rw [List.take_succ_eq_append_getElem (by omega), heldC_snoc]
    rw [List.take_succ_eq_append_getElem (by omega), List.mem_append, List.mem_singleton] at hin
    have hle := heldC_le N (l.take m)
    rcases hin with hin | hin
    · exact holdC_mono (fun x hx => (hle x hx).1) (ih (by omega) hin)
    · rw [← hin]
      unfold holdC
      rw [heldC_len, if_pos ⟨by omega, by omega⟩, Int.toNat_natCast, List.getD_eq_getElem?_getD, List.getElem?_set_self (by rw [heldC_len]; exact hN)]
      simp only [Option.getD_some]
      have : 0 ≤ (heldC N (l.take m)).getD n 0 := by
        rw [List.getD_eq_getElem?_getD, List.getElem?_eq_getElem (by rw [heldC_len]; exact hN)]
        exact (hle _ (List.getElem_mem _)).1
      omega
/-- Build's good end, in the law's words. -/
structure BltQ (w : World) (db mb cb fb N : Nat) (A : Nat → Prop) (B : List Int) (c : List Int) (top : Int) (Lc : List ChA) (z : Int) (w' : World) (A' : Nat → Prop) (B2 : List Int) (c' : List Int) (acts : Nat) : Prop where
  gr : Gr7 w A A'
  dk : ∃ ps, DkS w' db N A' acts B ps ∧ applyW B ps = B2
  sp : SpG w' mb cb fb c'
  len : c'.length = N
  cost : costG B top Lc = (acts : Int)
  free : freeN c' + acts = freeN c
  ok : ∃ s, treeB B2 N z = some s
  mem : memB B2 z = chgB (memB B top) (outG (pagesG Lc 128))
  old : ∀ n, n ∈ usedJ c c.length → secB B2 n.toNat = secB B n.toNat ∧ c'.getD n.toNat 0 = c.getD n.toNat 0
  rng : B2.length = 64 * N ∧ ∀ x ∈ B2, 0 ≤ x ∧ x < 256
  zr : 0 ≤ z ∧ z ≤ 2000 ∨ z = top
theorem blt_of {w w' : World} {db mb cb fb N : Nat} {A : Nat → Prop} {B c : List Int} {top : Int} {Lc : List ChA} {z : Int} (hB : B.length = 64 * N) (hBr : ∀ x ∈ B, 0 ≤ x ∧ x < 256) (hN : N ≤ 2000) (hcl : c.length = N) (hgl : ∀ y ∈ Lc, goodC y) (hbr : ∀ x ∈ outG (pagesG Lc 128), ∀ b ∈ x.2, 0 ≤ b ∧ b < 256)
    {s : List (Int × Int)} (hs : treeB B N top = some s) (hheld : ∀ n ∈ s.map Prod.fst, c.getD n.toNat 0 ≠ 0) (hroom : costG B top Lc ≤ (freeN c : Int)) (h : BldE w db mb cb fb N A 0 B [] c top Lc z w') :
    ∃ A' B2 c' acts, BltQ w db mb cb fb N A B c top Lc z w' A' B2 c' acts := by
  have hok := (tree_any B N top).1 ⟨s, hs⟩
  have hap : applyW B [] = B := rfl
  obtain ⟨A', hG, h⟩ := h
  rw [hap] at h
  rcases h with ⟨h1, rfl, h3, h4⟩ | ⟨h1, h2, h3, h4, h5, h6⟩
  · refine ⟨A', B, c, 0, hG, ⟨[], h3, hap⟩, h4, hcl, costG_same h1, by omega, ⟨s, hs⟩, by rw [h1]; rfl, fun n _ => ⟨rfl, rfl⟩, ⟨hB, hBr⟩, .inr rfl⟩
  · have hcost := costG_bld (B := B) (top := top) h1
    have hrm : bldN B top Lc ≤ freeN c := by omega
    obtain ⟨k1, k2, k3, k4⟩ := bld_tree hB hBr hN hok Lc hgl hbr hcl (fun a ha hne => hheld _ ((tree_mem_any hs _).2 ⟨a, ha, rfl, hne⟩)) hrm
    rw [← h2] at k3 k4
    generalize (bldR B top Lc c []).2.2 = ps at *
    generalize (bldR B top Lc c []).2.1 = c' at *
    obtain ⟨a1, a2, a3⟩ := applyW_all hB hBr ps k2
    refine ⟨A', _, c', bldN B top Lc, hG, ⟨ps, by rw [Nat.zero_add] at h3; exact h3, rfl⟩, h4, h5, hcost, h6, (tree_any _ _ _).2 k3, k4, fun n hn => ?_, ⟨a1, a2⟩, ?_⟩
    · obtain ⟨m, rfl, hm, hm2, hm0⟩ := used_mem.1 hn
      rw [Int.toNat_natCast]
      obtain ⟨f1, f2, f3, f4, f5⟩ := k1
      have hnot : m ∉ ps.map Prod.fst := fun hin => by
        obtain ⟨x, hx, e⟩ := List.mem_map.1 hin
        have := f3 x hx
        unfold freeQ at this
        rw [e] at this
        simp only [Bool.and_eq_true, decide_eq_true_eq] at this
        omega
      refine ⟨?_, f5 m hnot⟩
      rw [a3, lastW_notin hnot]
      rfl
    · left
      by_cases hz : z = 0
      · subst hz
        omega
      · have := k3.2.1 0 (by omega) (by unfold valT; rw [if_pos rfl]; exact hz)
        unfold valT at this
        rw [if_pos rfl] at this
        omega
end Go.Proofs.YtpcikbloflpahaaDoor
