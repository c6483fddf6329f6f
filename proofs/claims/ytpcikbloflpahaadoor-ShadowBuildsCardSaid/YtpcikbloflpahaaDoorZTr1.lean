/-
  Chapter 7: which trees are right (plain).
-/
import Derived.Test.YtpcikbloflpahaaDoorYM
namespace Go.Proofs.YtpcikbloflpahaaDoor
set_option linter.unusedVariables false
set_option linter.unusedSimpArgs false
open Go.RowKit Go.Shelf Go.Maps

/-- Sectors met one by one. -/
def runM (N : Nat) (o : Option (List (Int × Int))) (l : List (Int × Int)) : Option (List (Int × Int)) := l.foldl (fun o y => metS N o y.1 y.2) o
theorem runM_none (N : Nat) (l : List (Int × Int)) : runM N none l = none := by
  unfold runM
  induction l with
  | nil => rfl
  | cons y l ih => rw [List.foldl_cons, metS_none]; exact ih
def FitM (N : Nat) (s l : List (Int × Int)) : Prop := (∀ x ∈ l, 2 ≤ x.1 ∧ x.1 < (N : Int)) ∧ (l.map Prod.fst).Nodup ∧ ∀ x ∈ l, x.1 ∉ s.map Prod.fst
theorem runM_iff (N : Nat) (s : List (Int × Int)) (l t : List (Int × Int)) : runM N (some s) l = some t ↔ t = s ++ l ∧ FitM N s l := by
  unfold FitM
  induction l generalizing s with
  | nil => simp [runM, eq_comm]
  | cons y l ih =>
    have hc : runM N (some s) (y :: l) = runM N (metS N (some s) y.1 y.2) l := rfl
    rw [hc]
    by_cases hok : okM N s y.1
    · rw [metS_ok hok, ih]
      obtain ⟨h1, h2, h3⟩ := hok
      simp only [List.append_assoc, List.cons_append, List.nil_append, List.mem_cons, forall_eq_or_imp, List.map_cons, List.nodup_cons, List.map_append, List.mem_append, List.mem_map, List.map_nil, List.mem_nil_iff, or_false, not_or]
      constructor
      · rintro ⟨rfl, h4, h5, h6⟩
        refine ⟨rfl, ⟨⟨h1, h2⟩, h4⟩, ⟨fun ⟨a, ha, e⟩ => (h6 a ha).2 e, h5⟩, by simpa using h3, fun x hx => (h6 x hx).1⟩
      · rintro ⟨rfl, ⟨-, h4⟩, ⟨h5, h6⟩, -, h8⟩
        exact ⟨rfl, h4, h6, fun x hx => ⟨h8 x hx, fun e => h5 ⟨x, hx, e⟩⟩⟩
    · rw [metS_bad hok, runM_none]
      constructor
      · intro h; cases h
      · rintro ⟨-, h1, h2, h3⟩
        exfalso
        exact hok ⟨(h1 y (List.mem_cons_self ..)).1, (h1 y (List.mem_cons_self ..)).2, h3 y (List.mem_cons_self ..)⟩
theorem runM_app (N : Nat) (o : Option (List (Int × Int))) (a b : List (Int × Int)) : runM N o (a ++ b) = runM N (runM N o a) b := by unfold runM; rw [List.foldl_append]
/-- A leaf's sectors. -/
def leafD (B : List Int) (x : Nat × Int) : List (Int × Int) := (x.2, -1) :: (ents (ndB B x.2.toNat)).map fun y => (y.2, (x.1 : Int) * 32 + (y.1 : Int))
theorem leafS_run (B : List Int) (N : Nat) (o : Option (List (Int × Int))) (x : Nat × Int) (hx : x.1 < 4) : leafS (fun n => ndB B n.toNat) N o x = runM N o (leafD B x) := by
  unfold leafS runM leafD
  rw [if_pos hx, List.foldl_cons, List.foldl_map]
/-- A tree's sectors, in the order of the walk. -/
def dfsB (B : List Int) (top : Int) : List (Int × Int) := (top, -1) :: (ents (ndB B top.toNat)).flatMap (leafD B)
theorem fold_leafS (B : List Int) (N : Nat) (l : List (Nat × Int)) (o : Option (List (Int × Int))) (h : ∀ x ∈ l, x.1 < 4) : l.foldl (leafS (fun n => ndB B n.toNat) N) o = runM N o (l.flatMap (leafD B)) := by
  induction l generalizing o with
  | nil => rfl
  | cons x l ih => rw [List.foldl_cons, leafS_run _ _ _ _ (h x (List.mem_cons_self ..)), ih _ (fun y hy => h y (List.mem_cons_of_mem _ hy)), List.flatMap_cons, runM_app]
theorem fold_leafS_far (B : List Int) (N : Nat) (l : List (Nat × Int)) (o : Option (List (Int × Int))) (h : ∃ x ∈ l, ¬ x.1 < 4) : l.foldl (leafS (fun n => ndB B n.toNat) N) o = none := by
  induction l generalizing o with
  | nil => obtain ⟨x, hx, -⟩ := h; cases hx
  | cons y l ih =>
    rw [List.foldl_cons]
    by_cases hy : y.1 < 4
    · obtain ⟨x, hx, hf⟩ := h
      rcases List.mem_cons.1 hx with rfl | hx
      · exact absurd hy hf
      · exact ih _ ⟨x, hx, hf⟩
    · have : leafS (fun n => ndB B n.toNat) N o y = none := by unfold leafS; rw [if_neg hy]
      rw [this]
      exact fold_leafS_none _ _ _
theorem treeB_iff (B : List Int) (N : Nat) (top : Int) (hz : top ≠ 0) (s : List (Int × Int)) : treeB B N top = some s ↔ (∀ x ∈ ents (ndB B top.toNat), x.1 < 4) ∧ s = dfsB B top ∧ FitM N [] (dfsB B top) := by
  unfold treeB treeS
  rw [if_neg hz]
  by_cases h : ∀ x ∈ ents (ndB B top.toNat), x.1 < 4
  · rw [fold_leafS _ _ _ _ h]
    have : runM N (metS N (some []) top (-1)) ((ents (ndB B top.toNat)).flatMap (leafD B)) = runM N (some []) (dfsB B top) := rfl
    rw [this, runM_iff]
    simp only [List.nil_append]
    exact ⟨fun ⟨a, b⟩ => ⟨h, a, b⟩, fun ⟨_, a, b⟩ => ⟨a, b⟩⟩
  · have hx : ∃ x ∈ ents (ndB B top.toNat), ¬ x.1 < 4 := by
      apply Decidable.byContradiction
      intro hn
      apply h
      intro x hx
      apply Decidable.byContradiction
      intro hq
      exact hn ⟨x, hx, hq⟩
    rw [fold_leafS_far _ _ _ _ hx]
    exact ⟨fun e => absurd e (by simp), fun ⟨a, _⟩ => absurd a h⟩
/-- What lies at a place of a tree: 0 the top, 1 .. 4 leaves, 5 .. 132 pages. -/
def valT (B : List Int) (top : Int) (a : Nat) : Int :=
  if a = 0 then top else if a < 5 then (rdN B top).getD (a - 1) 0 else (rdN B ((rdN B top).getD ((a - 5) / 32) 0)).getD ((a - 5) % 32) 0
def posL : List Nat := 0 :: (List.range 4).flatMap fun i => (1 + i) :: (List.range 32).map fun k => 5 + (32 * i + k)
theorem posL_nodup : posL.Nodup := by decide +kernel
theorem posL_mem : ∀ a, a < 133 → a ∈ posL := by decide +kernel
theorem posL_lt : ∀ a ∈ posL, a < 133 := by decide +kernel
def TreeOk (B : List Int) (N : Nat) (top : Int) : Prop :=
  (∀ i : Nat, 4 ≤ i → i < 32 → (rdN B top).getD i 0 = 0) ∧ (∀ a, a < 133 → valT B top a ≠ 0 → 2 ≤ valT B top a ∧ valT B top a < (N : Int)) ∧ ∀ a b, a < 133 → b < 133 → a ≠ b → valT B top a ≠ 0 → valT B top a ≠ valT B top b
theorem ents_snd (f : Nat → Int) (l : List Nat) : (l.filterMap fun k => if f k = 0 then none else some (k, f k)).map Prod.snd = (l.map f).filter fun x => decide (x ≠ 0) := by
  induction l with
  | nil => rfl
  | cons k l ih =>
    by_cases h : f k = 0
    · rw [List.filterMap_cons_none (by simp [h]), ih, List.map_cons, List.filter_cons_of_neg (by simp [h])]
    · rw [List.filterMap_cons_some (b := (k, f k)) (by simp [h]), List.map_cons, ih, List.map_cons, List.filter_cons_of_pos (by simp [h])]
theorem ents_flat (f : Nat → Int) (g : Nat × Int → List Int) (l : List Nat) : (l.filterMap fun k => if f k = 0 then none else some (k, f k)).flatMap g = l.flatMap fun k => if f k = 0 then [] else g (k, f k) := by
  induction l with
  | nil => rfl
  | cons k l ih =>
    by_cases h : f k = 0
    · rw [List.filterMap_cons_none (by simp [h]), ih, List.flatMap_cons, if_pos h, List.nil_append]
    · rw [List.filterMap_cons_some (b := (k, f k)) (by simp [h]), List.flatMap_cons, ih, List.flatMap_cons, if_neg h]
theorem rd_ne {B : List Int} {n : Int} (h : n ≠ 0) : rdN B n = ndB B n.toNat := by unfold rdN; rw [if_neg h]
theorem rd_zero (B : List Int) (k : Nat) : (rdN B 0).getD k 0 = 0 := by
  unfold rdN nd0
  rw [if_pos rfl, List.getD_eq_getElem?_getD, List.getElem?_replicate]
  split <;> rfl
theorem valT_leaf (B : List Int) (top : Int) (i : Nat) (hi : i < 4) : valT B top (1 + i) = (rdN B top).getD i 0 := by
  unfold valT
  rw [if_neg (by omega), if_pos (by omega), show 1 + i - 1 = i from by omega]
theorem valT_page (B : List Int) (top : Int) (i k : Nat) (hk : k < 32) : valT B top (5 + (32 * i + k)) = (rdN B ((rdN B top).getD i 0)).getD k 0 := by
  unfold valT
  rw [if_neg (by omega), if_neg (by omega), show (5 + (32 * i + k) - 5) / 32 = i from by omega, show (5 + (32 * i + k) - 5) % 32 = k from by omega]
theorem leafD_fst (B : List Int) (x : Nat × Int) (hx : x.2 ≠ 0) : (leafD B x).map Prod.fst = x.2 :: ((List.range 32).map fun k => (rdN B x.2).getD k 0).filter fun y => decide (y ≠ 0) := by
  unfold leafD
  rw [List.map_cons, List.map_map]
  congr 1
  rw [rd_ne hx]
  exact ents_snd (fun k => (ndB B x.2.toNat).getD k 0) (List.range 32)
theorem flat_congr7 {α β : Type} {l : List α} {f g : α → List β} (h : ∀ x ∈ l, f x = g x) : l.flatMap f = l.flatMap g := by
  induction l with
  | nil => rfl
  | cons y l ih => rw [List.flatMap_cons, List.flatMap_cons, h y (List.mem_cons_self ..), ih (fun x hx => h x (List.mem_cons_of_mem _ hx))]
theorem dfs_map {B : List Int} {top : Int} (hz : top ≠ 0) (h4 : ∀ i : Nat, 4 ≤ i → i < 32 → (rdN B top).getD i 0 = 0) : (dfsB B top).map Prod.fst = (posL.map (valT B top)).filter fun x => decide (x ≠ 0) := by
  unfold dfsB posL
  rw [List.map_cons, List.map_cons, List.filter_cons_of_pos (by simpa [valT] using hz)]
  congr 1
  rw [List.map_flatMap, List.map_flatMap, List.filter_flatMap]
  have e := ents_flat (fun k => (ndB B top.toNat).getD k 0) (fun x => (leafD B x).map Prod.fst) (List.range 32)
  have e0 : (ents (ndB B top.toNat)).flatMap (fun x => (leafD B x).map Prod.fst) = (List.range 32).flatMap fun k => if (rdN B top).getD k 0 = 0 then [] else (leafD B (k, (rdN B top).getD k 0)).map Prod.fst := by rw [rd_ne hz]; exact e
  have e2 : List.range 32 = List.range 4 ++ (List.range 28).map fun x => 4 + x := List.range_add (n := 4) (m := 28)
  rw [e0]
  conv => lhs; rw [e2, List.flatMap_append]
  have e1 : ((List.range 28).map fun x => 4 + x).flatMap (fun k => if (rdN B top).getD k 0 = 0 then [] else (leafD B (k, (rdN B top).getD k 0)).map Prod.fst) = [] := by
    rw [List.flatMap_eq_nil_iff]
    intro k hk
    rw [List.mem_map] at hk
    obtain ⟨j, hj, rfl⟩ := hk
    rw [if_pos (h4 (4 + j) (by omega) (by have := List.mem_range.1 hj; omega))]
  rw [e1, List.append_nil]
  apply flat_congr7
  intro i hi
  have hi4 : i < 4 := List.mem_range.1 hi
  rw [List.map_cons, List.map_map, valT_leaf B top i hi4]
  have hp : (List.range 32).map (valT B top ∘ fun k => 5 + (32 * i + k)) = (List.range 32).map fun k => (rdN B ((rdN B top).getD i 0)).getD k 0 := by
    apply List.map_congr_left
    intro k hk
    exact valT_page B top i k (List.mem_range.1 hk)
  rw [hp]
  by_cases h0 : (rdN B top).getD i 0 = 0
  · rw [if_pos h0, h0, List.filter_cons_of_neg (by simp)]
    symm
    rw [List.filter_eq_nil_iff]
    intro x hx
    rw [List.mem_map] at hx
    obtain ⟨k, -, rfl⟩ := hx
    rw [rd_zero]
    simp
  · rw [if_neg h0, leafD_fst B _ h0, List.filter_cons_of_pos (by simpa using h0)]
theorem ents_lt4 {B : List Int} {top : Int} (hz : top ≠ 0) : (∀ x ∈ ents (ndB B top.toNat), x.1 < 4) ↔ ∀ i : Nat, 4 ≤ i → i < 32 → (rdN B top).getD i 0 = 0 := by
  rw [rd_ne hz]
  constructor
  · intro h i h4 h32
    apply Decidable.byContradiction
    intro hv
    have : (i, (ndB B top.toNat).getD i 0) ∈ ents (ndB B top.toNat) := by
      unfold ents entsF
      rw [List.mem_filterMap]
      exact ⟨i, List.mem_range.2 h32, by rw [if_neg hv]⟩
    have := h _ this
    dsimp only at this
    omega
  · intro h x hx
    obtain ⟨h1, h2, h3⟩ := ents_mem hx
    apply Decidable.byContradiction
    intro hn
    exact h3 (by rw [h2]; exact h x.1 (by omega) h1)
theorem filt_pair (B : List Int) (top : Int) : ((posL.map (valT B top)).filter fun x => decide (x ≠ 0)).Nodup ↔ ∀ a b, a < 133 → b < 133 → a ≠ b → valT B top a ≠ 0 → valT B top a ≠ valT B top b := by
  unfold List.Nodup
  rw [List.pairwise_filter, List.pairwise_map]
  constructor
  · intro h a b ha hb hab hv he
    have hvb : valT B top b ≠ 0 := by rw [← he]; exact hv
    obtain ⟨i, hi, e1⟩ := List.getElem_of_mem (posL_mem a ha)
    obtain ⟨j, hj, e2⟩ := List.getElem_of_mem (posL_mem b hb)
    have hp := List.pairwise_iff_getElem.1 h
    have hij : i ≠ j := fun e => by subst e; exact hab (e1.symm.trans e2)
    rcases Nat.lt_or_gt_of_ne hij with q | q
    · have := hp i j hi hj q
      rw [e1, e2] at this
      exact this (by simpa using hv) (by simpa using hvb) he
    · have := hp j i hj hi q
      rw [e1, e2] at this
      exact this (by simpa using hvb) (by simpa using hv) he.symm
  · intro h
    refine posL_nodup.imp_of_mem (fun {a b} ha hb hab h1 h2 => h a b (posL_lt a ha) (posL_lt b hb) hab (by simpa using h1))
/-- Which trees are right. -/
theorem tree_iff (B : List Int) (N : Nat) (top : Int) (hz : top ≠ 0) : (∃ s, treeB B N top = some s) ↔ TreeOk B N top := by
  constructor
  · rintro ⟨s, hs⟩
    obtain ⟨h1, h2, h3, h4, -⟩ := (treeB_iff B N top hz s).1 hs
    have h5 := (ents_lt4 hz).1 h1
    have hm := dfs_map hz h5
    refine ⟨h5, fun a ha hv => ?_, ?_⟩
    · have : valT B top a ∈ (dfsB B top).map Prod.fst := by
        rw [hm, List.mem_filter]
        exact ⟨List.mem_map.2 ⟨a, posL_mem a ha, rfl⟩, by simpa using hv⟩
      rw [List.mem_map] at this
      obtain ⟨x, hx, e⟩ := this
      rw [← e]
      exact h3 x hx
    · rw [hm] at h4
      exact (filt_pair B top).1 h4
  · rintro ⟨h5, h3, h4⟩
    have hm := dfs_map hz h5
    refine ⟨dfsB B top, (treeB_iff B N top hz _).2 ⟨(ents_lt4 hz).2 h5, rfl, fun x hx => ?_, ?_, fun x hx h => by cases h⟩⟩
    · have : x.1 ∈ (dfsB B top).map Prod.fst := List.mem_map.2 ⟨x, hx, rfl⟩
      rw [hm, List.mem_filter] at this
      obtain ⟨h6, h7⟩ := this
      rw [List.mem_map] at h6
      obtain ⟨a, ha, e⟩ := h6
      rw [← e] at h7 ⊢
      exact h3 a (posL_lt a ha) (by simpa using h7)
    · rw [hm]
      exact (filt_pair B top).2 h4
/-- The sectors that are told. -/
theorem tree_mem {B : List Int} {N : Nat} {top : Int} {s : List (Int × Int)} (hz : top ≠ 0) (hs : treeB B N top = some s) (n : Int) : n ∈ s.map Prod.fst ↔ ∃ a, a < 133 ∧ valT B top a = n ∧ n ≠ 0 := by
  obtain ⟨h1, rfl, -⟩ := (treeB_iff B N top hz s).1 hs
  rw [dfs_map hz ((ents_lt4 hz).1 h1), List.mem_filter, List.mem_map]
  constructor
  · rintro ⟨⟨a, ha, e⟩, h⟩
    exact ⟨a, posL_lt a ha, e, by simpa using h⟩
  · rintro ⟨a, ha, e, h⟩
    exact ⟨⟨a, posL_mem a ha, e⟩, by simpa using h⟩
end Go.Proofs.YtpcikbloflpahaaDoor
