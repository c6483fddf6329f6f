/-
  Chapter 7: what a plan is.
-/
import Derived.Test.YtpcikbloflpahaaDoorZGp0
namespace Go.Proofs.YtpcikbloflpahaaDoor
set_option linter.unusedVariables false
set_option linter.unusedSimpArgs false
open Go.RowKit Go.Shelf Go.Maps

/-- A node as shadow reads it: none's is empty. -/
def rdN (B : List Int) (n : Int) : List Int := if n = 0 then nd0 else ndB B n.toNat
theorem rdN_len (B : List Int) (n : Int) : (rdN B n).length = 32 := by
  unfold rdN; split
  · exact nd0_len
  · exact ndB_len _ _
def ndV (l : List Int) : Value := .agg (nds l).toArray
abbrev LfF := Int → Option (List Int)
/-- A leaf as planned so far. -/
def leafG7 (F : LfF) (B tn : List Int) (i : Int) : List Int := (F i).getD (rdN B (tn.getD i.toNat 0))
/-- One page's change. -/
def stepL (B tn : List Int) (F : LfF) (c : Chg) : LfF := fun i => if i = c.1 / 32 then some ((leafG7 F B tn (c.1 / 32)).set (c.1 % 32).toNat (if blankB c.2 then 0 else -1)) else F i
def plnF (B tn : List Int) (cs : List Chg) : LfF := cs.foldl (stepL B tn) (fun _ => none)
theorem plnF_snoc (B tn : List Int) (cs : List Chg) (c : Chg) : plnF B tn (cs ++ [c]) = stepL B tn (plnF B tn cs) c := by simp [plnF]
/-- Pages that aren't noughts. -/
def fullC (cs : List Chg) : List Chg := cs.filter fun c => !blankB c.2
theorem fullC_snoc (cs : List Chg) (c : Chg) : fullC (cs ++ [c]) = fullC cs ++ (if blankB c.2 then [] else [c]) := by
  unfold fullC
  rw [List.filter_append]
  congr 1
  by_cases h : blankB c.2 = true
  · simp [h]
  · simp [h]
def okF (F : LfF) : Prop := ∀ i l, F i = some l → 0 ≤ i ∧ i < 4 ∧ l.length = 32
def one4 (F : LfF) (i : Int) : Nat := if (F i).isSome then 1 else 0
def cnt4 (F : LfF) : Nat := one4 F 0 + one4 F 1 + one4 F 2 + one4 F 3
def mpF (F : LfF) : Int → Option Value := fun i => (F i).map ndV
theorem leafG7_len {F : LfF} (h : okF F) (B tn : List Int) (i : Int) : (leafG7 F B tn i).length = 32 := by
  unfold leafG7
  cases hq : F i with
  | none => exact rdN_len _ _
  | some l => exact (h i l hq).2.2
theorem stepL_ok {F : LfF} (h : okF F) (B tn : List Int) (c : Chg) (hc : 0 ≤ c.1 ∧ c.1 < 128) : okF (stepL B tn F c) := by
  intro i l hl
  unfold stepL at hl
  split at hl
  · next e => injection hl with hl; subst hl; exact ⟨by omega, by omega, by rw [List.length_set]; exact leafG7_len h _ _ _⟩
  · exact h i l hl
theorem plnF_ok (B tn : List Int) (cs : List Chg) (hc : ∀ c ∈ cs, 0 ≤ c.1 ∧ c.1 < 128) : okF (plnF B tn cs) := by
  suffices ∀ n ≤ cs.length, okF (plnF B tn (cs.take n)) by
    have := this cs.length (Nat.le_refl _); rwa [List.take_length] at this
  intro n
  induction n with
  | zero => intro _ i l h; simp [plnF] at h
  | succ n ih =>
    intro hn
    rw [List.take_succ_eq_append_getElem (by omega), plnF_snoc]
    exact stepL_ok (ih (by omega)) _ _ _ (hc _ (List.getElem_mem _))
theorem mpF_step (B tn : List Int) (F : LfF) (c : Chg) : upd (mpF F) (c.1 / 32) (some (ndV ((leafG7 F B tn (c.1 / 32)).set (c.1 % 32).toNat (if blankB c.2 then 0 else -1)))) = mpF (stepL B tn F c) := by
  funext i
  unfold upd mpF stepL
  split <;> rfl
theorem cnt4_step (B tn : List Int) (F : LfF) (c : Chg) (hc : 0 ≤ c.1 ∧ c.1 < 128) : cnt4 (stepL B tn F c) = if (F (c.1 / 32)).isSome then cnt4 F else cnt4 F + 1 := by
  have h : ∀ i, one4 (stepL B tn F c) i = if i = c.1 / 32 then 1 else one4 F i := fun i => by
    unfold one4 stepL
    by_cases e : i = c.1 / 32
    · rw [if_pos e, if_pos e]; rfl
    · rw [if_neg e, if_neg e]
  have ho : one4 F (c.1 / 32) = if (F (c.1 / 32)).isSome then 1 else 0 := rfl
  unfold cnt4
  rw [h, h, h, h]
  have hd : c.1 / 32 = 0 ∨ c.1 / 32 = 1 ∨ c.1 / 32 = 2 ∨ c.1 / 32 = 3 := by omega
  rcases hd with e | e | e | e
  all_goals (
    rw [e] at ho ⊢
    split at ho
    · next hq => simp [hq]; omega
    · next hq => simp [hq]; omega)
theorem cnt4_le (F : LfF) : cnt4 F ≤ 4 := by
  have h : ∀ i, one4 F i ≤ 1 := fun i => by unfold one4; split <;> omega
  have := h 0; have := h 1; have := h 2; have := h 3
  unfold cnt4; omega
/-- What remains of the leaves, what the top is then. -/
def keepF (F : LfF) : LfF := fun i => (F i).bind fun l => if l = nd0 then none else some l
def topF (tn : List Int) (F : LfF) : List Int := (List.range 32).map fun (k : Nat) => match F (k : Int) with | none => tn.getD k 0 | some l => if l = nd0 then 0 else -1
theorem topF_len (tn : List Int) (F : LfF) : (topF tn F).length = 32 := by simp [topF]
/-- Behind some of the second loop's rounds: which leaves were seen. -/
def keepV (F : LfF) (left : Int → Bool) : LfF := fun i => if left i then F i else keepF F i
def topV (tn : List Int) (F : LfF) (left : Int → Bool) : List Int := (List.range 32).map fun (k : Nat) => if left (k : Int) then tn.getD k 0 else match F (k : Int) with | none => tn.getD k 0 | some l => if l = nd0 then 0 else -1
theorem topV_len (tn : List Int) (F : LfF) (left : Int → Bool) : (topV tn F left).length = 32 := by simp [topV]
theorem topV_start (tn : List Int) (F : LfF) (h : tn.length = 32) : topV tn F (fun i => (F i).isSome) = tn := by
  apply List.ext_getElem
  · rw [topV_len, h]
  · intro k h1 h2
    simp only [topV, List.getElem_map, List.getElem_range]
    have e : tn[k]?.getD 0 = tn[k] := by rw [List.getElem?_eq_getElem h2]; rfl
    cases hq : F (k : Int) with
    | none => simpa [hq] using e
    | some l => simpa [hq] using e
theorem keepV_start (F : LfF) : keepV F (fun i => (F i).isSome) = F := by
  funext i
  unfold keepV keepF
  cases hq : F i <;> simp [hq]
theorem topV_end (tn : List Int) (F : LfF) (left : Int → Bool) (h : ∀ i, left i = false) : topV tn F left = topF tn F := by
  unfold topV topF
  apply List.map_congr_left
  intro k _
  rw [h]; rfl
theorem keepV_end (F : LfF) (left : Int → Bool) (h : ∀ i, left i = false) : keepV F left = keepF F := by
  funext i; unfold keepV; rw [h]; rfl
theorem topV_step (tn : List Int) (F : LfF) (left : Int → Bool) (i : Nat) (hi : i < 32) (l : List Int) (hl : F i = some l) (hL : left i = true) :
    (topV tn F left).set i (if l = nd0 then 0 else -1) = topV tn F (fun j => left j && !decide (j = (i : Int))) := by
  apply List.ext_getElem
  · simp [topV]
  · intro k h1 h2
    rw [List.getElem_set]
    simp only [topV, List.getElem_map, List.getElem_range]
    by_cases e : i = k
    · subst e
      rw [if_pos rfl, hL, hl]
      simp
    · rw [if_neg e]
      have : decide ((k : Int) = (i : Int)) = false := decide_eq_false (by omega)
      rw [this]
      simp
theorem keepV_del {F : LfF} {left : Int → Bool} {i : Int} (hl : F i = some nd0) : upd (mpF (keepV F left)) i none = mpF (keepV F (fun j => left j && !decide (j = i))) := by
  funext j
  unfold upd mpF keepV
  by_cases e : j = i
  · subst e
    rw [if_pos rfl]
    simp [keepF, hl]
  · rw [if_neg e]
    have : decide (j = i) = false := decide_eq_false e
    simp only [this, Bool.not_false, Bool.and_true]
theorem keepV_stay {F : LfF} {left : Int → Bool} {i : Int} {l : List Int} (hl : F i = some l) (hn : l ≠ nd0) : keepV F left = keepV F (fun j => left j && !decide (j = i)) := by
  funext j
  unfold keepV
  by_cases e : j = i
  · subst e
    simp [keepF, hl, hn]
  · have : decide (j = i) = false := decide_eq_false e
    simp only [this, Bool.not_false, Bool.and_true]
end Go.Proofs.YtpcikbloflpahaaDoor
