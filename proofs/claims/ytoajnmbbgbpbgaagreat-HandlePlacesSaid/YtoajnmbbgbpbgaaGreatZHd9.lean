/-
  Chapter 13: two handles of one file, plainly.
-/
import Derived.Test.YtoajnmbbgbpbgaaGreatZHd8
import Derived.Test.YtoajnmbbgbpbgaaGreatZE
namespace Go.Proofs.YtoajnmbbgbpbgaaGreat
set_option linter.unusedVariables false
set_option linter.unusedSimpArgs false
open Go.RowKit Go.Shelf Go.Maps

/-- File n, of bytes z, alone; handle 1 stands at its end, handle 2 at p. -/
structure HS (s : ByteArray) (n : Nat) (z : List Int) (p : Nat) (B : List Int) : Prop where
  one : One s n z B
  lt : n < 8
  c1 : getF B 64 = (n : Int) + 1
  a1 : getF B 72 = z.length
  c2 : getF B 80 = (n : Int) + 1
  a2 : getF B 88 = p
  le : p ≤ z.length
  zl : z.length ≤ 1472
theorem look_one {s : ByteArray} {n : Nat} {z B : List Int} (h : One s n z B) (hn : n < 8) (k : Int) (hk : 1 ≤ k ∧ k ≤ 4) {p : Nat} (hc : getF B (cellH k) = (n : Int) + 1) (ha : getF B (cellH k + 8) = p) (hp : p ≤ z.length) : lookF B k = some ((n : Int), (z.length : Int), (p : Int)) := by
  rw [lookF, if_neg (by omega), hc, if_neg (by omega), show (n : Int) + 1 - 1 = n by omega, h.size, if_neg (fun h => h rfl)]
  dsimp only
  rw [atF, ha, if_pos (by omega)]
theorem HS.look1 {s : ByteArray} {n : Nat} {z : List Int} {p : Nat} {B : List Int} (h : HS s n z p B) : lookF B 1 = some ((n : Int), (z.length : Int), (z.length : Int)) :=
  look_one h.one h.lt 1 (by omega) h.c1 h.a1 (Nat.le_refl _)
theorem HS.look2 {s : ByteArray} {n : Nat} {z : List Int} {p : Nat} {B : List Int} (h : HS s n z p B) : lookF B 2 = some ((n : Int), (z.length : Int), (p : Int)) :=
  look_one h.one h.lt 2 (by omega) h.c2 h.a2 h.le
theorem setF_length (B : List Int) (a n : Int) : (setF B a n).length = B.length := by rw [setF]; exact layF_length B a (cellF n)
theorem HS.write {s : ByteArray} {n : Nat} {z : List Int} {p : Nat} {B : List Int} (h : HS s n z p B) (b : List Int) (hb : z.length + b.length ≤ 1472) : ∃ B', hwriteR B 1 b = (B', 0) ∧ HS s n (z ++ b) p B' := by
  obtain ⟨e0, ho⟩ := h.one.write b hb
  have hlow := write_low h.one.tab n z.length b
  have hr : hwriteR B 1 b = write1R B 1 n z.length b := by rw [hwriteR, h.look1]
  rw [hr, write1R, if_pos e0]
  generalize writeR B n z.length b = W at *
  obtain ⟨B1, x⟩ := W
  dsimp only at e0 ho hlow ⊢
  have h8 : B1.length = 8192 := ho.tab.1
  have e72 : (cellH 1 + 8 : Int) = 72 := rfl
  refine ⟨_, rfl, ?_⟩
  rw [e72]
  refine ⟨ho.up (by rw [setF_length]; exact h8) (setF_up h8 (by omega)), h.lt, ?_, ?_, ?_, ?_, by rw [List.length_append]; have := h.le; omega, by rw [List.length_append]; exact hb⟩
  · rw [getF_set_far h8 (by omega) (by omega) (by omega), getF_low hlow (by omega) (by omega), h.c1]
  · rw [get_set _ h8 _ _ (by omega) (by omega) (by omega), List.length_append]; omega
  · rw [getF_set_far h8 (by omega) (by omega) (by omega), getF_low hlow (by omega) (by omega), h.c2]
  · rw [getF_set_far h8 (by omega) (by omega) (by omega), getF_low hlow (by omega) (by omega), h.a2]
theorem HS.read {s : ByteArray} {n : Nat} {z : List Int} {p : Nat} {B : List Int} (h : HS s n z p B) (m : Int) (hm : 0 ≤ m) : ∃ B', hreadR B 2 m = (B', (z.drop p).take m.toNat, 0) ∧ HS s n z (p + ((z.drop p).take m.toNat).length) B' := by
  have hrd := h.one.read p h.le m hm
  have hr : hreadR B 2 m = read1R B 2 n p m := by rw [hreadR, h.look2]
  rw [hr, read1R, hrd, if_pos rfl]
  have h8 : B.length = 8192 := h.one.tab.1
  have e88 : (cellH 2 + 8 : Int) = 88 := rfl
  have hle : p + ((z.drop p).take m.toNat).length ≤ z.length := by rw [List.length_take, List.length_drop]; have := h.le; omega
  generalize (z.drop p).take m.toNat = t at *
  refine ⟨_, rfl, ?_⟩
  dsimp only at hle ⊢
  rw [e88]
  have hz := h.zl
  refine ⟨h.one.up (by rw [setF_length]; exact h8) (setF_up h8 (by omega)), h.lt, ?_, ?_, ?_, ?_, hle, h.zl⟩
  · rw [getF_set_far h8 (by omega) (by omega) (by omega), h.c1]
  · rw [getF_set_far h8 (by omega) (by omega) (by omega), h.a1]
  · rw [getF_set_far h8 (by omega) (by omega) (by omega), h.c2]
  · rw [get_set _ h8 _ _ (by omega) (by omega) (by omega)]; omega
theorem HS.size2 {s : ByteArray} {n : Nat} {z : List Int} {p : Nat} {B : List Int} (h : HS s n z p B) : hsizeR B 2 = ((z.length : Int), 0) := by rw [hsizeR, h.look2]
theorem HS.place2 {s : ByteArray} {n : Nat} {z : List Int} {p : Nat} {B : List Int} (h : HS s n z p B) : hplaceR B 2 = ((p : Int), 0) := by rw [hplaceR, h.look2]
theorem findR_tab {B : List Int} {L : List Nd} {u : Nat} (ht : tableF B = some (L, u)) (s : ByteArray) : findR B s = if nameF s = false then (0, 121) else if findI L s = -1 then (0, 123) else (findI L s, 0) := by
  unfold findR; generalize tableF B = t at *; subst ht; rfl
set_option maxRecDepth 1000000 in
theorem create_low {B : List Int} (hB : B.length = 8192) {L : List Nd} {u : Nat} (ht : tableF B = some (L, u)) (s : ByteArray) : LowEq B (createR B s).1 := by
  rw [createR_some ht]
  split
  · exact LowEq.refl _
  · split
    · exact LowEq.refl _
    · split
      · exact LowEq.refl _
      · dsimp only; exact layT_low hB _ _ _
/-- The start: a fresh region, a file made (handle 1), opened anew (handle 2). -/
theorem hs_start {F : List Int} (hF : F.length = 8192) (h64 : getF F 64 = 0) (h80 : getF F 80 = 0) {s : ByteArray} (hs : nameF s = true) :
    ∃ B1 B2, createHR (formatF F) s = (B1, 1, 0) ∧ openHR B1 s = (B2, 2, 0) ∧ HS s 0 [] 0 B2 := by
  have hT := (tableF_iff _ _ _).2 (format_tab F hF)
  have hBl : (formatF F).length = 8192 := by rw [formatF, layF_length, layF_length, hF]
  have hlow : LowEq F (formatF F) := by
    rw [formatF]
    exact (layF_low hF (by omega)).trans (layF_low (by rw [layF_length, hF]) (by omega))
  obtain ⟨B1, hc, hrel⟩ := create_fresh hF hs
  have hcl : LowEq (formatF F) B1 := by
    have := create_low hBl hT s
    rw [hc] at this; exact this
  have h1 : lookF (formatF F) 1 = none := by
    rw [lookF, if_neg (by omega), show cellH 1 = 64 from rfl, getF_low hlow (by omega) (by omega), h64, if_pos (by omega)]
  have hf1 : freeF (formatF F) = 1 := by rw [freeF, if_pos h1]
  have hck : checkE (formatF F) = 0 := checkE_some hT
  have hfd : findR (formatF F) s = (0, 123) := by
    unfold findR; generalize tableF (formatF F) = t at *; subst hT
    dsimp only
    rw [if_neg (by simp [hs]), if_pos (findI_rep s (nameF_ne hs))]
  have hone : One s 0 [] B1 := ⟨_, _, hrel, by simp, by simp, by simp [entry, contF], nameF_ne hs⟩
  have hb1 := hone.tab.1
  have hcr : createHR (formatF F) s = (beginB B1 1 0, 1, 0) := by
    have hn : createHN (formatF F) s = (B1, 0, 0) := by rw [createHN, hfd, if_neg (by decide), hc]
    rw [createHR, hck, if_neg (by decide), if_neg (by simp [hs]), hf1, if_neg (by decide), hn, if_neg (fun h => h rfl)]
  have hb8 : (setF B1 64 1).length = 8192 := by rw [setF_length]; exact hb1
  have e1 : beginB B1 1 0 = setF (setF B1 64 1) 72 0 := rfl
  obtain ⟨B2, hB2⟩ : ∃ B2, setF (setF B1 64 1) 72 0 = B2 := ⟨_, rfl⟩
  have h2 : B2.length = 8192 := by rw [← hB2, setF_length]; exact hb8
  have ho2 : One s 0 [] B2 := by rw [← hB2]; exact (hone.up hb8 (setF_up hb1 (by omega))).up (by rw [setF_length]; exact hb8) (setF_up hb8 (by omega))
  have g64 : getF B2 64 = 1 := by rw [← hB2, getF_set_far hb8 (by omega) (by omega) (by omega), get_set _ hb1 _ _ (by omega) (by omega) (by omega)]
  have g72 : getF B2 72 = 0 := by rw [← hB2, get_set _ hb8 _ _ (by omega) (by omega) (by omega)]
  have g80 : getF B2 80 = 0 := by
    rw [← hB2, getF_set_far hb8 (by omega) (by omega) (by omega), getF_set_far hb1 (by omega) (by omega) (by omega), getF_low hcl (by omega) (by omega), getF_low hlow (by omega) (by omega), h80]
  rw [e1, hB2] at hcr
  have l1 : lookF B2 1 = some (((0 : Nat) : Int), ((([] : List Int).length : Nat) : Int), ((0 : Nat) : Int)) := look_one ho2 (by omega) 1 (by omega) (by rw [show cellH 1 = 64 from rfl, g64]; rfl) (by rw [show cellH 1 + 8 = 72 from rfl, g72]; rfl) (Nat.le_refl _)
  have l2 : lookF B2 2 = none := by rw [lookF, if_neg (by omega), show cellH 2 = 80 from rfl, g80, if_pos (by omega)]
  have hf2 : freeF B2 = 2 := by rw [freeF, if_neg (by rw [l1]; simp), if_pos l2]
  have hfd2 : findR B2 s = (0, 0) := by
    obtain ⟨L, u, hr, hn, q1, q2, q3⟩ := ho2
    rw [findR_tab ((tableF_iff _ _ _).2 hr.2.1), if_neg (by simp [hs])]
    have : findI L s = ((0 : Nat) : Int) := findI_at hn q1 (fun k hk h => absurd h (Nat.not_lt_zero k))
    rw [this, if_neg (by decide)]; rfl
  have hop : openHR B2 s = (beginB B2 2 0, 2, 0) := by rw [openHR, hfd2, if_neg (fun h => h rfl), hf2, if_neg (by decide)]
  have e2 : beginB B2 2 0 = setF (setF B2 80 1) 88 0 := rfl
  have hb9 : (setF B2 80 1).length = 8192 := by rw [setF_length]; exact h2
  rw [e2] at hop
  refine ⟨_, _, hcr, hop, ?_⟩
  refine ⟨(ho2.up hb9 (setF_up h2 (by omega))).up (by rw [setF_length]; exact hb9) (setF_up hb9 (by omega)), by omega, ?_, ?_, ?_, ?_, Nat.le_refl _, by simp⟩
  · rw [getF_set_far hb9 (by omega) (by omega) (by omega), getF_set_far h2 (by omega) (by omega) (by omega), g64]; rfl
  · rw [getF_set_far hb9 (by omega) (by omega) (by omega), getF_set_far h2 (by omega) (by omega) (by omega), g72]; rfl
  · rw [getF_set_far hb9 (by omega) (by omega) (by omega), get_set _ h2 _ _ (by omega) (by omega) (by omega)]; rfl
  · rw [get_set _ hb9 _ _ (by omega) (by omega) (by omega)]; rfl
end Go.Proofs.YtoajnmbbgbpbgaaGreat
