/-
  What has grown and is shrunk again is what it was: plainly; then the law's walk.
-/
import Derived.Test.YtbjffempiaohpaaExt8
namespace Go.Proofs.Ytbjffempiaohpaa
set_option linter.unusedVariables false
set_option linter.unusedSimpArgs false
open Go.RowKit Go.Shelf

def endOf (e : Int) (l : List (Int × Int)) : Int := match l.getLast? with | none => e | some x => x.1 + x.2
theorem endOf_cons (e : Int) (x : Int × Int) (l : List (Int × Int)) : endOf (x.1 + x.2) l = endOf e (x :: l) := by
  cases l with
  | nil => rfl
  | cons y l => simp [endOf, List.getLast?_cons]
theorem blkSeq_append (l m : List (Int × Int)) (e : Int) (h : ∀ b ∈ blkSeq e l, 0 ≤ b) : blkSeq e (l ++ m) = blkSeq e l ++ blkSeq (endOf e l) m := by
  induction l generalizing e with
  | nil => rfl
  | cons x l ih =>
    rw [List.cons_append, blkSeq, blkSeq] at *
    by_cases hb : badX e x = true
    · rw [if_pos hb] at h; have := h (-1) (by simp); omega
    · rw [if_neg hb] at h ⊢
      rw [if_neg hb, ih _ (fun b hb => h b (List.mem_append.2 (.inr hb))), endOf_cons e, List.append_assoc]
theorem blkSeq_pre (l m : List (Int × Int)) (e : Int) (c : Int) (h : c ∈ blkSeq e l) : c ∈ blkSeq e (l ++ m) := by
  induction l generalizing e with
  | nil => cases h
  | cons x l ih =>
    rw [List.cons_append]
    rw [blkSeq] at h ⊢
    split at h
    · rename_i hb; rw [if_pos hb]; exact h
    · rename_i hb
      rw [if_neg hb]
      rcases List.mem_append.1 h with h | h
      · exact List.mem_append.2 (.inl h)
      · exact List.mem_append.2 (.inr (ih _ h))
theorem run_snoc (x1 x2 : Int) (h : 0 ≤ x2) : run (x1, x2 + 1) = run (x1, x2) ++ [x1 + x2] := by
  obtain ⟨k, rfl⟩ := Int.eq_ofNat_of_zero_le h
  have : ((k : Int) + 1).toNat = k + 1 := by omega
  simp only [run, this, Int.toNat_natCast, List.range_succ, List.map_append, List.map_cons, List.map_nil]
theorem blkSeq_joins (L : List Int) (h : ∀ b ∈ L, 9 ≤ b ∧ b < 32) : blkSeq (-1) (joinsL L) = L := by
  rcases List.eq_nil_or_concat L with rfl | ⟨L', b, e⟩
  · rfl
  · rw [List.concat_eq_append] at e
    have hb := h b (by simp [e])
    have ih := blkSeq_joins L' (fun c hc => h c (by simp [e, hc]))
    have hg : ∀ c ∈ blkSeq (-1) (joinsL L'), 0 ≤ c := fun c hc => by rw [ih] at hc; have := h c (by simp [e, hc]); omega
    rw [e, joinsL_snoc]
    generalize joinsL L' = l at *
    rcases List.eq_nil_or_concat l with rfl | ⟨l', ⟨x1, x2⟩, el⟩
    · simp only [joinF, List.getLast?_nil, blkSeq]
      rw [if_neg (by simp [badX]; omega)]
      rw [← ih]; simp [blkSeq, run]
    · rw [List.concat_eq_append] at el
      subst el
      by_cases hx : x1 + x2 = b
      · rw [joinF_hit _ _ _ _ hx]
        have hg' : ∀ c ∈ blkSeq (-1) l', 0 ≤ c := fun c hc => hg c (blkSeq_pre l' [(x1, x2)] (-1) c hc)
        rw [blkSeq_append _ _ _ hg'] at ih hg ⊢
        rw [blkSeq] at ih hg ⊢
        by_cases hbd : badX (endOf (-1) l') (x1, x2) = true
        · rw [if_pos hbd] at hg; have := hg (-1) (by simp); omega
        · rw [if_neg hbd] at ih hg
          have hbd' : badX (endOf (-1) l') (x1, x2) = false := by simpa using hbd
          simp only [badX, Bool.or_eq_false_iff, decide_eq_false_iff_not] at hbd'
          rw [if_neg (by simp [badX]; omega), run_snoc _ _ (by omega), ← ih, hx]
          simp [blkSeq]
      · rw [joinF_miss _ _ _ _ hx, blkSeq_append _ _ _ hg, ih]
        congr 1
        have : endOf (-1) (l' ++ [(x1, x2)]) = x1 + x2 := by simp [endOf]
        rw [this, blkSeq, if_neg (by simp [badX]; omega)]
        simp [blkSeq, run]
termination_by L.length
decreasing_by subst e; simp
theorem moreF_all (u : Nat) (n : Int) (d : Nat) (acc : List Int) (hd : d ≤ 23) (ha : ∀ b ∈ acc, 9 ≤ b ∧ b < 32 - (d : Int) ∧ u.testBit b.toNat = false) (hnd : acc.Nodup) (hl : (acc.length : Int) ≤ n) :
    (∀ b ∈ moreF u n d acc, 9 ≤ b ∧ b < 32 ∧ u.testBit b.toNat = false) ∧ (moreF u n d acc).Nodup ∧ ((moreF u n d acc).length : Int) ≤ n := by
  induction d generalizing acc with
  | zero => exact ⟨fun b hb => by have := ha b hb; exact ⟨this.1, by omega, this.2.2⟩, hnd, hl⟩
  | succ d ih =>
    rw [moreF]
    split
    · split
      · exact ih acc (by omega) (fun b hb => by have := ha b hb; exact ⟨this.1, by omega, this.2.2⟩) hnd hl
      · rename_i ht
        refine ih _ (by omega) (fun b hb => ?_) ?_ (by simp; omega)
        · rcases List.mem_append.1 hb with hb | hb
          · have := ha b hb; exact ⟨this.1, by omega, this.2.2⟩
          · simp at hb; subst hb
            have h1 : ((31 - d : Nat) : Int).toNat = 31 - d := by omega
            exact ⟨by omega, by omega, by rw [h1]; simpa using ht⟩
        · rw [List.nodup_append]
          refine ⟨hnd, by simp, fun a hba b hb e => ?_⟩
          simp at hb
          have := ha a hba; omega
    · exact ⟨fun b hb => by have := ha b hb; exact ⟨this.1, by omega, this.2.2⟩, hnd, hl⟩
theorem joinsL_length (L : List Int) (l : List (Int × Int)) : (L.foldl joinF l).length ≤ l.length + L.length := by
  induction L generalizing l with
  | nil => simp
  | cons b L ih => have := ih (joinF l b); have h2 := joinF_length l b; simp only [List.foldl_cons, List.length_cons]; omega
theorem dif_or (u : Nat) (m : List Int) (hu : u < 2 ^ 32) (h : ∀ b ∈ m, 9 ≤ b ∧ b < 32 ∧ u.testBit b.toNat = false) : dropL (u ||| maskN m) m = u := by
  have hm := (maskL_nat m (fun b hb => (h b hb).2.1)).2
  rw [dropL_mask _ _ (Nat.or_lt_two_pow hu hm) (fun b hb => by have := h b hb; omega)]
  apply Nat.eq_of_testBit_eq
  intro i
  rw [dif_testBit, Nat.testBit_or, maskN_testBit m (fun b hb => by have := h b hb; omega)]
  by_cases hi : i < 32
  · by_cases hin : (i : Int) ∈ m
    · have := (h _ hin).2.2; simp only [Int.toNat_natCast] at this; simp [hin, this]
    · simp [hi, hin]
  · rw [Nat.testBit_lt_two_pow (Nat.lt_of_lt_of_le hu (Nat.pow_le_pow_right (by decide) (by omega)))]; simp [hi]

def backOk (xs : List (Int × Int)) (u : Nat) (n : Int) : Int ⊕ (List (Int × Int) × Nat) → Prop
  | .inl er => er = 50 ∧ 0 < n
  | .inr (out, u') => u' < 2 ^ 32 ∧ out.length ≤ 100 ∧ shrinkT out u' (listF xs).length = .inr (xs, u) ∧ ((listF out).length : Int) = (listF xs).length + n

theorem back_pure (xs : List (Int × Int)) (used : Nat) (n : Int) (hu : used < 2 ^ 32) (hn : 0 ≤ n) (h : okB (blkSeq (-1) xs) = true) :
    backOk xs (used ||| maskN (listF xs)) n (growT xs (used ||| maskN (listF xs)) n) := by
  have hr := listF_range xs
  have hlf : listF xs = blkSeq (-1) xs := by rw [listF, if_pos h]
  have hok := of_decide_eq_true h
  have hul : used ||| maskN (listF xs) < 2 ^ 32 := Nat.or_lt_two_pow hu (maskL_nat _ (fun b hb => (hr b hb).2)).2
  have hin : ∀ b ∈ listF xs, (used ||| maskN (listF xs)).testBit b.toNat = true := fun b hb => by
    rw [Nat.testBit_or, maskN_testBit _ (fun b hb => (hr b hb).1)]
    have := hr b hb
    rw [Int.toNat_of_nonneg this.1]; simp [hb]
  have hr9 : ∀ b ∈ listF xs, 9 ≤ b ∧ b < 32 := fun b hb => by
    have h1 := hr b hb
    rw [hlf] at hb
    rcases blkSeq_range xs (-1) b hb with h2 | h2 <;> omega
  have hjl := joinsL_list xs h
  have hll := listF_length xs
  have hndl : (listF xs).Nodup := by rw [hlf]; exact hok.2
  generalize used ||| maskN (listF xs) = u at *
  rw [growT, if_pos ⟨h, hn⟩, grow_same xs u n hn h, growR]
  obtain ⟨m1, m2, m3⟩ := moreF_all u n 23 [] (by omega) (by simp) (by simp) (by simpa using hn)
  have m4 := moreF_length u n 23 []
  try dsimp only
  generalize moreF u n 23 [] = more at *
  simp only [List.length_nil] at m4
  by_cases hc : (more.length : Int) < n
  · rw [if_pos hc]; exact ⟨rfl, by omega⟩
  · rw [if_neg hc]
    have hL : ∀ b ∈ listF xs ++ more, 9 ≤ b ∧ b < 32 := fun b hb => by
      rcases List.mem_append.1 hb with hb | hb
      · exact hr9 b hb
      · have := m1 b hb; omega
    have hB := blkSeq_joins _ hL
    have hnd : (listF xs ++ more).Nodup := by
      rw [List.nodup_append]
      refine ⟨hndl, m2, fun a ha b hb e => ?_⟩
      subst e
      have h1 := hin a ha; have h2 := (m1 a hb).2.2
      rw [h1] at h2; cases h2
    have hokL : okB (blkSeq (-1) (joinsL (listF xs ++ more))) = true := by
      rw [hB]; exact decide_eq_true ⟨fun b hb => by have := hL b hb; omega, hnd⟩
    have hlo : listF (joinsL (listF xs ++ more)) = listF xs ++ more := by rw [listF, if_pos hokL, hB]
    refine ⟨Nat.or_lt_two_pow hul (maskL_nat _ (fun b hb => (m1 b hb).2.1)).2, ?_, ?_, ?_⟩
    · have := joinsL_length (listF xs ++ more) []
      rw [joinsL]; simp only [List.length_append, List.length_nil] at this ⊢; omega
    · rw [shrinkT, shrinkF, if_pos ⟨hokL, by omega, by rw [hlo, List.length_append]; omega⟩, hlo]
      simp only [Int.toNat_natCast, List.take_left, List.drop_left, hjl]
      rw [dif_or u more hul m1]
    · rw [hlo, List.length_append]; omega

theorem maskL_or (used : Nat) (xs : List (Int × Int)) (hu : used < 2 ^ 32) : bits .or .u32 (used : Int) (maskL (listF xs)) = ((used ||| maskN (listF xs) : Nat) : Int) := by
  obtain ⟨h1, h2⟩ := maskL_nat (listF xs) (fun b hb => (listF_range xs b hb).2)
  rw [h1]; exact or_u32 _ _ hu h2

end Go.Proofs.Ytbjffempiaohpaa
