/-
  Extents, plainly: what lists of extents come to, without Go and memory.
-/
import Derived.WalkKit
import Derived.Laws.BitsLemmas
namespace Go.Proofs.Ytbjffempiaohpaa
set_option linter.unusedVariables false
set_option linter.unusedSimpArgs false

/-! ### Sets of blocks as a number's bits -/
def setB (s b : Int) : Int := bits .or .u32 s (2 ^ b.toNat % 4294967296)
def maskL (l : List Int) : Int := l.foldl setB 0
def maskN (l : List Int) : Nat := l.foldl (fun s b => s ||| 2 ^ b.toNat) 0

theorem wraps_u32 (n : Int) (h₀ : 0 ≤ n) (h₁ : n < 2 ^ 32) : IntKind.u32.wrap n = n := by rw [IntKind.wrap_u32]; omega
theorem or_u32 (a b : Nat) (ha : a < 2 ^ 32) (hb : b < 2 ^ 32) : bits .or .u32 a b = ((a ||| b : Nat) : Int) :=
  (bits_nat .u32 32 (by decide) wraps_u32 a b ha hb).2
theorem and_u32 (a b : Nat) (ha : a < 2 ^ 32) (hb : b < 2 ^ 32) : bits .and .u32 a b = ((a &&& b : Nat) : Int) :=
  (bits_nat .u32 32 (by decide) wraps_u32 a b ha hb).1
theorem pow_small (b : Int) (hb : b < 32) : (2 : Int) ^ b.toNat % 4294967296 = ((2 ^ b.toNat : Nat) : Int) := by
  have h1 : b.toNat ≤ 31 := by omega
  have h2 : (2 : Nat) ^ b.toNat ≤ 2 ^ 31 := Nat.pow_le_pow_right (by decide) h1
  rw [show (2 : Int) ^ b.toNat = ((2 ^ b.toNat : Nat) : Int) by simp]
  generalize (2 : Nat) ^ b.toNat = p at h2 ⊢
  omega
theorem setB_nat (s : Nat) (b : Int) (hs : s < 2 ^ 32) (hb : b < 32) : setB s b = ((s ||| 2 ^ b.toNat : Nat) : Int) := by
  rw [setB, pow_small b hb]
  exact or_u32 _ _ hs (Nat.pow_lt_pow_right (by decide) (by omega))
theorem or_lt (s : Nat) (b : Int) (hs : s < 2 ^ 32) (hb : b < 32) : s ||| 2 ^ b.toNat < 2 ^ 32 := Nat.or_lt_two_pow hs (Nat.pow_lt_pow_right (by decide) (by omega))
theorem mask_fold (l : List Int) (s : Nat) (hs : s < 2 ^ 32) (h : ∀ b ∈ l, b < 32) :
    l.foldl setB (s : Int) = ((l.foldl (fun s b => s ||| 2 ^ b.toNat) s : Nat) : Int) ∧ l.foldl (fun s b => s ||| 2 ^ b.toNat) s < 2 ^ 32 := by
  induction l generalizing s with
  | nil => exact ⟨rfl, hs⟩
  | cons b l ih =>
    have hb := h b (by simp)
    simp only [List.foldl_cons]
    rw [setB_nat s b hs hb]
    exact ih _ (or_lt s b hs hb) (fun c hc => h c (by simp [hc]))
theorem maskL_nat (l : List Int) (h : ∀ b ∈ l, b < 32) : maskL l = (maskN l : Int) ∧ maskN l < 2 ^ 32 := mask_fold l 0 (by decide) h
theorem fold_testBit (l : List Int) (s : Nat) (h : ∀ b ∈ l, 0 ≤ b) (i : Nat) :
    (l.foldl (fun s b => s ||| 2 ^ b.toNat) s).testBit i = (s.testBit i || decide ((i : Int) ∈ l)) := by
  induction l generalizing s with
  | nil => simp
  | cons b l ih =>
    rw [List.foldl_cons, ih _ (fun c hc => h c (by simp [hc])), Nat.testBit_or, Nat.testBit_two_pow]
    have hb := h b (by simp)
    by_cases e : (i : Int) = b
    · have : b.toNat = i := by omega
      simp [e, this]
    · have : ¬ b.toNat = i := by omega
      simp [e, this]
theorem maskN_testBit (l : List Int) (h : ∀ b ∈ l, 0 ≤ b) (i : Nat) : (maskN l).testBit i = decide ((i : Int) ∈ l) := by
  rw [maskN, fold_testBit l 0 h i]; simp
theorem shr_bit (s i : Nat) (hs : s < 2 ^ 32) (_hi : i < 32) : (bits .and .u32 ((s : Int) / 2 ^ i) 1 == 1) = s.testBit i := by
  rw [show (2 : Int) ^ i = ((2 ^ i : Nat) : Int) by simp, ← Int.natCast_ediv]
  have h1 : s / 2 ^ i < 2 ^ 32 := Nat.lt_of_le_of_lt (Nat.div_le_self _ _) hs
  have := and_u32 (s / 2 ^ i) 1 h1 (by decide)
  rw [show ((1 : Nat) : Int) = 1 by rfl] at this
  rw [this, Nat.and_one_is_mod, Nat.testBit_eq_decide_div_mod_eq]
  by_cases h : s / 2 ^ i % 2 = 1
  · simp [h]
  · have : s / 2 ^ i % 2 = 0 := by omega
    simp [this]
/-- 'seen >> b & 1 == 1'. -/
theorem mask_test (l : List Int) (h : ∀ b ∈ l, 0 ≤ b ∧ b < 32) (x : Int) (h0 : 0 ≤ x) (hx : x < 32) : (bits .and .u32 (maskL l / 2 ^ x.toNat) 1 == 1) = decide (x ∈ l) := by
  obtain ⟨h1, h2⟩ := maskL_nat l (fun b hb => (h b hb).2)
  rw [h1, shr_bit _ _ h2 (by omega), maskN_testBit l (fun b hb => (h b hb).1)]
  rw [Int.toNat_of_nonneg h0]
theorem maskL_snoc (l : List Int) (x : Int) : maskL (l ++ [x]) = setB (maskL l) x := by simp [maskL]

/-! ### What the program's iterator tells: the blocks, -1 where an extent can't be -/
def badX (e : Int) (x : Int × Int) : Bool := decide (x.1 < 9) || decide (x.1 > 32) || decide (x.2 < 1) || decide (x.2 > 32 - x.1) || decide (x.1 = e)
def run (x : Int × Int) : List Int := (List.range x.2.toNat).map (fun i : Nat => x.1 + (i : Int))
def blkSeq (e : Int) : List (Int × Int) → List Int
  | [] => []
  | x :: xs => if badX e x then [-1] else run x ++ blkSeq (x.1 + x.2) xs
theorem blkSeq_range (xs : List (Int × Int)) (e : Int) : ∀ b ∈ blkSeq e xs, b = -1 ∨ (9 ≤ b ∧ b < 32) := by
  induction xs generalizing e with
  | nil => simp [blkSeq]
  | cons x xs ih =>
    intro b hb
    rw [blkSeq] at hb
    split at hb
    · simp at hb; exact .inl hb
    · rename_i hbad
      rcases List.mem_append.1 hb with h | h
      · simp only [run, List.mem_map, List.mem_range] at h
        obtain ⟨i, hi, rfl⟩ := h
        simp only [badX, Bool.not_eq_true, Bool.or_eq_false_iff, decide_eq_false_iff_not] at hbad
        omega
      · exact ih _ b h
/-- Blocks that may be together: none below 0, none twice. -/
def okB (l : List Int) : Bool := decide ((∀ b ∈ l, 0 ≤ b) ∧ l.Nodup)
theorem okB_snoc (l : List Int) (x : Int) : okB (l ++ [x]) = (okB l && decide (0 ≤ x) && decide (x ∉ l)) := by
  rw [Bool.eq_iff_iff]
  simp only [okB, decide_eq_true_eq, Bool.and_eq_true, List.nodup_append, List.mem_append, List.mem_singleton]
  constructor
  · rintro ⟨h1, h2, _, h3⟩
    exact ⟨⟨⟨fun b hb => h1 b (.inl hb), h2⟩, h1 x (.inr rfl)⟩, fun hx => h3 x hx x rfl rfl⟩
  · rintro ⟨⟨⟨h1, h2⟩, h3⟩, h4⟩
    exact ⟨fun b hb => hb.elim (h1 b) (fun e => e ▸ h3), h2, by simp, fun a ha b hb e => h4 (by subst hb; exact e ▸ ha)⟩
theorem okB_prefix {l m : List Int} (h : l <+: m) (hm : okB m = true) : okB l = true := by
  obtain ⟨t, rfl⟩ := h
  simp only [okB, decide_eq_true_eq, List.nodup_append] at hm ⊢
  exact ⟨fun b hb => hm.1 b (by simp [hb]), hm.2.1⟩
theorem okB_length {l : List Int} (h : okB l = true) (hr : ∀ b ∈ l, b = -1 ∨ (9 ≤ b ∧ b < 32)) : l.length ≤ 33 := by
  have hd := of_decide_eq_true h
  have hsub : ∀ b ∈ l, b ∈ (List.range 33).map (fun i : Nat => (i : Int)) := fun b hb => by
    rw [List.mem_map]
    have h1 := hr b hb; have h2 := hd.1 b hb
    exact ⟨b.toNat, by rw [List.mem_range]; omega, by omega⟩
  have := hd.2.length_le_of_subset hsub
  simpa using this
/-- Check's answer, as a number. -/
def checkN (xs : List (Int × Int)) : Int := if okB (blkSeq (-1) xs) then 0 else 1
/-- The list's blocks; none of one that can't be. -/
def listF (xs : List (Int × Int)) : List Int := if okB (blkSeq (-1) xs) then blkSeq (-1) xs else []

theorem listF_range (xs : List (Int × Int)) : ∀ b ∈ listF xs, 0 ≤ b ∧ b < 32 := by
  intro b hb
  rw [listF] at hb
  split at hb
  · rename_i h
    have h1 := blkSeq_range xs (-1) b hb
    have h2 := (of_decide_eq_true h).1 b hb
    omega
  · simp at hb
theorem listF_length (xs : List (Int × Int)) : (listF xs).length ≤ 33 := by
  rw [listF]
  split
  · rename_i h; exact okB_length h (blkSeq_range xs (-1))
  · simp

/-! ### Growing and shrinking -/
/-- A block put behind a list of extents. -/
def joinF (l : List (Int × Int)) (b : Int) : List (Int × Int) :=
  match l.getLast? with
  | none => [(b, 1)]
  | some x => if x.1 + x.2 = b then l.dropLast ++ [(x.1, x.2 + 1)] else l ++ [(b, 1)]
/-- The program's loop: d blocks are still to be looked at. -/
def growL : Nat → List (Int × Int) → Nat → Int → Option (List (Int × Int) × Nat)
  | 0, out, used, n => if n ≤ 0 then some (out, used) else none
  | d + 1, out, used, n => if n ≤ 0 then some (out, used) else
      if used.testBit (31 - d) then growL d out used n else growL d (joinF out (31 - d : Nat)) (used ||| 2 ^ (31 - d)) (n - 1)
def growF (xs : List (Int × Int)) (used : Nat) (n : Int) : Option (List (Int × Int) × Nat) := growL 23 xs used n
/-- Extents that lie as they should: so joins don't leave the numbers. -/
def fine (l : List (Int × Int)) : Prop := ∀ x ∈ l, 0 ≤ x.1 ∧ 0 ≤ x.2 ∧ x.1 + x.2 ≤ 32
theorem joinF_fine (l : List (Int × Int)) (b : Int) (h : fine l) (hb : 0 ≤ b ∧ b < 32) : fine (joinF l b) := by
  rcases List.eq_nil_or_concat l with rfl | ⟨l', ⟨x1, x2⟩, rfl⟩
  · intro x hx; simp [joinF] at hx; subst hx; simp; omega
  · rw [List.concat_eq_append] at *
    have hx := h (x1, x2) (by simp)
    intro y hy
    simp only [joinF, List.getLast?_append, List.getLast?_singleton, Option.some_or, List.dropLast_concat] at hy
    split at hy
    · rename_i e
      rcases List.mem_append.1 hy with h1 | h1
      · exact h y (by simp [h1])
      · simp at h1; subst h1; simp at hx ⊢; omega
    · rcases List.mem_append.1 hy with h1 | h1
      · exact h y h1
      · simp at h1; subst h1; simp; omega
theorem joinF_length (l : List (Int × Int)) (b : Int) : (joinF l b).length ≤ l.length + 1 := by
  rcases List.eq_nil_or_concat l with rfl | ⟨l', ⟨x1, x2⟩, rfl⟩
  · simp [joinF]
  · rw [List.concat_eq_append]
    simp only [joinF, List.getLast?_append, List.getLast?_singleton, Option.some_or, List.dropLast_concat]
    split <;> simp
theorem badX_fine {e : Int} {x : Int × Int} (h : badX e x = false) : 0 ≤ x.1 ∧ 0 ≤ x.2 ∧ x.1 + x.2 ≤ 32 := by
  simp only [badX, Bool.or_eq_false_iff, decide_eq_false_iff_not] at h; omega
theorem fine_of_ok (xs : List (Int × Int)) (e : Int) (h : ∀ b ∈ blkSeq e xs, 0 ≤ b) : fine xs := by
  induction xs generalizing e with
  | nil => intro x hx; cases hx
  | cons x xs ih =>
    rw [blkSeq] at h
    split at h
    · have := h (-1) (by simp); omega
    · rename_i hb
      intro y hy
      rcases List.mem_cons.1 hy with rfl | hy
      · exact badX_fine (by simpa using hb)
      · exact ih (x.1 + x.2) (fun b hb => h b (List.mem_append.2 (.inr hb))) y hy

/-! ### Blocks taken out of a set -/
def dif (a b : Nat) : Nat := (BitVec.ofNat 32 a &&& ~~~ BitVec.ofNat 32 b).toNat
theorem dif_lt (a b : Nat) : dif a b < 2 ^ 32 := (BitVec.ofNat 32 a &&& ~~~ BitVec.ofNat 32 b).isLt
theorem dif_testBit (a b i : Nat) : (dif a b).testBit i = (decide (i < 32) && a.testBit i && !b.testBit i) := by
  rw [dif, BitVec.testBit_toNat, BitVec.getLsbD_and, BitVec.getLsbD_not, BitVec.getLsbD_ofNat, BitVec.getLsbD_ofNat]
  by_cases h : i < 32 <;> simp [h]
theorem andNot_u32 (a b : Nat) : bits .andNot .u32 a b = (dif a b : Int) := by
  have h := dif_lt a b
  simp only [bits]
  rw [show BitVec.ofInt IntKind.u32.bits (a : Int) = BitVec.ofNat 32 a from BitVec.ofInt_natCast 32 a, show BitVec.ofInt IntKind.u32.bits (b : Int) = BitVec.ofNat 32 b from BitVec.ofInt_natCast 32 b]
  exact wraps_u32 _ (by omega) (by exact_mod_cast h)
/-- A set without some blocks, one by one. -/
def dropL (used : Nat) (l : List Int) : Nat := l.foldl (fun s b => dif s (2 ^ b.toNat)) used
theorem dropL_snoc (used : Nat) (l : List Int) (b : Int) : dropL used (l ++ [b]) = dif (dropL used l) (2 ^ b.toNat) := by simp [dropL]
theorem dropL_lt (used : Nat) (l : List Int) (h : used < 2 ^ 32) : dropL used l < 2 ^ 32 := by
  rcases List.eq_nil_or_concat l with rfl | ⟨l', b, rfl⟩
  · exact h
  · rw [List.concat_eq_append, dropL_snoc]; exact dif_lt _ _
theorem dropL_mask (used : Nat) (l : List Int) (hu : used < 2 ^ 32) (h : ∀ b ∈ l, 0 ≤ b) : dropL used l = dif used (maskN l) := by
  have key : ∀ (l : List Int) (s : Nat), s < 2 ^ 32 → (∀ b ∈ l, 0 ≤ b) → ∀ i, (dropL s l).testBit i = (s.testBit i && !decide ((i : Int) ∈ l)) := by
    intro l
    induction l with
    | nil => intro s _ _ i; simp [dropL]
    | cons b l ih =>
      intro s hs hl i
      have hb := hl b (by simp)
      have := ih (dif s (2 ^ b.toNat)) (dif_lt _ _) (fun c hc => hl c (by simp [hc])) i
      simp only [dropL, List.foldl_cons] at this ⊢
      rw [this, dif_testBit, Nat.testBit_two_pow]
      have h32 : s.testBit i = true → i < 32 := fun ht => by
        by_cases hi : i < 32
        · exact hi
        · rw [Nat.testBit_lt_two_pow (Nat.lt_of_lt_of_le hs (Nat.pow_le_pow_right (by decide) (by omega)))] at ht; cases ht
      by_cases e : (i : Int) = b
      · have : b.toNat = i := by omega
        simp [e, this]
      · have : ¬ b.toNat = i := by omega
        cases hst : s.testBit i <;> simp [e, this]
        intro; have := h32 hst; omega
  apply Nat.eq_of_testBit_eq
  intro i
  rw [key l used hu h i, dif_testBit, maskN_testBit l h i]
  by_cases hi : i < 32
  · simp [hi]
  · rw [Nat.testBit_lt_two_pow (Nat.lt_of_lt_of_le hu (Nat.pow_le_pow_right (by decide) (by omega)))]; simp

/-! ### The reference's way to grow -/
def moreF (used : Nat) (n : Int) : Nat → List Int → List Int
  | 0, acc => acc
  | d + 1, acc => if (acc.length : Int) < n then (if used.testBit (31 - d) then moreF used n d acc else moreF used n d (acc ++ [((31 - d : Nat) : Int)])) else acc
def joinsL (l : List Int) : List (Int × Int) := l.foldl joinF []
theorem joinsL_snoc (l : List Int) (b : Int) : joinsL (l ++ [b]) = joinF (joinsL l) b := by simp [joinsL]
def growR (xs : List (Int × Int)) (used : Nat) (n : Int) : Option (List (Int × Int) × Nat) :=
  let more := moreF used n 23 []
  if (more.length : Int) < n then none else some (joinsL (listF xs ++ more), used ||| maskN more)
theorem moreF_range (used : Nat) (n : Int) (d : Nat) (acc : List Int) (h : ∀ b ∈ acc, 0 ≤ b ∧ b < 32) : ∀ b ∈ moreF used n d acc, 0 ≤ b ∧ b < 32 := by
  induction d generalizing acc with
  | zero => exact h
  | succ d ih =>
    rw [moreF]
    split
    · split
      · exact ih acc h
      · exact ih _ (fun b hb => by rcases List.mem_append.1 hb with hb | hb; exact h b hb; simp at hb; omega)
    · exact h
theorem moreF_length (used : Nat) (n : Int) (d : Nat) (acc : List Int) : (moreF used n d acc).length ≤ acc.length + d := by
  induction d generalizing acc with
  | zero => simp [moreF]
  | succ d ih =>
    rw [moreF]
    split
    · split
      · have := ih acc; omega
      · have := ih (acc ++ [((31 - d : Nat) : Int)]); simp at this; omega
    · omega
/-- The runs of extents that are good lead back to the extents. -/
theorem joins_run (acc : List (Int × Int)) (x1 : Int) (m : Nat) (h : ∀ y, acc.getLast? = some y → y.1 + y.2 ≠ x1) :
    (run (x1, ((m + 1 : Nat) : Int))).foldl joinF acc = acc ++ [(x1, ((m + 1 : Nat) : Int))] := by
  induction m with
  | zero =>
    simp only [run, Int.toNat_natCast]
    simp only [List.range_succ, List.range_zero, List.nil_append, List.map_cons, List.map_nil, List.foldl_cons, List.foldl_nil, joinF]
    rcases List.eq_nil_or_concat acc with rfl | ⟨acc', y, rfl⟩
    · simp
    · rw [List.concat_eq_append] at *
      have := h y (by simp)
      simp [this]
  | succ m ih =>
    have : run (x1, ((m + 1 + 1 : Nat) : Int)) = run (x1, ((m + 1 : Nat) : Int)) ++ [x1 + ((m + 1 : Nat) : Int)] := by
      simp only [run, Int.toNat_natCast]; rw [List.range_succ (n := m + 1)]; simp
    rw [this, List.foldl_append, ih]
    simp [joinF]
theorem joins_seq (xs : List (Int × Int)) (e : Int) (acc : List (Int × Int)) (h : ∀ b ∈ blkSeq e xs, 0 ≤ b) (he : ∀ y, acc.getLast? = some y → y.1 + y.2 = e) : (blkSeq e xs).foldl joinF acc = acc ++ xs := by
  induction xs generalizing e acc with
  | nil => simp [blkSeq]
  | cons x xs ih =>
    rw [blkSeq] at h ⊢
    split at h
    · have := h (-1) (by simp); omega
    · rename_i hb
      rw [if_neg hb, List.foldl_append]
      have hb' : badX e x = false := by simpa using hb
      obtain ⟨x1, x2⟩ := x
      have hx2 : ∃ m : Nat, x2 = ((m + 1 : Nat) : Int) := by
        simp only [badX, Bool.or_eq_false_iff, decide_eq_false_iff_not] at hb'
        exact ⟨(x2 - 1).toNat, by omega⟩
      obtain ⟨m, rfl⟩ := hx2
      rw [joins_run acc x1 m (fun y hy e' => by
        simp only [badX, Bool.or_eq_false_iff, decide_eq_false_iff_not] at hb'
        have := he y hy; omega)]
      rw [ih (x1 + ((m + 1 : Nat) : Int)) _ (fun b hb => h b (List.mem_append.2 (.inr hb))) (fun y hy => by simp at hy; subst hy; rfl)]
      simp
theorem joinsL_list (xs : List (Int × Int)) (h : okB (blkSeq (-1) xs) = true) : joinsL (listF xs) = xs := by
  rw [listF, if_pos h, joinsL, joins_seq xs (-1) [] (of_decide_eq_true h).1 (by simp)]; rfl
/-- Both ways to grow come to the same. -/
theorem grow_same (xs : List (Int × Int)) (used : Nat) (n : Int) (hn : 0 ≤ n) (h : okB (blkSeq (-1) xs) = true) : growF xs used n = growR xs used n := by
  have key : ∀ (d : Nat) (acc : List Int), d ≤ 23 → (acc.length : Int) ≤ n → (∀ b ∈ acc, 0 ≤ b ∧ b < 32 - (d : Int)) →
      growL d (acc.foldl joinF xs) (used ||| maskN acc) (n - acc.length) =
        (if ((moreF used n d acc).length : Int) < n then none else some ((moreF used n d acc).foldl joinF xs, used ||| maskN (moreF used n d acc))) := by
    intro d
    induction d with
    | zero =>
      intro acc _ hl hr
      rw [growL, moreF]
      by_cases hc : (acc.length : Int) < n
      · rw [if_neg (by omega), if_pos hc]
      · rw [if_pos (by omega), if_neg hc]
    | succ d ih =>
      intro acc hd hl hr
      rw [growL, moreF]
      by_cases hc : (acc.length : Int) < n
      · rw [if_neg (by omega), if_pos hc]
        have htb : (used ||| maskN acc).testBit (31 - d) = used.testBit (31 - d) := by
          rw [Nat.testBit_or, maskN_testBit acc (fun b hb => (hr b hb).1)]
          have : ¬ (((31 - d : Nat) : Int) ∈ acc) := fun hin => by have := (hr _ hin).2; omega
          simp [this]
        rw [htb]
        by_cases ht : used.testBit (31 - d) = true
        · rw [if_pos ht, if_pos ht]
          exact ih acc (by omega) hl (fun b hb => by have := hr b hb; omega)
        · rw [if_neg ht, if_neg ht]
          have := ih (acc ++ [((31 - d : Nat) : Int)]) (by omega) (by simp; omega) (fun b hb => by
            rcases List.mem_append.1 hb with hb | hb
            · have := hr b hb; omega
            · simp at hb; omega)
          rw [← this, List.foldl_append]
          have hm : maskN (acc ++ [((31 - d : Nat) : Int)]) = maskN acc ||| 2 ^ (31 - d) := by simp [maskN]
          rw [hm, ← Nat.or_assoc]
          simp only [List.foldl_cons, List.foldl_nil, List.length_append, List.length_cons, List.length_nil]
          congr 1
          omega
      · rw [if_pos (by omega), if_neg hc, if_neg (by omega)]
  have := key 23 [] (by omega) (by simpa using hn) (by simp)
  simp only [List.foldl_nil, List.length_nil] at this
  rw [growF, growR]
  have h0 : used ||| maskN [] = used := by simp [maskN]
  rw [h0] at this
  simp only [Int.natCast_zero, Int.sub_zero] at this
  rw [this]
  simp only [joinsL, List.foldl_append]
  rw [show (listF xs).foldl joinF [] = xs from joinsL_list xs h]

end Go.Proofs.Ytbjffempiaohpaa
