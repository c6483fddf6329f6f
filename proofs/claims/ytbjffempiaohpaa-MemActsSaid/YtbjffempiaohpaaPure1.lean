/-
  Plain laws: numbers laid down as bytes and read again; an inode's bytes read again.
-/
import Derived.Test.YtbjffempiaohpaaIno7
namespace Go.Proofs.Ytbjffempiaohpaa
set_option linter.unusedVariables false
set_option linter.unusedSimpArgs false
open Go.RowKit Go.Shelf

theorem wraps_u64 (n : Int) (h₀ : 0 ≤ n) (h₁ : n < 2 ^ 64) : IntKind.u64.wrap n = n := by rw [IntKind.wrap_u64]; omega
theorem or_u64 (a b : Nat) (ha : a < 2 ^ 64) (hb : b < 2 ^ 64) : bits .or .u64 a b = ((a ||| b : Nat) : Int) :=
  (bits_nat .u64 64 (by decide) wraps_u64 a b ha hb).2
theorem getD_range (l : List Int) (h0 : ∀ b ∈ l, 0 ≤ b ∧ b < 256) (i : Nat) : 0 ≤ l.getD i 0 ∧ l.getD i 0 < 256 := by
  by_cases h : i < l.length
  · rw [List.getD_eq_getElem?_getD, List.getElem?_eq_getElem h, Option.getD_some]; exact h0 _ (List.getElem_mem h)
  · rw [List.getD_eq_getElem?_getD, List.getElem?_eq_none (by omega), Option.getD_none]; omega
/-- The number of k bytes, as a sum. -/
def sumL (l : List Int) (at_ : Nat) : Nat → Nat
  | 0 => 0
  | k + 1 => sumL l at_ k + (l.getD (at_ + k) 0).toNat * 2 ^ (8 * k)
theorem sumL_lt (l : List Int) (h0 : ∀ b ∈ l, 0 ≤ b ∧ b < 256) (at_ k : Nat) : sumL l at_ k < 2 ^ (8 * k) := by
  induction k with
  | zero => simp [sumL]
  | succ k ih =>
    have h := getD_range l h0 (at_ + k)
    have h2 : (l.getD (at_ + k) 0).toNat ≤ 255 := by omega
    have h3 : (l.getD (at_ + k) 0).toNat * 2 ^ (8 * k) ≤ 255 * 2 ^ (8 * k) := Nat.mul_le_mul_right _ h2
    have h4 : 2 ^ (8 * (k + 1)) = 256 * 2 ^ (8 * k) := by rw [Nat.mul_add, Nat.pow_add]; omega
    rw [sumL, h4]; omega
theorem numL_sum (l : List Int) (h0 : ∀ b ∈ l, 0 ≤ b ∧ b < 256) (at_ k : Nat) (hk : k ≤ 8) : numL l at_ k = (sumL l at_ k : Int) := by
  induction k with
  | zero => rfl
  | succ k ih =>
    have h := getD_range l h0 (at_ + k)
    have h1 := sumL_lt l h0 at_ k
    have h5 := sumL_lt l h0 at_ (k + 1)
    rw [sumL] at h5
    have h6 : 2 ^ (8 * (k + 1)) ≤ 2 ^ 64 := Nat.pow_le_pow_right (by decide) (by omega)
    have h7 : 2 ^ (8 * k) ≤ 2 ^ 64 := Nat.pow_le_pow_right (by decide) (by omega)
    rw [numL, ih (by omega), sumL]
    obtain ⟨x, hx⟩ : ∃ x : Nat, l.getD (at_ + k) 0 = x := ⟨(l.getD (at_ + k) 0).toNat, by omega⟩
    rw [hx] at h5 ⊢
    rw [Int.toNat_natCast] at h5 ⊢
    have e : ((x : Int) * 2 ^ (8 * k)) = ((x * 2 ^ (8 * k) : Nat) : Int) := by simp
    rw [e, wraps_u64 _ (by omega) (by exact_mod_cast (by omega : x * 2 ^ (8 * k) < 2 ^ 64)), or_u64 _ _ (by omega) (by omega)]
    have := Nat.shiftLeft_add_eq_or_of_lt h1 x
    rw [Nat.shiftLeft_eq] at this
    rw [Nat.or_comm, ← this, Nat.add_comm]
theorem putL_get (l : List Int) (at_ : Nat) (n : Int) (k j : Nat) (hj : j < k) (hl : at_ + k ≤ l.length) : (putL l at_ n k).getD (at_ + j) 0 = n / 2 ^ (8 * j) % 256 := by
  induction k with
  | zero => omega
  | succ k ih =>
    rw [putL, List.getD_eq_getElem?_getD, List.getElem?_set]
    by_cases e : j = k
    · subst e
      rw [if_pos rfl, if_pos (by rw [putL_length]; omega), Option.getD_some, IntKind.wrap_u8]
    · rw [if_neg (by omega), ← List.getD_eq_getElem?_getD, ih (by omega) (by omega)]
theorem putL_other (l : List Int) (at_ : Nat) (n : Int) (k j : Nat) (hj : j < at_ ∨ at_ + k ≤ j) : (putL l at_ n k).getD j 0 = l.getD j 0 := by
  induction k with
  | zero => rfl
  | succ k ih => rw [putL, List.getD_eq_getElem?_getD, List.getElem?_set, if_neg (by omega), ← List.getD_eq_getElem?_getD, ih (by omega)]
theorem putL_range (l : List Int) (at_ : Nat) (n : Int) (k : Nat) (h0 : ∀ b ∈ l, 0 ≤ b ∧ b < 256) : ∀ b ∈ putL l at_ n k, 0 ≤ b ∧ b < 256 := by
  induction k with
  | zero => exact h0
  | succ k ih =>
    intro b hb
    rw [putL] at hb
    rcases List.mem_or_eq_of_mem_set hb with h | h
    · exact ih b h
    · rw [h, IntKind.wrap_u8]; omega
theorem sumL_digits (l : List Int) (at_ n K : Nat) (hd : ∀ j, j < K → l.getD (at_ + j) 0 = (n : Int) / 2 ^ (8 * j) % 256) : ∀ k, k ≤ K → sumL l at_ k = n % 2 ^ (8 * k) := by
  intro k
  induction k with
  | zero => intro _; simp [sumL]; omega
  | succ k ih =>
    intro hk
    rw [sumL, ih (by omega), hd k (by omega)]
    have e : ((n : Int) / 2 ^ (8 * k) % 256) = ((n / 2 ^ (8 * k) % 256 : Nat) : Int) := by simp
    rw [e, Int.toNat_natCast]
    have h4 : 2 ^ (8 * (k + 1)) = 2 ^ (8 * k) * 256 := by rw [Nat.mul_add, Nat.pow_add]
    rw [h4, Nat.mod_mul, Nat.mul_comm (n / 2 ^ (8 * k) % 256)]
/-- A number laid down is read again. -/
theorem numL_putL (l : List Int) (at_ n K : Nat) (hK : K ≤ 8) (hl : at_ + K ≤ l.length) (h0 : ∀ b ∈ l, 0 ≤ b ∧ b < 256) (hn : n < 2 ^ (8 * K)) : numL (putL l at_ n K) at_ K = n := by
  rw [numL_sum _ (putL_range l at_ n K h0) _ _ hK, sumL_digits _ at_ n K (fun j hj => putL_get l at_ n K j hj hl) K (Nat.le_refl _), Nat.mod_eq_of_lt hn]

theorem spl_get (l : List Int) (o : Nat) (m : List Int) (j : Nat) (h : o ≤ l.length) : (spl l o m).getD j 0 = if j < o then l.getD j 0 else if j < o + m.length then m.getD (j - o) 0 else l.getD j 0 := by
  have ho : (l.take o).length = o := by simp; omega
  rw [spl, List.getD_eq_getElem?_getD, List.append_assoc, List.getElem?_append, ho]
  by_cases h1 : j < o
  · rw [if_pos h1, if_pos h1, List.getElem?_take, if_pos h1, List.getD_eq_getElem?_getD]
  · rw [if_neg h1, if_neg h1, List.getElem?_append]
    by_cases h2 : j < o + m.length
    · rw [if_pos (by omega), if_pos h2, List.getD_eq_getElem?_getD]
    · rw [if_neg (by omega), if_neg h2, List.getElem?_drop, List.getD_eq_getElem?_getD]
      congr 2; omega
theorem set_get (l : List Int) (i j : Nat) (x : Int) (h : i < l.length) : (l.set i x).getD j 0 = if j = i then x else l.getD j 0 := by
  rw [List.getD_eq_getElem?_getD, List.getElem?_set]
  by_cases e : i = j
  · rw [if_pos e, if_pos h, if_pos e.symm, Option.getD_some]
  · rw [if_neg e, if_neg (fun h => e h.symm), List.getD_eq_getElem?_getD]
theorem zs_get (n j : Nat) : (zs n).getD j 0 = 0 := by
  rw [List.getD_eq_getElem?_getD, zs, List.getElem?_replicate]; split <;> rfl

/-! ### An inode's bytes, place by place -/
theorem head_get (s : ByteArray) (n : Int) (hs : s.size ≤ 15) (j : Nat) : (encHead s n).getD j 0 =
    if j = 0 then (s.size : Int) else if j < 1 + s.size then (bytesOf s).getD (j - 1) 0 else if j = 16 then n % 256 else if j = 17 then n / 256 % 256 else 0 := by
  have h1 : ((spl (zs 64) 1 (bytesOf s)).set 0 s.size).length = 64 := by
    rw [List.length_set, spl_length _ _ _ (by rw [bytesOf_length, zs_length]; omega), zs_length]
  have h2 : (spl (zs 64) 1 (bytesOf s)).length = 64 := by have h3 := h1; rwa [List.length_set] at h3
  rw [encHead, spl_get _ _ _ _ (by omega), putL_length, zs_length, set_get _ _ _ _ (by omega), spl_get _ _ _ _ (by rw [zs_length]; omega), bytesOf_length, zs_get]
  by_cases e0 : j = 0
  · subst e0; simp
  · rw [if_neg e0, if_neg e0]
    by_cases e1 : j < 1 + s.size
    · rw [if_pos (by omega), if_neg (by omega), if_pos e1, if_pos e1]
    · rw [if_neg e1, if_neg e1]
      by_cases e2 : j = 16
      · subst e2
        have := putL_get (zs 2) 0 n 2 0 (by omega) (by rw [zs_length]; omega)
        simp at this
        simp [this]
      · by_cases e3 : j = 17
        · subst e3
          have := putL_get (zs 2) 0 n 2 1 (by omega) (by rw [zs_length]; omega)
          simp at this
          simp [this]
        · rw [if_neg e2, if_neg e3]
          split
          · split <;> rfl
          · rw [if_neg (by omega)]; split <;> rfl
theorem encN_lo (l : List Int) (xs : List (Int × Int)) (k j : Nat) (h : j < 18 ∨ 18 + 2 * k ≤ j) : (encN l xs k).getD j 0 = l.getD j 0 := by
  induction k with
  | zero => rfl
  | succ k ih =>
    rw [encN, List.getD_eq_getElem?_getD, List.getElem?_set, if_neg (by omega), List.getElem?_set, if_neg (by omega), ← List.getD_eq_getElem?_getD, ih (by omega)]
theorem encN_at (l : List Int) (xs : List (Int × Int)) (k i : Nat) (hi : i < k) (hl : 18 + 2 * k ≤ l.length) : (encN l xs k).getD (18 + 2 * i) 0 = (xs.getD i (0, 0)).1 % 256 ∧ (encN l xs k).getD (18 + 2 * i + 1) 0 = (xs.getD i (0, 0)).2 % 256 := by
  induction k with
  | zero => omega
  | succ k ih =>
    rw [encN, set_get _ _ _ _ (by simp only [List.length_set, encN_length]; omega), set_get _ _ _ _ (by simp only [List.length_set, encN_length]; omega), set_get _ _ _ _ (by simp only [List.length_set, encN_length]; omega), set_get _ _ _ _ (by simp only [List.length_set, encN_length]; omega)]
    by_cases e : i = k
    · subst e
      rw [if_neg (by omega), if_pos rfl, if_pos (by omega)]; exact ⟨rfl, rfl⟩
    · rw [if_neg (by omega), if_neg (by omega), if_neg (by omega), if_neg (by omega)]
      exact ih (by omega) (by omega)

/-- The extents that bytes tell, from place 18 + 2 * k on; so many are still to be looked at. -/
def extsF (l : List Int) : Nat → Nat → List (Int × Int)
  | 0, _ => []
  | d + 1, k => if l.getD (18 + 2 * k + 1) 0 = 0 then [] else (l.getD (18 + 2 * k) 0, l.getD (18 + 2 * k + 1) 0) :: extsF l d (k + 1)
theorem extsF_length (l : List Int) (d k : Nat) : (extsF l d k).length ≤ d := by
  induction d generalizing k with
  | zero => simp [extsF]
  | succ d ih => rw [extsF]; split
                 · simp
                 · have := ih (k + 1); simp; omega
/-- What bytes tell: a name, a size. -/
def nameOf (l : List Int) : ByteArray := strOfNums ((l.drop 1).take (l.getD 0 0).toNat)
def sizeOf' (l : List Int) : Int := numL l 16 2

theorem inoOk_fine {s : ByteArray} {n : Int} {xs : List (Int × Int)} (h : inoOk s n xs = true) : ∀ x ∈ xs, 9 ≤ x.1 ∧ 1 ≤ x.2 ∧ x.1 + x.2 ≤ 32 := by
  simp only [inoOk, Bool.and_eq_true, decide_eq_true_eq] at h
  have hk : okB (blkSeq (-1) xs) = true := h.1.2
  have hp := (of_decide_eq_true hk).1
  have key : ∀ (l : List (Int × Int)) (e : Int), (∀ b ∈ blkSeq e l, 0 ≤ b) → ∀ x ∈ l, 9 ≤ x.1 ∧ 1 ≤ x.2 ∧ x.1 + x.2 ≤ 32 := by
    intro l
    induction l with
    | nil => simp
    | cons y l ih =>
      intro e hb x hx
      rw [blkSeq] at hb
      split at hb
      · have := hb (-1) (by simp); omega
      · rename_i hbad
        simp only [Bool.not_eq_true, badX, Bool.or_eq_false_iff, decide_eq_false_iff_not] at hbad
        rcases List.mem_cons.1 hx with rfl | hx
        · omega
        · exact ih _ (fun b hb' => hb b (List.mem_append.2 (.inr hb'))) x hx
  exact key xs (-1) hp

theorem bytesOf_str (s : ByteArray) : strOfNums (bytesOf s) = s := by
  apply ByteArray.ext
  apply Array.toList_inj.1
  rw [strOfNums_data, bytesOf, List.map_map]
  have : ((fun x : Int => UInt8.ofNat x.toNat) ∘ fun b : UInt8 => (b.toNat : Int)) = id := by
    funext b; simp
  rw [show (List.map _ s.data.toList) = List.map id s.data.toList from by rw [← this], List.map_id]

theorem dec_enc {s : ByteArray} {n : Int} {xs : List (Int × Int)} (h : inoOk s n xs = true) :
    nameOf (encF s n xs) = s ∧ sizeOf' (encF s n xs) = n ∧ extsF (encF s n xs) 23 0 = xs ∧ encF s n xs ≠ zs 64 ∧ (encF s n xs).length = 64 ∧ (encF s n xs).getD 0 0 = s.size := by
  obtain ⟨g1, g2, g3, g4, g5⟩ := inoOk_small h
  have hf := inoOk_fine h
  have hL := encF_length s n xs g2
  have hH := encHead_length s n g2
  have h0 : (encF s n xs).getD 0 0 = s.size := by rw [encF, encN_lo _ _ _ _ (by omega), head_get s n g2]; simp
  refine ⟨?_, ?_, ?_, ?_, hL, h0⟩
  · rw [nameOf, h0, Int.toNat_natCast]
    rw [show ((encF s n xs).drop 1).take s.size = bytesOf s from ?_, bytesOf_str]
    apply List.ext_getElem
    · simp [bytesOf_length]; omega
    · intro i h1 h2
      have hi : i < s.size := by rw [bytesOf_length] at h2; exact h2
      rw [List.getElem_take, List.getElem_drop]
      have := head_get s n g2 (1 + i)
      rw [if_neg (by omega), if_pos (by omega), ← encN_lo _ xs xs.length _ (by omega)] at this
      rw [show 1 + i - 1 = i by omega] at this
      rw [show encN (encHead s n) xs xs.length = encF s n xs from rfl] at this
      simpa [List.getD, h2, hL, show 1 + i < 64 by omega] using this
  · have a16 : (encF s n xs).getD (16 + 0) 0 = ((n.toNat : Nat) : Int) / 2 ^ (8 * 0) % 256 := by
      rw [encF, encN_lo _ _ _ _ (by omega), head_get s n g2, if_neg (by omega), if_neg (by omega), if_pos (by omega)]; simp; omega
    have a17 : (encF s n xs).getD (16 + 1) 0 = ((n.toNat : Nat) : Int) / 2 ^ (8 * 1) % 256 := by
      rw [encF, encN_lo _ _ _ _ (by omega), head_get s n g2, if_neg (by omega), if_neg (by omega), if_neg (by omega), if_pos (by omega)]; omega
    have := sumL_digits (encF s n xs) 16 n.toNat 2 (fun j hj => by
      rcases (by omega : j = 0 ∨ j = 1) with rfl | rfl
      · exact a16
      · exact a17) 2 (by omega)
    have hs : numL (encF s n xs) 16 2 = ((sumL (encF s n xs) 16 2 : Nat) : Int) := by
      rw [numL, numL, numL, a16, a17, sumL, sumL, sumL, a16, a17]
      obtain ⟨m, rfl⟩ : ∃ m : Nat, n = m := ⟨n.toNat, by omega⟩
      rw [Int.toNat_natCast]
      have p1 : m / 2 ^ (8 * 0) % 256 < 2 ^ 64 := by omega
      have p2 : m / 2 ^ (8 * 1) % 256 < 256 := by omega
      have q1 : ((m : Int) / 2 ^ (8 * 0) % 256) = ((m / 2 ^ (8 * 0) % 256 : Nat) : Int) := by simp
      have q2 : ((m : Int) / 2 ^ (8 * 1) % 256) = ((m / 2 ^ (8 * 1) % 256 : Nat) : Int) := by simp
      rw [q1, q2, Int.toNat_natCast, Int.toNat_natCast]
      generalize hx : m / 2 ^ (8 * 0) % 256 = x at *
      generalize m / 2 ^ (8 * 1) % 256 = y at *
      have hx2 : x < 256 := by omega
      have e1 : ((x : Int) * 2 ^ (8 * 0)) = ((x : Nat) : Int) := by simp
      have e2 : ((y : Int) * 2 ^ (8 * 1)) = ((y * 256 : Nat) : Int) := by simp
      rw [e1, e2, wraps_u64 _ (by omega) (by omega), wraps_u64 _ (by omega) (by omega)]
      have o1 := or_u64 0 x (by omega) (by omega)
      rw [Nat.zero_or] at o1
      rw [show (0 : Int) = ((0 : Nat) : Int) from rfl, o1, or_u64 _ _ (by omega) (by omega)]
      have := Nat.shiftLeft_add_eq_or_of_lt (show x < 2 ^ 8 by omega) y
      rw [Nat.shiftLeft_eq] at this
      rw [Nat.or_comm, show (256 : Nat) = 2 ^ 8 by rfl, ← this]
      omega
    rw [sizeOf', hs, this, Nat.mod_eq_of_lt (by omega)]; omega
  · have key : ∀ (d k : Nat), d + k = 23 → k ≤ xs.length → extsF (encF s n xs) d k = xs.drop k := by
      intro d
      induction d with
      | zero => intro k hk h1; rw [extsF, List.drop_of_length_le (by omega)]
      | succ d ih =>
        intro k hk h1
        rw [extsF]
        by_cases hlt : k < xs.length
        · obtain ⟨p1, p2⟩ := encN_at (encHead s n) xs xs.length k hlt (by omega)
          have hx := hf _ (List.getElem_mem hlt)
          rw [show xs.getD k (0, 0) = xs[k] by simp [List.getD, hlt]] at p1 p2
          rw [show encN (encHead s n) xs xs.length = encF s n xs from rfl] at p1 p2
          have e1 : xs[k].1 % 256 = xs[k].1 := by omega
          have e2 : xs[k].2 % 256 = xs[k].2 := by omega
          rw [p2, p1, e1, e2, if_neg (by omega), ih (k + 1) (by omega) (by omega), List.drop_eq_getElem_cons hlt]
        · have : (encF s n xs).getD (18 + 2 * k + 1) 0 = 0 := by
            rw [encF, encN_lo _ _ _ _ (by omega), head_get s n g2, if_neg (by omega), if_neg (by omega), if_neg (by omega), if_neg (by omega)]
          rw [if_pos this, List.drop_of_length_le (by omega)]
    simpa using key 23 0 (by omega) (by omega)
  · intro e
    rw [e, zs_get] at h0
    omega

/-- What bytes are: 0: none; 1: an inode; 2: refused. -/
def decOk (l : List Int) : Bool := inoOk (nameOf l) (sizeOf' l) (extsF l 23 0) && decide (encF (nameOf l) (sizeOf' l) (extsF l 23 0) = l)
def decKind (l : List Int) : Nat := if l.length ≠ 64 then 2 else if l = zs 64 then 0 else if 15 < l.getD 0 0 then 2 else if decOk l = true then 1 else 2
theorem decKind_enc {s : ByteArray} {n : Int} {xs : List (Int × Int)} (h : inoOk s n xs = true) : decKind (encF s n xs) = 1 := by
  obtain ⟨h1, h2, h3, h4, h5, h6⟩ := dec_enc h
  obtain ⟨g1, g2, g3, g4, g5⟩ := inoOk_small h
  rw [decKind, if_neg (by simp [h5]), if_neg h4, if_neg (by omega), if_pos]
  rw [decOk, h1, h2, h3, h]; simp
theorem decKind_one {l : List Int} (h : decKind l = 1) : l.length = 64 ∧ l ≠ zs 64 ∧ inoOk (nameOf l) (sizeOf' l) (extsF l 23 0) = true ∧ encF (nameOf l) (sizeOf' l) (extsF l 23 0) = l := by
  rw [decKind] at h
  split at h
  · omega
  · rename_i h1
    split at h
    · omega
    · rename_i h2
      split at h
      · omega
      · split at h
        · rename_i h4
          rw [decOk, Bool.and_eq_true, decide_eq_true_eq] at h4
          exact ⟨by omega, h2, h4.1, h4.2⟩
        · omega
end Go.Proofs.Ytbjffempiaohpaa
