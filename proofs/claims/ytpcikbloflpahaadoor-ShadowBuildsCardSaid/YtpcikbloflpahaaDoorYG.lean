/-
  Words of 64 bits: which are set, how many, the lowest (plain).
-/
import Derived.Laws.Bits64b
import Derived.Lib.TrailingZeros
import Derived.Test.YtpcikbloflpahaaDoorYO
import Derived.Shelf.Spec.TrailingZeros
import Derived.Laws.BitsLemmas
import Derived.Test.YtpcikbloflpahaaDoorZPn7
namespace Go.Proofs.YtpcikbloflpahaaDoor
set_option linter.unusedVariables false
set_option linter.unusedSimpArgs false

/-- The number whose bits are q. -/
def natOf (q : Nat → Bool) : Nat → Nat
  | 0 => 0
  | n + 1 => natOf q n + (if q n then 2 ^ n else 0)
theorem natOf_lt (q : Nat → Bool) (n : Nat) : natOf q n < 2 ^ n := by
  induction n with
  | zero => simp [natOf]
  | succ n ih => unfold natOf; rw [Nat.pow_succ]; split <;> omega
theorem natOf_test (q : Nat → Bool) (n i : Nat) : (natOf q n).testBit i = (decide (i < n) && q i) := by
  induction n with
  | zero => simp [natOf]
  | succ n ih =>
    unfold natOf
    by_cases hq : q n = true
    · rw [if_pos hq, Nat.add_comm]
      rcases Nat.lt_trichotomy i n with h | h | h
      · rw [Nat.testBit_two_pow_add_gt h, ih]
        simp [h, Nat.lt_succ_of_lt h]
      · subst h
        rw [Nat.testBit_two_pow_add_eq, ih]
        simp [hq]
      · rw [Nat.testBit_lt_two_pow]
        · simp; omega
        · have h1 := natOf_lt q n
          have h2 : 2 ^ (n + 1) ≤ 2 ^ i := Nat.pow_le_pow_right (by decide) h
          rw [Nat.pow_succ] at h2
          omega
    · rw [if_neg hq, Nat.add_zero, ih]
      by_cases h : i = n
      · subst h; simp at hq; simp [hq]
      · by_cases h2 : i < n
        · simp [h2, Nat.lt_succ_of_lt h2]
        · have : ¬ i < n + 1 := by omega
          simp [h2, this]
theorem natOf_eq {x : Nat} {q : Nat → Bool} {n : Nat} (h : ∀ i, x.testBit i = (decide (i < n) && q i)) : x = natOf q n :=
  Nat.eq_of_testBit_eq fun i => by rw [h, natOf_test]
theorem natOf_congr {p q : Nat → Bool} {n : Nat} (h : ∀ i, i < n → p i = q i) : natOf p n = natOf q n :=
  natOf_eq fun i => by
    rw [natOf_test]
    by_cases hi : i < n
    · rw [h i hi]
    · simp [hi]
theorem natOf64 (q : Nat → Bool) : natOf q 64 < 18446744073709551616 := natOf_lt q 64
theorem two_pow64 {j : Nat} (h : j < 64) : 2 ^ j < 18446744073709551616 := Nat.pow_lt_pow_right (a := 2) (n := 64) (by decide) h
theorem or_bit (q : Nat → Bool) {j : Nat} (hj : j < 64) : Go.bits .or .u64 ((natOf q 64 : Nat) : Int) ((2 ^ j : Nat) : Int) = ((natOf (fun i => q i || decide (i = j)) 64 : Nat) : Int) := by
  rw [Go.bits_or_u64_nat _ _ (natOf64 q) (two_pow64 hj)]
  congr 1
  refine natOf_eq fun i => ?_
  rw [Nat.testBit_or, natOf_test, Nat.testBit_two_pow]
  by_cases h : i = j
  · subst h; simp [hj]
  · have : ¬ j = i := fun e => h e.symm
    simp [h, this]
theorem andNot_bit (q : Nat → Bool) {j : Nat} (hj : j < 64) : Go.bits .andNot .u64 ((natOf q 64 : Nat) : Int) ((2 ^ j : Nat) : Int) = ((natOf (fun i => q i && !decide (i = j)) 64 : Nat) : Int) := by
  have ha := natOf64 q
  have hb := two_pow64 hj
  have h1 : (BitVec.ofInt 64 ((natOf q 64 : Nat) : Int)).toNat = natOf q 64 := by
    rw [BitVec.ofInt_natCast, BitVec.toNat_ofNat]; exact Nat.mod_eq_of_lt (by omega)
  have h2 : (BitVec.ofInt 64 ((2 ^ j : Nat) : Int)).toNat = 2 ^ j := by
    rw [BitVec.ofInt_natCast, BitVec.toNat_ofNat]; exact Nat.mod_eq_of_lt (by omega)
  have h3 : (BitVec.ofInt 64 ((natOf q 64 : Nat) : Int) &&& ~~~ (BitVec.ofInt 64 ((2 ^ j : Nat) : Int))).toNat = natOf (fun i => q i && !decide (i = j)) 64 := by
    refine natOf_eq fun i => ?_
    rw [BitVec.toNat_and, Nat.testBit_and, h1, natOf_test, BitVec.testBit_toNat, BitVec.getLsbD_not, ← BitVec.testBit_toNat, h2, Nat.testBit_two_pow]
    by_cases h : i = j
    · subst h; simp
    · have : ¬ j = i := fun e => h e.symm
      by_cases h64 : i < 64
      · simp [h, this, h64]
      · simp [h64]
  show Go.IntKind.u64.wrap ((BitVec.ofInt 64 ((natOf q 64 : Nat) : Int) &&& ~~~ (BitVec.ofInt 64 ((2 ^ j : Nat) : Int))).toNat : Int) = _
  rw [h3, Go.IntKind.wrap_u64]
  have := natOf64 (fun i => q i && !decide (i = j))
  omega
/-- The lowest bit that is set. -/
theorem ctz_low {q : Nat → Bool} {j : Nat} (hj : j < 64) (hq : q j = true) (hlow : ∀ i, i < j → q i = false) : Lib.ctz 64 (natOf q 64) = j := by
  have hpos : natOf q 64 ≠ 0 := fun e => by
    have := natOf_test q 64 j
    rw [e] at this
    simp [hj, hq] at this
  obtain ⟨m, hm, hk⟩ := Lib.ctzFrom_spec 64 (natOf q 64) (by omega) (natOf_lt q 64)
  unfold Lib.ctz
  rw [if_neg hpos]
  generalize Lib.ctzFrom 64 (natOf q 64) = k at *
  have ht : ∀ i, (natOf q 64).testBit i = (decide (k ≤ i) && (2 * m + 1).testBit (i - k)) := fun i => by
    rw [hm, Nat.mul_comm, Nat.testBit_mul_two_pow]
  have hkk : q k = true := by
    have := ht k
    rw [natOf_test] at this
    simpa [hk] using this
  have hlt : ∀ i, i < k → i < 64 → q i = false := fun i hi h64 => by
    have := ht i
    rw [natOf_test] at this
    have hn : ¬ k ≤ i := by omega
    simpa [h64, hn] using this
  rcases Nat.lt_trichotomy k j with h | h | h
  · rw [hlow k h] at hkk; cases hkk
  · exact h
  · rw [hlt j h hj] at hq; cases hq
theorem natOf_zero {q : Nat → Bool} : natOf q 64 = 0 ↔ ∀ i, i < 64 → q i = false := by
  constructor
  · intro h i hi
    have := natOf_test q 64 i
    rw [h] at this
    simpa [hi] using this.symm
  · intro h
    refine (natOf_eq (n := 64) fun i => ?_).symm
    by_cases hi : i < 64
    · simp [h i hi]
    · simp [hi]

/-- How many bits a byte has; how many a word of 8 k bits has. -/
def pc8 (v : Nat) : Nat := (List.range 8).countP fun j => v.testBit j
def pcN : Nat → Nat → Nat
  | 0, _ => 0
  | k + 1, x => pc8 (x % 256) + pcN k (x / 256)
def m1 : Nat → Nat
  | 0 => 0
  | k + 1 => 85 + 256 * m1 k
def m2 : Nat → Nat
  | 0 => 0
  | k + 1 => 51 + 256 * m2 k
def m3 : Nat → Nat
  | 0 => 0
  | k + 1 => 15 + 256 * m3 k
theorem land_byte (a A m M : Nat) (ha : a < 256) (hm : m < 256) : (a + 256 * A) &&& (m + 256 * M) = (a &&& m) + 256 * (A &&& M) := by
  have h1 : ((a + 256 * A) &&& (m + 256 * M)) % 2 ^ 8 = a &&& m := by
    rw [Nat.and_mod_two_pow]
    congr 1 <;> omega
  have h2 : ((a + 256 * A) &&& (m + 256 * M)) / 2 ^ 8 = A &&& M := by
    rw [Nat.and_div_two_pow]
    congr 1 <;> omega
  have h3 := Nat.div_add_mod ((a + 256 * A) &&& (m + 256 * M)) (2 ^ 8)
  rw [h1, h2] at h3
  omega
def s1 (k x : Nat) : Nat := (x / 2 &&& m1 k) + (x &&& m1 k)
def s2 (k x : Nat) : Nat := (x / 4 &&& m2 k) + (x &&& m2 k)
def s3 (k x : Nat) : Nat := (x / 16 + x) &&& m3 k
def b1 (v : Nat) : Nat := (v / 2 &&& 85) + (v &&& 85)
def b2 (v : Nat) : Nat := (v / 4 &&& 51) + (v &&& 51)
theorem byte1 : ∀ v, v < 256 → ∀ t, t < 2 → ((v / 2 + 128 * t) &&& 85) + (v &&& 85) = b1 v := by decide +kernel
theorem byte2 : ∀ v, v < 256 → ∀ t, t < 4 → ((v / 4 + 64 * t) &&& 51) + (v &&& 51) = b2 v := by decide +kernel
theorem b1_lt : ∀ v, v < 256 → b1 v < 256 := by decide +kernel
theorem b2_le : ∀ v, v < 256 → b2 (b1 v) % 16 ≤ 4 ∧ b2 (b1 v) / 16 ≤ 4 ∧ b2 (b1 v) < 256 := by decide +kernel
theorem byte3 : ∀ v, v < 256 → b2 (b1 v) % 16 + b2 (b1 v) / 16 = pc8 v := by decide +kernel
theorem pc8_le : ∀ v, v < 256 → pc8 v ≤ 8 := by decide +kernel
theorem s1_step (k v y : Nat) (hv : v < 256) : s1 (k + 1) (v + 256 * y) = b1 v + 256 * s1 k y := by
  show ((v + 256 * y) / 2 &&& (85 + 256 * m1 k)) + ((v + 256 * y) &&& (85 + 256 * m1 k)) = b1 v + 256 * ((y / 2 &&& m1 k) + (y &&& m1 k))
  rw [show (v + 256 * y) / 2 = (v / 2 + 128 * (y % 2)) + 256 * (y / 2) from by omega, land_byte _ _ _ _ (by omega) (by decide), land_byte _ _ _ _ hv (by decide)]
  have := byte1 v hv (y % 2) (by omega)
  omega
theorem s2_step (k v y : Nat) (hv : v < 256) : s2 (k + 1) (v + 256 * y) = b2 v + 256 * s2 k y := by
  show ((v + 256 * y) / 4 &&& (51 + 256 * m2 k)) + ((v + 256 * y) &&& (51 + 256 * m2 k)) = b2 v + 256 * ((y / 4 &&& m2 k) + (y &&& m2 k))
  rw [show (v + 256 * y) / 4 = (v / 4 + 64 * (y % 4)) + 256 * (y / 4) from by omega, land_byte _ _ _ _ (by omega) (by decide), land_byte _ _ _ _ hv (by decide)]
  have := byte2 v hv (y % 4) (by omega)
  omega
theorem low4 (a : Nat) : a &&& 15 = a % 16 := Nat.and_two_pow_sub_one_eq_mod a 4
/-- The low digits of what the second stage makes are small. -/
theorem s2_low (k x : Nat) (hx : x < 256 ^ k) : s2 k (s1 k x) % 16 ≤ 4 := by
  cases k with
  | zero => simp [s2, s1, m1, m2]
  | succ k =>
    rw [show x = x % 256 + 256 * (x / 256) from by omega, s1_step _ _ _ (by omega), s2_step _ _ _ (b1_lt _ (by omega))]
    have := (b2_le (x % 256) (by omega)).1
    omega
theorem s3_step (k x : Nat) (hx : x < 256 ^ (k + 1)) : s3 (k + 1) (s2 (k + 1) (s1 (k + 1) x)) = pc8 (x % 256) + 256 * s3 k (s2 k (s1 k (x / 256))) := by
  have hv : x % 256 < 256 := by omega
  have hy : x / 256 < 256 ^ k := by rw [Nat.pow_succ] at hx; omega
  have e := s1_step k (x % 256) (x / 256) hv
  rw [show x % 256 + 256 * (x / 256) = x from by omega] at e
  rw [e, s2_step _ _ _ (b1_lt _ hv)]
  have hl := s2_low k _ hy
  obtain ⟨h1, h2, h3⟩ := b2_le _ hv
  have h4 := byte3 _ hv
  generalize b2 (b1 (x % 256)) = f at *
  generalize s2 k (s1 k (x / 256)) = z at *
  generalize pc8 (x % 256) = p at *
  unfold s3
  rw [show (f + 256 * z) / 16 + (f + 256 * z) = (f / 16 + 16 * (z % 16) + f) + 256 * (z / 16 + z) from by omega]
  show _ &&& (15 + 256 * m3 k) = _
  rw [land_byte _ _ _ _ (by omega) (by decide), low4]
  omega
/-- The first three stages: a count a byte. -/
def cnts : Nat → Nat → Nat
  | 0, _ => 0
  | k + 1, x => pc8 (x % 256) + 256 * cnts k (x / 256)
theorem s3_cnts (k x : Nat) (hx : x < 256 ^ k) : s3 k (s2 k (s1 k x)) = cnts k x := by
  induction k generalizing x with
  | zero => simp [s3, m3, cnts]
  | succ k ih =>
    rw [s3_step k x hx, ih _ (by rw [Nat.pow_succ] at hx; omega)]
    rfl
theorem pc_low (x : Nat) : pc8 (x % 256) ≤ 8 := pc8_le _ (by omega)
/-- All stages. -/
theorem swar (x : Nat) (hx : x < 18446744073709551616) :
    let y := s3 8 (s2 8 (s1 8 x)); let a := y / 256 + y; let b := a / 65536 + a; let c := b / 4294967296 + b
    y ≤ 578721382704613384 ∧ a < 18446744073709551616 ∧ b < 18446744073709551616 ∧ c < 18446744073709551616 ∧ c % 128 = pcN 8 x ∧ pcN 8 x ≤ 64 := by
  intro y a b c
  have hy : y = cnts 8 x := s3_cnts 8 x (by simpa using hx)
  have h0 := pc_low x
  have h1 := pc_low (x / 256)
  have h2 := pc_low (x / 256 / 256)
  have h3 := pc_low (x / 256 / 256 / 256)
  have h4 := pc_low (x / 256 / 256 / 256 / 256)
  have h5 := pc_low (x / 256 / 256 / 256 / 256 / 256)
  have h6 := pc_low (x / 256 / 256 / 256 / 256 / 256 / 256)
  have h7 := pc_low (x / 256 / 256 / 256 / 256 / 256 / 256 / 256)
  have ha : a = y / 256 + y := rfl
  have hb : b = a / 65536 + a := rfl
  have hc : c = b / 4294967296 + b := rfl
  clear_value a b c y
  simp only [cnts] at hy
  simp only [pcN]
  generalize pc8 (x % 256) = p0 at *
  generalize pc8 (x / 256 % 256) = p1 at *
  generalize pc8 (x / 256 / 256 % 256) = p2 at *
  generalize pc8 (x / 256 / 256 / 256 % 256) = p3 at *
  generalize pc8 (x / 256 / 256 / 256 / 256 % 256) = p4 at *
  generalize pc8 (x / 256 / 256 / 256 / 256 / 256 % 256) = p5 at *
  generalize pc8 (x / 256 / 256 / 256 / 256 / 256 / 256 % 256) = p6 at *
  generalize pc8 (x / 256 / 256 / 256 / 256 / 256 / 256 / 256 % 256) = p7 at *
  clear hx
  have e1 : y / 256 = p1 + 256 * (p2 + 256 * (p3 + 256 * (p4 + 256 * (p5 + 256 * (p6 + 256 * p7))))) := by omega
  have e2 : a = (p0 + p1) + 256 * ((p1 + p2) + 256 * ((p2 + p3) + 256 * ((p3 + p4) + 256 * ((p4 + p5) + 256 * ((p5 + p6) + 256 * ((p6 + p7) + 256 * p7)))))) := by omega
  have e3 : a / 65536 = (p2 + p3) + 256 * ((p3 + p4) + 256 * ((p4 + p5) + 256 * ((p5 + p6) + 256 * ((p6 + p7) + 256 * p7)))) := by omega
  have e4 : b = (p0 + p1 + p2 + p3) + 256 * ((p1 + p2 + p3 + p4) + 256 * ((p2 + p3 + p4 + p5) + 256 * ((p3 + p4 + p5 + p6) + 256 * ((p4 + p5 + p6 + p7) + 256 * ((p5 + p6 + p7) + 256 * ((p6 + p7) + 256 * p7)))))) := by omega
  have e5 : b / 4294967296 = (p4 + p5 + p6 + p7) + 256 * ((p5 + p6 + p7) + 256 * ((p6 + p7) + 256 * p7)) := by omega
  refine ⟨by omega, by omega, by omega, by omega, ?_, by omega⟩
  omega
theorem countP_range_add (q : Nat → Bool) (a b : Nat) : (List.range (a + b)).countP q = (List.range a).countP q + (List.range b).countP fun i => q (a + i) := by
  rw [List.range_add, List.countP_append, List.countP_map]
  rfl
theorem pcN_count (k x : Nat) : pcN k x = (List.range (8 * k)).countP fun j => x.testBit j := by
  induction k generalizing x with
  | zero => rfl
  | succ k ih =>
    show pc8 (x % 256) + pcN k (x / 256) = _
    rw [ih, show 8 * (k + 1) = 8 + 8 * k from by omega, countP_range_add]
    congr 1
    · unfold pc8
      apply List.countP_congr
      intro j hj
      simp only [List.mem_range] at hj
      rw [show 256 = 2 ^ 8 from rfl, Nat.testBit_mod_two_pow]
      simp [hj]
    · apply List.countP_congr
      intro j hj
      rw [show 256 = 2 ^ 8 from rfl, Nat.testBit_div_two_pow, Nat.add_comm]
theorem pcN_natOf (q : Nat → Bool) : pcN 8 (natOf q 64) = (List.range 64).countP q := by
  rw [pcN_count]
  apply List.countP_congr
  intro j hj
  simp only [List.mem_range] at hj
  rw [natOf_test]
  simp; omega
end Go.Proofs.YtpcikbloflpahaaDoor
namespace Go.Proofs.YtpcikbloflpahaaDoor
set_option linter.unusedVariables false
set_option linter.unusedSimpArgs false
open Go.RowKit Go.Shelf Go.Maps

theorem and64 (a b : Nat) (ha : a < 18446744073709551616) (hb : b < 18446744073709551616) (A : Int) (hA : A = (a : Int)) : bits BinOp.and IntKind.u64 A (b : Int) = ((a &&& b : Nat) : Int) := by
  subst hA; exact bits_and_u64_nat a b ha hb
theorem m1_8 : m1 8 = 6148914691236517205 := by decide +kernel
theorem m2_8 : m2 8 = 3689348814741910323 := by decide +kernel
theorem m3_8 : m3 8 = 1085102592571150095 := by decide +kernel
theorem wraps_i64 (n : Int) (h0 : 0 ≤ n) (h1 : n < 2 ^ 62) : IntKind.i64.wrap n = n := IntWalk.i64_in _ (by omega)
theorem and127 (A : Int) (h0 : 0 ≤ A) (h1 : A < 4611686018427387904) : bits BinOp.and IntKind.i64 A 127 = A % 128 := bits_mask .i64 62 (by decide) wraps_i64 7 (by decide) A h0 h1
set_option maxHeartbeats 1000000 in
set_option maxRecDepth 1000000 in
theorem onesg_calls (x : Nat) (hx : x < 18446744073709551616) (w : World) : Calls Tryd.prog 50 #[.int .u64 (x : Int)] w fun e w' => e = .returned (.int .i64 ((pcN 8 x : Nat) : Int)) ∧ w' = w := by
  have hs := swar x hx
  unfold s1 s2 s3 at hs
  rw [m1_8, m2_8, m3_8] at hs
  dsimp only at hs
  have b0 : bits BinOp.and IntKind.u64 ((x : Int) / 2) 6148914691236517205 = ((x / 2 &&& 6148914691236517205 : Nat) : Int) := and64 (x / 2) 6148914691236517205 (by omega) (by decide) _ (by omega)
  have b1 : bits BinOp.and IntKind.u64 (x : Int) 6148914691236517205 = ((x &&& 6148914691236517205 : Nat) : Int) := and64 x 6148914691236517205 hx (by decide) _ rfl
  have p1 : x / 2 &&& 6148914691236517205 ≤ 6148914691236517205 := Nat.and_le_right
  have p2 : x &&& 6148914691236517205 ≤ 6148914691236517205 := Nat.and_le_right
  generalize (x / 2 &&& 6148914691236517205) = a1 at *
  generalize (x &&& 6148914691236517205) = a2 at *
  have b2 : bits BinOp.and IntKind.u64 (((a1 : Int) + (a2 : Int)) / 4) 3689348814741910323 = (((a1 + a2) / 4 &&& 3689348814741910323 : Nat) : Int) := and64 ((a1 + a2) / 4) 3689348814741910323 (by omega) (by decide) _ (by omega)
  have b3 : bits BinOp.and IntKind.u64 ((a1 : Int) + (a2 : Int)) 3689348814741910323 = ((a1 + a2 &&& 3689348814741910323 : Nat) : Int) := and64 (a1 + a2) 3689348814741910323 (by omega) (by decide) _ (by omega)
  have p3 : (a1 + a2) / 4 &&& 3689348814741910323 ≤ 3689348814741910323 := Nat.and_le_right
  have p4 : a1 + a2 &&& 3689348814741910323 ≤ 3689348814741910323 := Nat.and_le_right
  generalize ((a1 + a2) / 4 &&& 3689348814741910323) = c1 at *
  generalize (a1 + a2 &&& 3689348814741910323) = c2 at *
  have b4 : bits BinOp.and IntKind.u64 (((c1 : Int) + (c2 : Int)) / 16 + ((c1 : Int) + (c2 : Int))) 1085102592571150095 = (((c1 + c2) / 16 + (c1 + c2) &&& 1085102592571150095 : Nat) : Int) := and64 ((c1 + c2) / 16 + (c1 + c2)) 1085102592571150095 (by omega) (by decide) _ (by omega)
  generalize ((c1 + c2) / 16 + (c1 + c2) &&& 1085102592571150095) = d at *
  obtain ⟨q0, q1, q2, q3, q4, q5⟩ := hs
  generalize pcN 8 x = R at *
  have wa : IntKind.u64.wrap ((d : Int) + (d : Int) / 256) = ((d / 256 + d : Nat) : Int) := by rw [IntKind.wrap_u64]; omega
  generalize ha : d / 256 + d = a at *
  have wb : IntKind.u64.wrap ((a : Int) + (a : Int) / 65536) = ((a / 65536 + a : Nat) : Int) := by rw [IntKind.wrap_u64]; omega
  generalize hb : a / 65536 + a = b at *
  have wc : IntKind.u64.wrap ((b : Int) + (b : Int) / 4294967296) = ((b / 4294967296 + b : Nat) : Int) := by rw [IntKind.wrap_u64]; omega
  generalize hc : b / 4294967296 + b = c at *
  have hcl : c < 4611686018427387904 := by omega
  have b9 : bits BinOp.and IntKind.i64 (c : Int) 127 = (R : Int) := by rw [and127 _ (by omega) (by omega)]; omega
  have wd : IntKind.i64.wrap (c : Int) = (c : Int) := IntWalk.i64_in _ (by omega)
  clear ha hb hc q4 q5
  go_enter Tryd.func50, Tryd.ntmps50
  go_wp2
  go_ret
  exact ⟨rfl, rfl⟩
/-- The library's table, whole. -/
def Tab64 (w : World) : Prop := ∀ j, j < 64 → w.cell? ⟨0, j, none⟩ = some (.int .u8 ((Lib.deBruijn64tab.getD j 0 : Nat) : Int))
theorem Tab64.fr {S : Nat → Prop} {w w' : World} (h : Tab64 w) (hF : Fr S w w') (hn : ¬ S 0) : Tab64 w' := fun j hj => hF.cell (h j hj) hn
set_option maxHeartbeats 1000000 in
set_option maxRecDepth 1000000 in
theorem tzg_core (x k idx : Nat) (w : World) (hx0 : ((x : Int) == 0) = false)
    (key : IntKind.u64.wrap (bits BinOp.and IntKind.u64 (x : Int) (IntKind.u64.wrap (-(x : Int))) * 285870213051353865) / 288230376151711744 = (idx : Int))
    (hi : idx < 64) (hk : k < 64) (hcell : w.cell? ⟨0, idx, none⟩ = some (.int .u8 k)) :
    Calls Tryd.prog 88 #[.int .u64 x] w fun e w' => e = .returned (.int .i64 k) ∧ w' = w := by
  go_enter Tryd.func88, Tryd.ntmps88
  go_wp2_with (simp only [key])
  go_ret
  exact ⟨rfl, rfl⟩
/-- math/bits.TrailingZeros64 at every word that isn't nought. -/
theorem tzg_calls (x : Nat) (hx : x < 18446744073709551616) (hx0 : x ≠ 0) {w : World} (hT : Tab64 w) :
    Calls Tryd.prog 88 #[.int .u64 x] w fun e w' => e = .returned (.int .i64 ((Lib.ctz 64 x : Nat) : Int)) ∧ w' = w := by
  obtain ⟨hlow, hk⟩ := Lib.lowest_bit 64 x hx0 hx
  obtain ⟨hi, htab⟩ := Lib.deBruijn64_at _ hk
  have hcell := hT _ hi
  rw [htab] at hcell
  exact tzg_core x _ _ w (by simp; omega) (tz64_key x _ hx hx0 hlow) hi hk hcell
end Go.Proofs.YtpcikbloflpahaaDoor
namespace Go.Proofs.YtpcikbloflpahaaDoor
set_option linter.unusedVariables false
set_option linter.unusedSimpArgs false
open Go.RowKit Go.Shelf Go.Maps

def freeQ (c : List Int) (n : Nat) : Bool := decide (2 ≤ n) && decide (n < c.length) && decide (c.getD n 0 = 0)
def wdF (c : List Int) (k : Nat) : Nat := natOf (fun j => freeQ c (64 * k + j)) 64
def u64s (l : List Nat) : List Value := l.map fun (x : Nat) => Value.int .u64 (x : Int)
theorem u64s_len (l : List Nat) : (u64s l).length = l.length := by simp [u64s]
theorem u64s_set (l : List Nat) (i x : Nat) : (u64s l).set i (.int .u64 (x : Int)) = u64s (l.set i x) := by simp [u64s, List.map_set]
def wdsF (c : List Int) : List Nat := (List.range (c.length / 64 + 1)).map (wdF c)
theorem wdsF_len (c : List Int) : (wdsF c).length = c.length / 64 + 1 := by simp [wdsF]
theorem u64s_get (l : List Nat) (i : Nat) (h : i < l.length) : (u64s l)[i]? = some (.int .u64 ((l[i] : Nat) : Int)) := by simp [u64s, h]
theorem wds_get (c : List Int) (k : Nat) (h : k < c.length / 64 + 1) : (u64s (wdsF c))[k]? = some (.int .u64 ((wdF c k : Nat) : Int)) := by
  rw [u64s_get _ _ (by rw [wdsF_len]; exact h)]
  simp [wdsF]
theorem ints7_get (l : List Int) (i : Nat) (h : i < l.length) : (ints7 l)[i]? = some (.int .i64 (l.getD i 0)) := by
  simp [ints7, h]
theorem ints7_set (l : List Int) (i : Nat) (x : Int) : (ints7 l).set i (.int .i64 x) = ints7 (l.set i x) := by simp [ints7, List.map_set]
/-- A map of any disk's sectors. -/
structure SpG (w : World) (mb cb fb : Nat) (c : List Int) : Prop where
  box : w.heap[mb]? = some (.cells [.slice (some ⟨cb, 0, none⟩) c.length c.length, .slice (some ⟨fb, 0, none⟩) (c.length / 64 + 1) (c.length / 64 + 1), .bool true].toArray 114 (0, 0))
  cnt : w.heap[cb]? = some (.cells (ints7 c).toArray 3 (0, 0))
  fre : w.heap[fb]? = some (.cells (u64s (wdsF c)).toArray 69 (0, 0))
  len : c.length ≤ 2000
  rng : ∀ x ∈ c, 0 ≤ x ∧ x ≤ 1000000
def SpB (mb cb fb : Nat) : Nat → Prop := fun k => k = mb ∨ k = cb ∨ k = fb
theorem SpG.fr {S : Nat → Prop} {w w' : World} {mb cb fb : Nat} {c : List Int} (h : SpG w mb cb fb c) (hF : Fr S w w') (hn : ∀ k, SpB mb cb fb k → ¬ S k) : SpG w' mb cb fb c :=
  ⟨hF.heap h.box (hn _ (.inl rfl)), hF.heap h.cnt (hn _ (.inr (.inl rfl))), hF.heap h.fre (hn _ (.inr (.inr rfl))), h.len, h.rng⟩
theorem SpG.fr0 {w w' : World} {mb cb fb : Nat} {c : List Int} (h : SpG w mb cb fb c) (hF : Fr No w w') : SpG w' mb cb fb c := h.fr hF (fun _ _ h => h)
theorem SpG.ne {w : World} {mb cb fb : Nat} {c : List Int} (h : SpG w mb cb fb c) : mb ≠ cb ∧ mb ≠ fb ∧ cb ≠ fb :=
  ⟨fun e => by have a := h.box; have b := h.cnt; rw [e, b] at a; injection a with a; injection a with _ a; exact absurd a (by decide),
   fun e => by have a := h.box; have b := h.fre; rw [e, b] at a; injection a with a; injection a with _ a; exact absurd a (by decide),
   fun e => by have a := h.cnt; have b := h.fre; rw [e, b] at a; injection a with a; injection a with _ a; exact absurd a (by decide)⟩
theorem SpG.low {w : World} {mb cb fb : Nat} {c : List Int} (h : SpG w mb cb fb c) : ∀ k, SpB mb cb fb k → k < w.heap.size := by
  rintro k (rfl | rfl | rfl)
  · exact heap_lt7 h.box
  · exact heap_lt7 h.cnt
  · exact heap_lt7 h.fre
theorem set_getD7 (l : List Int) (i j : Nat) (x : Int) (hi : i < l.length) : (l.set i x).getD j 0 = if i = j then x else l.getD j 0 := by
  rw [List.getD_eq_getElem?_getD, List.getD_eq_getElem?_getD, List.getElem?_set]
  by_cases e : i = j
  · rw [if_pos e, if_pos e, if_pos hi]; rfl
  · rw [if_neg e, if_neg e]
/-- The words behind one more hold. -/
theorem wds_hold (c : List Int) (n : Nat) (hn : n < c.length) (x : Int) (hx : x ≠ 0) : wdsF (c.set n x) = (wdsF c).set (n / 64) (natOf (fun j => freeQ c (64 * (n / 64) + j) && !decide (j = n % 64)) 64) := by
  apply List.ext_getElem (by simp [wdsF])
  intro k h1 h2
  rw [List.getElem_set]
  simp only [wdsF, List.getElem_map, List.getElem_range]
  have hf : ∀ m, freeQ (c.set n x) m = (freeQ c m && !decide (m = n)) := fun m => by
    unfold freeQ
    rw [List.length_set, set_getD7 _ _ _ _ hn]
    by_cases e : n = m
    · subst e; simp [hx]
    · have e2 : ¬ m = n := fun h => e h.symm
      simp [e, e2]
  unfold wdF
  by_cases e : n / 64 = k
  · subst e
    rw [if_pos rfl]
    apply natOf_congr
    intro j hj
    rw [hf]
    congr 2
    rw [decide_eq_decide]
    omega
  · rw [if_neg e]
    apply natOf_congr
    intro j hj
    rw [hf]
    have : ¬ 64 * k + j = n := by omega
    simp [this]
set_option maxHeartbeats 4000000 in
set_option maxRecDepth 1000000 in
theorem change1_calls {w : World} {mb cb fb : Nat} {c : List Int} (h : SpG w mb cb fb c) (n : Nat) (h2 : 2 ≤ n) (hn : n < c.length) (hx : c.getD n 0 < 1000000) :
    Calls Tryd.prog 65 #[.pointer (some ⟨mb, 0, none⟩), .int .i64 (n : Int), .int .i64 1] w fun e w' => e = .returned (.tuple #[]) ∧ SpG w' mb cb fb (c.set n (c.getD n 0 + 1)) ∧ Fr (fun k => k = cb ∨ k = fb) w w' := by
  obtain ⟨n1, n2, n3⟩ := h.ne
  have H := Lib.hid h
  have hlen := h.len
  have k0 : w.cell? ⟨mb, 0, none⟩ = some (.slice (some ⟨cb, 0, none⟩) c.length c.length) := heap_cell (o := 0) h.box rfl
  have k1 : w.cell? ⟨mb, 1, none⟩ = some (.slice (some ⟨fb, 0, none⟩) (c.length / 64 + 1) (c.length / 64 + 1)) := heap_cell (o := 1) h.box rfl
  have kc : w.cell? ⟨cb, n, none⟩ = some (.int .i64 (c.getD n 0)) := heap_cell h.cnt (by rw [List.getElem?_toArray]; exact ints7_get c n hn)
  have fc := heap_frozen (o := n) h.cnt
  have kf : w.cell? ⟨fb, n / 64, none⟩ = some (.int .u64 ((wdF c (n / 64) : Nat) : Int)) := heap_cell h.fre (by rw [List.getElem?_toArray]; exact wds_get c _ (by omega))
  have ff := heap_frozen (o := n / 64) h.fre
  have hnn : 0 ≤ c.getD n 0 := by
    rw [List.getD_eq_getElem?_getD, List.getElem?_eq_getElem hn]
    exact (h.rng _ (List.getElem_mem hn)).1
  have hq : IntKind.i64.wrap ((n : Int) / 64) = ((n / 64 : Nat) : Int) := by rw [IntWalk.i64_in _ (by omega)]; omega
  have hr : IntKind.i64.wrap ((n : Int) % 64) = ((n % 64 : Nat) : Int) := by rw [IntWalk.i64_in _ (by omega)]; omega
  have han : bits BinOp.andNot .u64 ((wdF c (n / 64) : Nat) : Int) ((2 ^ (n % 64) : Nat) : Int) = _ := andNot_bit (fun j => freeQ c (64 * (n / 64) + j)) (j := n % 64) (by omega)
  have hsh : IntKind.u64.wrap ((2 : Int) ^ (n % 64)) = ((2 ^ (n % 64) : Nat) : Int) := by
    have h2 := two_pow64 (j := n % 64) (by omega)
    rw [show ((2 : Int) ^ (n % 64)) = ((2 ^ (n % 64) : Nat) : Int) from by simp, IntKind.wrap_u64]
    generalize 2 ^ (n % 64) = P at h2 ⊢
    omega
  generalize ((2 ^ (n % 64) : Nat) : Int) = Bt at *
  have HW := Lib.hid (wds_hold c n hn (c.getD n 0 + 1) (by omega))
  generalize natOf (fun j => freeQ c (64 * (n / 64) + j) && !decide (j = n % 64)) 64 = W1 at *
  generalize wdF c (n / 64) = W0 at *
  obtain ⟨x, hcx⟩ : ∃ x, c.getD n 0 = x := ⟨_, rfl⟩
  rw [hcx] at kc hx hnn HW ⊢
  have HX := Lib.hid hcx
  have hw1 : IntKind.i64.wrap (x + 1) = x + 1 := IntWalk.i64_in _ (by omega)
  have hx0 : (x + 1 == 0) = false := by simp; omega
  clear h hcx
  go_enter Tryd.func65, Tryd.ntmps65
  go_wp2_with fail
  go_end0
  refine ⟨rfl, ⟨?_, ?_, ?_, by rw [List.length_set]; exact hlen, ?_⟩, ?_⟩
  · rw [List.length_set]
    exact (((Fr.refl (fun k => k = cb ∨ k = fb) w).setCell (p := ⟨cb, _, none⟩) (fun _ => .inl rfl) _).setCell (p := ⟨fb, _, none⟩) (fun _ => .inr rfl) _).heap H.out.box (fun e => e.elim n1 n2)
  · rw [← ints7_set]
    exact ((Fr.refl (fun k => k = fb) _).setCell (p := ⟨fb, _, none⟩) (fun _ => rfl) _).heap (heap_setAt7 H.out.cnt _ _) n3
  · rw [HW.out, ← u64s_set]
    exact heap_setAt7 (((Fr.refl (fun k => k = cb) w).setCell (p := ⟨cb, _, none⟩) (fun _ => rfl) _).heap H.out.fre (fun e => n3 e.symm)) _ _
  · intro y hy
    rcases List.mem_or_eq_of_mem_set hy with h | rfl
    · exact H.out.rng y h
    · omega
  · exact ((Fr.refl (fun k => k = cb ∨ k = fb) w).setCell (p := ⟨cb, _, none⟩) (fun _ => .inl rfl) _).setCell (p := ⟨fb, _, none⟩) (fun _ => .inr rfl) _
set_option maxHeartbeats 1000000 in
set_option maxRecDepth 1000000 in
theorem shas_calls {w : World} {mb cb fb : Nat} {c : List Int} (h : SpG w mb cb fb c) (n : Int) :
    Calls Tryd.prog 52 #[.pointer (some ⟨mb, 0, none⟩), .int .i64 n] w fun e w' => e = .returned (.bool (decide (2 ≤ n ∧ n < (c.length : Int)))) ∧ w' = w := by
  have k0 : w.cell? ⟨mb, 0, none⟩ = some (.slice (some ⟨cb, 0, none⟩) c.length c.length) := heap_cell (o := 0) h.box rfl
  clear h
  obtain ⟨r, hr⟩ : ∃ r, decide (2 ≤ n ∧ n < (c.length : Int)) = r := ⟨_, rfl⟩
  rw [hr]
  by_cases h1 : 2 ≤ n
  · have d1 : decide ((2 : Int) ≤ n) = true := decide_eq_true h1
    have hr2 : decide (n < (c.length : Int)) = r := by rw [← hr]; simp [h1]
    clear hr h1
    go_enter Tryd.func52, Tryd.ntmps52
    go_wp2_with fail
    go_ret
    exact ⟨rfl, rfl⟩
  · have d1 : decide ((2 : Int) ≤ n) = false := decide_eq_false h1
    obtain rfl : r = false := by rw [← hr]; simp [h1]
    clear hr h1
    go_enter Tryd.func52, Tryd.ntmps52
    go_wp2_with fail
    go_ret
    exact ⟨rfl, rfl⟩
/-- One held more often. -/
def holdC (c : List Int) (n : Int) : List Int := if 2 ≤ n ∧ n < (c.length : Int) then c.set n.toNat (c.getD n.toNat 0 + 1) else c
theorem holdC_len (c : List Int) (n : Int) : (holdC c n).length = c.length := by unfold holdC; split <;> simp
set_option maxHeartbeats 1000000 in
set_option maxRecDepth 1000000 in
theorem shold_calls {w : World} {mb cb fb : Nat} {c : List Int} (h : SpG w mb cb fb c) (n : Int) (hx : ∀ x ∈ c, x < 1000000) :
    Calls Tryd.prog 44 #[.pointer (some ⟨mb, 0, none⟩), .int .i64 n] w fun e w' => (∃ r : Int, e = .returned (.int .i64 r)) ∧ SpG w' mb cb fb (holdC c n) ∧ Fr (fun k => k = cb ∨ k = fb) w w' := by
  have HH := Lib.hid (shas_calls h n)
  by_cases hin : 2 ≤ n ∧ n < (c.length : Int)
  · obtain ⟨m, rfl⟩ : ∃ m : Nat, n = (m : Int) := ⟨n.toNat, by omega⟩
    have hm : m < c.length := by omega
    have HC := Lib.hid (change1_calls h m (by omega) hm (by rw [List.getD_eq_getElem?_getD, List.getElem?_eq_getElem hm]; exact hx _ (List.getElem_mem hm)))
    rw [show holdC c (m : Int) = c.set m (c.getD m 0 + 1) from by unfold holdC; rw [if_pos hin, Int.toNat_natCast]]
    rw [decide_eq_true hin] at HH
    clear h hx hin
    generalize c.set m (c.getD m 0 + 1) = c2 at *
    go_enter Tryd.func44, Tryd.ntmps44
    go_wp2_with fail
    refine HH.out.mono ?_
    rintro e w1 ⟨rfl, rfl⟩
    go_wp2_with fail
    refine HC.out.mono ?_
    rintro e w2 ⟨rfl, hp⟩
    have HP := Lib.hid hp
    clear hp
    go_wp2_with fail
    go_ret
    exact ⟨⟨0, rfl⟩, HP.out⟩
  · rw [show holdC c n = c from if_neg hin]
    rw [decide_eq_false hin] at HH
    have H := Lib.hid h
    clear h hx hin
    go_enter Tryd.func44, Tryd.ntmps44
    go_wp2_with fail
    refine HH.out.mono ?_
    rintro e w1 ⟨rfl, rfl⟩
    go_wp2_with fail
    go_ret
    exact ⟨⟨1, rfl⟩, H.out, Fr.refl _ _⟩
set_option maxHeartbeats 1000000 in
set_option maxRecDepth 1000000 in
theorem scount_calls {w : World} {mb cb fb : Nat} {c : List Int} (h : SpG w mb cb fb c) (n : Nat) (h2 : 2 ≤ n) (hn : n < c.length) :
    Calls Tryd.prog 27 #[.pointer (some ⟨mb, 0, none⟩), .int .i64 (n : Int)] w fun e w' => e = .returned (.int .i64 (c.getD n 0)) ∧ w' = w := by
  have HH := Lib.hid (shas_calls h (n : Int))
  rw [decide_eq_true (show 2 ≤ (n : Int) ∧ (n : Int) < (c.length : Int) by omega)] at HH
  have k0 : w.cell? ⟨mb, 0, none⟩ = some (.slice (some ⟨cb, 0, none⟩) c.length c.length) := heap_cell (o := 0) h.box rfl
  have kc : w.cell? ⟨cb, n, none⟩ = some (.int .i64 (c.getD n 0)) := heap_cell h.cnt (by rw [List.getElem?_toArray]; exact ints7_get c n hn)
  generalize c.getD n 0 = x at *
  clear h
  go_enter Tryd.func27, Tryd.ntmps27
  go_wp2_with fail
  refine HH.out.mono ?_
  rintro e w1 ⟨rfl, rfl⟩
  go_wp2_with fail
  go_ret
  exact ⟨rfl, rfl⟩
/-- The lowest that is free. -/
def takeC (c : List Int) : Option Nat := (List.range c.length).find? (freeQ c)
theorem takeC_some {c : List Int} {n : Nat} (h : takeC c = some n) : freeQ c n = true ∧ n < c.length ∧ ∀ m, m < n → freeQ c m = false := by
  unfold takeC at h
  rw [List.find?_range_eq_some] at h
  obtain ⟨h1, h2, h3⟩ := h
  exact ⟨h1, by simpa using h2, fun m hm => by simpa using h3 m hm⟩
theorem freeQ_far {c : List Int} {n : Nat} (h : c.length ≤ n) : freeQ c n = false := by
  unfold freeQ
  rw [decide_eq_false (show ¬ n < c.length by omega)]
  simp
theorem takeC_none {c : List Int} (h : takeC c = none) (n : Nat) : freeQ c n = false := by
  by_cases hn : n < c.length
  · unfold takeC at h
    rw [List.find?_eq_none] at h
    have := h n (by simpa using hn)
    simpa using this
  · exact freeQ_far (by omega)
theorem freeQ_iff {c : List Int} {n : Nat} : freeQ c n = true ↔ 2 ≤ n ∧ n < c.length ∧ c.getD n 0 = 0 := by
  unfold freeQ
  simp only [Bool.and_eq_true, decide_eq_true_iff]
  exact ⟨fun h => ⟨h.1.1, h.1.2, h.2⟩, fun h => ⟨⟨h.1, h.2.1⟩, h.2.2⟩⟩
set_option maxHeartbeats 4000000 in
set_option maxRecDepth 1000000 in
theorem stakeg_calls {w : World} {mb cb fb : Nat} {c : List Int} (h : SpG w mb cb fb c) (hT : Tab64 w) (n : Nat) (ht : takeC c = some n) :
    Calls Tryd.prog 77 #[.pointer (some ⟨mb, 0, none⟩)] w fun e w' => e = .returned (.tuple #[.int .i64 (n : Int), .int .i64 0]) ∧ SpG w' mb cb fb (c.set n 1) ∧ Fr (fun k => k = cb ∨ k = fb) w w' := by
  obtain ⟨hf, hn, hlow⟩ := takeC_some ht
  obtain ⟨h2, -, h0⟩ := freeQ_iff.1 hf
  have hlen := h.len
  have k1 : w.cell? ⟨mb, 1, none⟩ = some (.slice (some ⟨fb, 0, none⟩) (c.length / 64 + 1) (c.length / 64 + 1)) := heap_cell (o := 1) h.box rfl
  have HK := Lib.hid (fun j (hj : j < c.length / 64 + 1) => (heap_cell h.fre (by rw [List.getElem?_toArray]; exact wds_get c j hj) : w.cell? ⟨fb, j, none⟩ = some (.int .u64 ((wdF c j : Nat) : Int))))
  have HZ0 := Lib.hid (fun j (hj : j < n / 64) => (show wdF c j = 0 from natOf_zero.2 fun i hi => hlow _ (by omega)))
  have hct : Lib.ctz 64 (wdF c (n / 64)) = n % 64 := ctz_low (by omega) (by rw [show 64 * (n / 64) + n % 64 = n from by omega]; exact hf) (fun i hi => hlow _ (by omega))
  have hnz : wdF c (n / 64) ≠ 0 := fun e => by
    have := natOf_zero.1 e (n % 64) (by omega)
    rw [show 64 * (n / 64) + n % 64 = n from by omega, hf] at this
    cases this
  have hz := tzg_calls (wdF c (n / 64)) (natOf64 _) hnz hT
  rw [hct] at hz
  have HZ := Lib.hid hz
  have hc := change1_calls h n h2 hn (by rw [h0]; decide)
  rw [h0] at hc
  have HC := Lib.hid hc
  have HNZ := Lib.hid hnz
  have hab : n = 64 * (n / 64) + n % 64 ∧ n % 64 < 64 ∧ n / 64 < c.length / 64 + 1 ∧ n < 2000 := by omega
  clear h hT ht hf h0 hz hc hct hnz hlow
  rw [show (0 : Int) + 1 = 1 from rfl] at HC
  generalize c.set n 1 = c1 at *
  generalize c.length / 64 + 1 = M at *
  generalize n / 64 = a at *
  generalize n % 64 = b at *
  have hw : IntKind.i64.wrap (64 * (a : Int)) = 64 * (a : Int) := IntWalk.i64_in _ (by omega)
  have hw2 : IntKind.i64.wrap (64 * (a : Int) + (b : Int)) = (n : Int) := by rw [IntWalk.i64_in _ (by omega)]; omega
  have hd : decide ((n : Int) < 0) = false := decide_eq_false (by omega)
  have HNL := Lib.hid hab.2.2.1
  have ha2 : a < 2000 := by omega
  clear hab
  go_enter Tryd.func77, Tryd.ntmps77
  go_wp2_with fail
  refine wp_scope_straight ?_
  go_wp2_with fail
  refine wp_label ?_
  go_wp2_with fail
  go_loopw [14] (fun i wr => ∃ j : Nat, j ≤ a ∧ i = .int .i64 (j : Int) ∧ wr = w) (fun i _ => a - (intOf i).toNat)
  case atStart => exact ⟨0, by omega, rfl, rfl⟩
  case round =>
    obtain ⟨j, hj, rfl, rfl⟩ := hrel
    have dj : decide ((j : Int) < (M : Int)) = true := decide_eq_true (by have := HNL.out; omega)
    have djn : j < M := by have := HNL.out; omega
    have kj := HK.out j (by have := HNL.out; omega)
    by_cases hlt : j < a
    · have hz0 := HZ0.out j hlt
      rw [hz0, show ((0 : Nat) : Int) = 0 from rfl] at kj
      clear hz0
      go_wp2_with fail
      refine ⟨⟨j + 1, by omega, by go_num, trivial⟩, by simp [intOf]; omega⟩
    · obtain rfl : j = a := by omega
      have hx0 : (((wdF c j : Nat) : Int) == 0) = false := by have := HNZ.out; simp; omega
      generalize wdF c j = W0 at *
      clear hlt HZ0
      go_wp2_with fail
      refine HZ.out.mono ?_
      rintro e w1 ⟨rfl, rfl⟩
      go_wp2_with fail
      refine HC.out.mono ?_
      rintro e w2 ⟨rfl, hp⟩
      have HP := Lib.hid hp
      clear hp
      go_wp2_with fail
      dsimp only [Exit.noGoto]
      go_ret2
      exact ⟨rfl, HP.out⟩
set_option maxHeartbeats 2000000 in
set_option maxRecDepth 1000000 in
theorem stakeg_none {w : World} {mb cb fb : Nat} {c : List Int} (h : SpG w mb cb fb c) (ht : takeC c = none) :
    Calls Tryd.prog 77 #[.pointer (some ⟨mb, 0, none⟩)] w fun e w' => e = .returned (.tuple #[.int .i64 0, .int .i64 50]) ∧ w' = w := by
  have k1 : w.cell? ⟨mb, 1, none⟩ = some (.slice (some ⟨fb, 0, none⟩) (c.length / 64 + 1) (c.length / 64 + 1)) := heap_cell (o := 1) h.box rfl
  have HK := Lib.hid (fun j (hj : j < c.length / 64 + 1) => (show w.cell? ⟨fb, j, none⟩ = some (.int .u64 0) from by
    have e : wdF c j = 0 := natOf_zero.2 fun i _ => takeC_none ht _
    have := heap_cell h.fre (o := j) (by rw [List.getElem?_toArray]; exact wds_get c j hj)
    rw [e] at this
    exact this))
  have hlen := h.len
  have hM : c.length / 64 + 1 < 2000 := by omega
  clear h ht
  generalize c.length / 64 + 1 = M at *
  go_enter Tryd.func77, Tryd.ntmps77
  go_wp2_with fail
  refine wp_scope_straight ?_
  go_wp2_with fail
  refine wp_label ?_
  go_wp2_with fail
  go_loopw [4, 14] (fun f i wr => ∃ j : Nat, j ≤ M ∧ f = .int .i64 (-1) ∧ i = .int .i64 (j : Int) ∧ wr = w) (fun _ i _ => M - (intOf i).toNat)
  case atStart => exact ⟨0, by omega, rfl, rfl, rfl⟩
  case round =>
    obtain ⟨j, hj, rfl, rfl, rfl⟩ := hrel
    by_cases hlt : j < M
    · have dj : decide ((j : Int) < (M : Int)) = true := decide_eq_true (by omega)
      have kj := HK.out j hlt
      go_wp2_with fail
      refine ⟨⟨j + 1, by omega, rfl, by go_num, trivial⟩, by simp [intOf]; omega⟩
    · obtain rfl : j = M := by omega
      have dj : decide ((j : Int) < (j : Int)) = false := decide_eq_false (by omega)
      go_wp2_with fail
      dsimp only [Exit.noGoto]
      go_ret2
      exact ⟨rfl, rfl⟩
end Go.Proofs.YtpcikbloflpahaaDoor
namespace Go.Proofs.YtpcikbloflpahaaDoor
set_option linter.unusedVariables false
set_option linter.unusedSimpArgs false
open Go.RowKit Go.Shelf Go.Maps

/-- How many are free. -/
def freeN (c : List Int) : Nat := (List.range c.length).countP (freeQ c)
theorem freeN_words (c : List Int) : (List.range (64 * (c.length / 64 + 1))).countP (freeQ c) = freeN c := by
  obtain ⟨d, hd⟩ : ∃ d, 64 * (c.length / 64 + 1) = c.length + d := ⟨64 * (c.length / 64 + 1) - c.length, by omega⟩
  rw [hd, countP_range_add]
  have : (List.range d).countP (fun i => freeQ c (c.length + i)) = 0 := by
    rw [List.countP_eq_zero]
    intro i _
    rw [freeQ_far (by omega)]
    simp
  rw [this]; rfl
theorem freeN_le (c : List Int) : freeN c ≤ c.length := by
  unfold freeN
  have := List.countP_le_length (p := freeQ c) (l := List.range c.length)
  simpa using this
set_option maxHeartbeats 2000000 in
set_option maxRecDepth 1000000 in
theorem sfreeg_calls {w : World} {mb cb fb : Nat} {c : List Int} (h : SpG w mb cb fb c) :
    Calls Tryd.prog 24 #[.pointer (some ⟨mb, 0, none⟩)] w fun e w' => e = .returned (.int .i64 ((freeN c : Nat) : Int)) ∧ w' = w := by
  have k1 : w.cell? ⟨mb, 1, none⟩ = some (.slice (some ⟨fb, 0, none⟩) (c.length / 64 + 1) (c.length / 64 + 1)) := heap_cell (o := 1) h.box rfl
  have HK := Lib.hid (fun j (hj : j < c.length / 64 + 1) => (show w.cell? ⟨fb, j, none⟩ = some (.int .u64 ((wdF c j : Nat) : Int)) from heap_cell h.fre (by rw [List.getElem?_toArray]; exact wds_get c j hj)))
  have hlen := h.len
  have hM : c.length / 64 + 1 < 2000 := by omega
  have HE := Lib.hid (freeN_words c)
  have HS := Lib.hid (fun j => (show (List.range (64 * (j + 1))).countP (freeQ c) = (List.range (64 * j)).countP (freeQ c) + pcN 8 (wdF c j) from by
    rw [show 64 * (j + 1) = 64 * j + 64 from by omega, countP_range_add]
    unfold wdF
    rw [pcN_natOf]))
  have HB := Lib.hid (fun j => (List.countP_le_length (p := freeQ c) (l := List.range (64 * j))))
  have HO := Lib.hid (fun j w1 => onesg_calls (wdF c j) (natOf64 _) w1)
  obtain ⟨R, hR⟩ : ∃ R, freeN c = R := ⟨_, rfl⟩
  rw [hR] at HE ⊢
  clear h hR
  generalize c.length / 64 + 1 = M at *
  go_enter Tryd.func24, Tryd.ntmps24
  go_wp2_with fail
  go_loopw [3, 13] (fun a i wr => ∃ j : Nat, j ≤ M ∧ a = .int .i64 (((List.range (64 * j)).countP (freeQ c) : Nat) : Int) ∧ i = .int .i64 (j : Int) ∧ wr = w) (fun _ i _ => M - (intOf i).toNat)
  case atStart => exact ⟨0, by omega, rfl, rfl, rfl⟩
  case round =>
    obtain ⟨j, hj, rfl, rfl, rfl⟩ := hrel
    by_cases hlt : j < M
    · have dj : decide ((j : Int) < (M : Int)) = true := decide_eq_true (by omega)
      have kj := HK.out j hlt
      have ho := HO.out j wr
      have hs := HS.out j
      have hb := HB.out (j + 1)
      have hb0 := HB.out j
      rw [List.length_range] at hb hb0
      generalize hse : (List.range (64 * j)).countP (freeQ c) = s at *
      generalize hse' : (List.range (64 * (j + 1))).countP (freeQ c) = s' at *
      have HS2 := Lib.hid (show Value.int .i64 (s' : Int) = .int .i64 (((List.range (64 * (j + 1))).countP (freeQ c) : Nat) : Int) by rw [hse'])
      clear hse hse'
      generalize pcN 8 (wdF c j) = p at *
      generalize wdF c j = W0 at *
      have hw : IntKind.i64.wrap ((s : Int) + (p : Int)) = (s' : Int) := by rw [IntWalk.i64_in _ (by omega)]; omega
      have HO2 := Lib.hid ho
      clear ho hs hb hb0
      go_wp2_with fail
      refine HO2.out.mono ?_
      rintro e w1 ⟨rfl, rfl⟩
      go_wp2_with fail
      refine ⟨⟨j + 1, by omega, HS2.out, by go_num, trivial⟩, by simp [intOf]; omega⟩
    · obtain rfl : j = M := by omega
      have dj : decide ((j : Int) < (j : Int)) = false := decide_eq_false (by omega)
      have he := HE.out
      generalize (List.range (64 * j)).countP (freeQ c) = s at *
      subst he
      go_wp2_with fail
      go_ret
      exact ⟨rfl, rfl⟩
end Go.Proofs.YtpcikbloflpahaaDoor
namespace Go.Proofs.YtpcikbloflpahaaDoor
set_option linter.unusedVariables false
set_option linter.unusedSimpArgs false
open Go.RowKit Go.Shelf Go.Maps

theorem made_one (v : Value) (hv : v.cells = #[v]) (n : Nat) : madeCells v.cells (n * 1) = (List.replicate n v).toArray := by
  apply Array.toList_inj.1
  have h : ∀ x : Nat, v.cells[x % v.cells.size]! = v := fun x => by
    rw [hv]
    show (#[v] : Array Value)[x % 1]! = _
    rw [Nat.mod_one]; rfl
  simp [madeCells, h]
  rw [List.map_const']; simp
theorem mk_intn (w : World) (n : Nat) (hn : n ≤ 2000) : (Instr.makeSlice 43 (.int .i64 n) (.int .i64 n)).run Tryd.prog w = .ok (.slice (some ⟨w.heap.size, 0, none⟩) n n) (w.alloc (.cells (ints7 (List.replicate n 0)).toArray 3)) := by
  have hE : (Tryd.prog.info? 3).map (fun i => (i.zero, i.size, i.bytes)) = some (some (.int .i64 0), 1, 8) := by kernel_rfl
  cases hi : Tryd.prog.info? 3 with
  | none => rw [hi] at hE; simp at hE
  | some i =>
    rw [hi] at hE
    simp only [Option.map_some, Option.some.injEq, Prod.mk.injEq] at hE
    obtain ⟨h1, h2, h3⟩ := hE
    have := run_make (P := Tryd.prog) w 43 3 i _ Tryd.underlying43 hi h1 .i64 .i64 n n (by omega) (by omega) (by rw [h3]; omega) (by omega)
    rw [this, h2, Int.toNat_natCast, made_one _ rfl]
    simp [ints7]
theorem mk_u64n (w : World) (n : Nat) (hn : n ≤ 2000) : (Instr.makeSlice 112 (.int .i64 n) (.int .i64 n)).run Tryd.prog w = .ok (.slice (some ⟨w.heap.size, 0, none⟩) n n) (w.alloc (.cells (u64s (List.replicate n 0)).toArray 69)) := by
  have hE : (Tryd.prog.info? 69).map (fun i => (i.zero, i.size, i.bytes)) = some (some (.int .u64 0), 1, 8) := by kernel_rfl
  cases hi : Tryd.prog.info? 69 with
  | none => rw [hi] at hE; simp at hE
  | some i =>
    rw [hi] at hE
    simp only [Option.map_some, Option.some.injEq, Prod.mk.injEq] at hE
    obtain ⟨h1, h2, h3⟩ := hE
    have := run_make (P := Tryd.prog) w 112 69 i _ Tryd.underlying112 hi h1 .i64 .i64 n n (by omega) (by omega) (by rw [h3]; omega) (by omega)
    rw [this, h2, Int.toNat_natCast, made_one _ rfl]
    simp [u64s]
def wdsP (p : Nat → Bool) (M : Nat) : List Nat := (List.range M).map fun k => natOf (fun j => p (64 * k + j)) 64
theorem wdsP_len (p : Nat → Bool) (M : Nat) : (wdsP p M).length = M := by simp [wdsP]
theorem wdsP_get (p : Nat → Bool) (M k : Nat) (h : k < M) : (u64s (wdsP p M))[k]? = some (.int .u64 ((natOf (fun j => p (64 * k + j)) 64 : Nat) : Int)) := by
  rw [u64s_get _ _ (by rw [wdsP_len]; exact h)]
  simp [wdsP]
theorem wdsP_congr {p q : Nat → Bool} (h : ∀ m, p m = q m) (M : Nat) : wdsP p M = wdsP q M := by rw [funext h]
theorem natOf_false (n : Nat) : natOf (fun _ => false) n = 0 := by
  induction n with
  | zero => rfl
  | succ n ih => unfold natOf; rw [ih]; rfl
theorem wdsP_false (M : Nat) : wdsP (fun _ => false) M = List.replicate M 0 := by
  unfold wdsP
  simp only [natOf_false]
  rw [List.map_const', List.length_range]
theorem wdsP_or (p : Nat → Bool) (M n : Nat) (hn : n / 64 < M) : (wdsP p M).set (n / 64) (natOf (fun j => p (64 * (n / 64) + j) || decide (j = n % 64)) 64) = wdsP (fun m => p m || decide (m = n)) M := by
  apply List.ext_getElem (by simp [wdsP])
  intro k h1 h2
  rw [List.getElem_set]
  simp only [wdsP, List.getElem_map, List.getElem_range]
  by_cases e : n / 64 = k
  · subst e
    rw [if_pos rfl]
    apply natOf_congr
    intro j hj
    congr 1
    rw [decide_eq_decide]
    omega
  · rw [if_neg e]
    apply natOf_congr
    intro j hj
    have : ¬ 64 * k + j = n := by omega
    simp [this]
def below (n m : Nat) : Bool := decide (2 ≤ m) && decide (m < n)
theorem below_two (m : Nat) : below 2 m = false := by unfold below; by_cases h : 2 ≤ m <;> simp [h] <;> omega
theorem below_succ (n m : Nat) (hn : 2 ≤ n) : (below n m || decide (m = n)) = below (n + 1) m := by
  unfold below
  rw [Bool.eq_iff_iff]
  simp only [Bool.or_eq_true, Bool.and_eq_true, decide_eq_true_iff]
  omega
theorem below_new (N m : Nat) : below N m = freeQ (List.replicate N 0) m := by
  rw [Bool.eq_iff_iff, freeQ_iff]
  unfold below
  simp only [Bool.and_eq_true, decide_eq_true_iff, List.length_replicate]
  constructor
  · rintro ⟨h1, h2⟩
    exact ⟨h1, h2, by rw [List.getD_eq_getElem?_getD, List.getElem?_replicate, if_pos h2]; rfl⟩
  · rintro ⟨h1, h2, -⟩; exact ⟨h1, h2⟩
theorem heap_new3b (w : World) (o o' o'' : Obj) : (((w.alloc o).alloc o').alloc o'').heap[w.heap.size + 1 + 1]? = some o'' := by simpa using heap_new ((w.alloc o).alloc o') o''
/-- Between New's rounds. -/
structure NwI (w : World) (mb cb fb N M n : Nat) (wr : World) : Prop where
  box : wr.heap[mb]? = some (.cells [.slice (some ⟨cb, 0, none⟩) N N, .slice (some ⟨fb, 0, none⟩) M M, .bool true].toArray 114 (0, 0))
  cnt : wr.heap[cb]? = some (.cells (ints7 (List.replicate N 0)).toArray 3 (0, 0))
  fre : wr.heap[fb]? = some (.cells (u64s (wdsP (below n) M)).toArray 69 (0, 0))
  fr : Fr No w wr
set_option maxHeartbeats 4000000 in
set_option maxRecDepth 1000000 in
theorem spnewg_calls (N : Nat) (hN : N ≤ 2000) (w : World) : Calls Tryd.prog 32 #[.int .i64 (N : Int)] w fun e w' => ∃ mb cb fb, e = .returned (.pointer (some ⟨mb, 0, none⟩)) ∧ SpG w' mb cb fb (List.replicate N 0) ∧ Fr No w w' ∧ w.heap.size ≤ mb ∧ w.heap.size ≤ cb ∧ w.heap.size ≤ fb := by
  have hmk := fun w : World => mk_intn w N hN
  obtain ⟨q, hq⟩ : ∃ q, N / 64 = q := ⟨_, rfl⟩
  have hmu : ∀ w : World, (Instr.makeSlice 112 (.int .i64 ((q : Int) + 1)) (.int .i64 ((q : Int) + 1))).run Tryd.prog w = .ok (.slice (some ⟨w.heap.size, 0, none⟩) (q + 1) (q + 1)) (w.alloc (.cells (u64s (List.replicate (q + 1) 0)).toArray 69)) := fun w : World => mk_u64n w (q + 1) (by omega)
  have hqw : IntKind.i64.wrap ((N : Int) / 64) = (q : Int) := by rw [IntWalk.i64_in _ (by omega)]; omega
  have hqw2 : IntKind.i64.wrap ((q : Int) + 1) = ((q + 1 : Nat) : Int) := by rw [IntWalk.i64_in _ (by omega)]; omega
  have d1 : decide ((N : Int) < 0) = false := decide_eq_false (by omega)
  have d2 : decide (2000 < (N : Int)) = false := decide_eq_false (by omega)
  have d3 : decide (0 < (N : Int)) = decide (0 < N) := by simp
  go_enter Tryd.func32, Tryd.ntmps32
  go_upto_block 0 with fail
  have HI0 : RowKit.Hid (NwI w (w.heap.size + 1) w.heap.size (w.heap.size + 1 + 1) N (q + 1) 2 (((w.alloc (Obj.cells (ints7 (List.replicate N 0)).toArray 3)).alloc (Obj.cells #[.slice (some ⟨w.heap.size, 0, none⟩) N N, .slice (some ⟨w.heap.size + 1 + 1, 0, none⟩) (q + 1) (q + 1), .bool true] 114)).alloc (Obj.cells (u64s (List.replicate (q + 1) 0)).toArray 69))) := Lib.hid ⟨heap_alloc _ (heap_new2_7 _ _ _), heap_alloc _ (heap_alloc _ (heap_new _ _)), by rw [wdsP_congr below_two, wdsP_false]; exact heap_new3b _ _ _ _, (((Fr.refl No w).alloc _).alloc _).alloc _⟩
  generalize (((w.alloc (Obj.cells (ints7 (List.replicate N 0)).toArray 3)).alloc (Obj.cells #[.slice (some ⟨w.heap.size, 0, none⟩) N N, .slice (some ⟨w.heap.size + 1 + 1, 0, none⟩) (q + 1) (q + 1), .bool true] 114)).alloc (Obj.cells (u64s (List.replicate (q + 1) 0)).toArray 69)) = W at *
  have HEND : RowKit.Hid (∀ n wr, (n = N ∨ N ≤ n ∧ n = 2) → NwI w (w.heap.size + 1) w.heap.size (w.heap.size + 1 + 1) N (q + 1) n wr → SpG wr (w.heap.size + 1) w.heap.size (w.heap.size + 1 + 1) (List.replicate N 0)) := Lib.hid (fun n wr hn h => by
    have hb : ∀ m, below n m = freeQ (List.replicate N 0) m := fun m => by
      rw [← below_new]
      rcases hn with rfl | ⟨h1, rfl⟩
      · rfl
      · rw [below_two]
        unfold below
        by_cases e : 2 ≤ m
        · rw [decide_eq_false (show ¬ m < N by omega)]; simp
        · simp [e]
    refine ⟨?_, h.cnt, ?_, ?_, ?_⟩
    · rw [List.length_replicate, hq]; exact h.box
    · have := h.fre
      rw [wdsP_congr hb] at this
      unfold wdsF
      rw [List.length_replicate, hq]
      exact this
    · rw [List.length_replicate]; exact hN
    · intro x hx
      have := List.eq_of_mem_replicate hx
      omega)
  generalize hcb : w.heap.size = cb at *
  have HCB := Lib.hid hcb
  clear hcb hmk hmu hqw hqw2
  generalize hmb : cb + 1 = mb at *
  generalize hfb : mb + 1 = fb at *
  have HMF := Lib.hid (And.intro hmb hfb)
  clear hmb hfb
  go_wp2_with fail
  go_loopw [4] (fun i wr => ∃ n : Nat, 2 ≤ n ∧ (n ≤ N ∨ n = 2) ∧ i = .int .i64 (n : Int) ∧ NwI w mb cb fb N (q + 1) n wr) (fun i _ => N - (intOf i).toNat)
  case atStart => exact ⟨2, by omega, .inr rfl, rfl, HI0.out⟩
  case round =>
    obtain ⟨n, h2, hn, rfl, hI⟩ := hrel
    have k0 : wr.cell? ⟨mb, 0, none⟩ = some (.slice (some ⟨cb, 0, none⟩) N N) := heap_cell (o := 0) hI.box rfl
    have k1' : wr.drew.cell? ⟨mb, 1, none⟩ = some (.slice (some ⟨fb, 0, none⟩) (q + 1) (q + 1)) := heap_cell (w := wr) (o := 1) hI.box rfl
    have HI2 := Lib.hid hI
    by_cases hlt : n < N
    · have hd : decide ((n : Int) < (N : Int)) = true := decide_eq_true (by omega)
      have hnq : n / 64 < q + 1 := by omega
      have kf := heap_cell (w := wr) (o := n / 64) hI.fre (by rw [List.getElem?_toArray]; exact wdsP_get _ _ _ hnq)
      have ff := heap_frozen (w := wr) (o := n / 64) hI.fre
      have hqn : IntKind.i64.wrap ((n : Int) / 64) = ((n / 64 : Nat) : Int) := by rw [IntWalk.i64_in _ (by omega)]; omega
      have hrn : IntKind.i64.wrap ((n : Int) % 64) = ((n % 64 : Nat) : Int) := by rw [IntWalk.i64_in _ (by omega)]; omega
      have hor := or_bit (fun j => below n (64 * (n / 64) + j)) (j := n % 64) (by omega)
      have hsh : IntKind.u64.wrap ((2 : Int) ^ (n % 64)) = ((2 ^ (n % 64) : Nat) : Int) := by
        have h2 := two_pow64 (j := n % 64) (by omega)
        rw [show ((2 : Int) ^ (n % 64)) = ((2 ^ (n % 64) : Nat) : Int) from by simp, IntKind.wrap_u64]
        generalize 2 ^ (n % 64) = P at h2 ⊢
        omega
      have hwo := wdsP_or (below n) (q + 1) n hnq
      rw [wdsP_congr (below_succ n · h2)] at hwo
      generalize ((2 ^ (n % 64) : Nat) : Int) = Bt at *
      generalize natOf (fun j => below n (64 * (n / 64) + j) || decide (j = n % 64)) 64 = W1 at *
      generalize natOf (fun j => below n (64 * (n / 64) + j)) 64 = W0 at *
      have kf' : wr.drew.cell? ⟨fb, n / 64, none⟩ = some (.int .u64 (W0 : Int)) := kf
      have ff' : wr.drew.frozen? ⟨fb, n / 64, none⟩ = false := ff
      have HWO := Lib.hid hwo
      clear hI hwo
      go_upto_region 6 with fail
      go_region
      all_goals (
        go_wp2_with fail
        obtain ⟨m1, m2⟩ := HMF.out
        have mc := HCB.out
        have hFs : Fr (fun k => k = fb) wr (wr.setCell ⟨fb, n / 64, none⟩ (.int .u64 (W1 : Int))).drew := ((Fr.refl (fun k => k = fb) wr).setCell (p := ⟨fb, n / 64, none⟩) (fun _ => rfl) _).drew
        refine ⟨⟨n + 1, by omega, .inl (by omega), by go_num, hFs.heap HI2.out.box (fun (e : mb = fb) => by omega), hFs.heap HI2.out.cnt (fun (e : cb = fb) => by omega), ?_, HI2.out.fr.trans' hFs (fun i hi (e : i = fb) => by omega)⟩, by simp [intOf]; omega⟩
        rw [← HWO.out, ← u64s_set]
        exact heap_setAt7 HI2.out.fre _ _)
    · have hd : decide ((n : Int) < (N : Int)) = false := decide_eq_false (by omega)
      have HNE : RowKit.Hid (n = N ∨ N ≤ n ∧ n = 2) := Lib.hid (by omega)
      clear hI
      go_wp2_with fail
      go_ret
      refine ⟨mb, cb, fb, rfl, HEND.out n _ HNE.out HI2.out, HI2.out.fr, ?_⟩
      have := HMF.out
      have := HCB.out
      omega
end Go.Proofs.YtpcikbloflpahaaDoor
