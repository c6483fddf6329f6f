/-
  Chapter 12, plainly: the files' table as the memory's bytes tell it.
-/
import Derived.Test.YtoajnmbbgbpbgaaGreatZD
import Derived.Test.YtoajnmbbgbpbgaaGreatZE
import Derived.Test.YtoajnmbbgbpbgaaGreatZB
namespace Go.Proofs.YtoajnmbbgbpbgaaGreat
set_option linter.unusedVariables false
set_option linter.unusedSimpArgs false

theorem ext_getD {l m : List Int} (h : l.length = m.length) (hg : ∀ j, j < l.length → l.getD j 0 = m.getD j 0) : l = m := by
  apply List.ext_getElem h
  intro i h1 h2
  have := hg i h1
  simpa [List.getD, List.getElem?_eq_getElem h1, List.getElem?_eq_getElem h2] using this
theorem layF_length (B : List Int) (a : Int) (l : List Int) : (layF B a l).length = B.length := layN_length B a l _
theorem layF_get (B : List Int) (hB : B.length = 8192) (a : Int) (l : List Int) (x : Nat) (hx : x < 8192) : (layF B a l).getD x 0 = if a ≤ x ∧ (x : Int) < a + l.length then l.getD ((x : Int) - a).toNat 0 else B.getD x 0 := layN_get B hB a l _ x hx
theorem layF_nil (B : List Int) (a : Int) : layF B a [] = B := rfl
/-- Bytes laid at places that don't meet, in either order. -/
theorem layF_comm (B : List Int) (hB : B.length = 8192) (a : Int) (l : List Int) (a' : Int) (l' : List Int) (h : a + l.length ≤ a' ∨ a' + l'.length ≤ a) : layF (layF B a l) a' l' = layF (layF B a' l') a l := by
  refine ext_getD (by simp [layF_length]) (fun j hj => ?_)
  rw [layF_length, layF_length, hB] at hj
  rw [layF_get _ (by rw [layF_length, hB]) _ _ _ hj, layF_get _ hB _ _ _ hj, layF_get _ (by rw [layF_length, hB]) _ _ _ hj, layF_get _ hB _ _ _ hj]
  by_cases h1 : a ≤ j ∧ (j : Int) < a + l.length
  · have h2 : ¬ (a' ≤ j ∧ (j : Int) < a' + l'.length) := by omega
    simp only [if_pos h1, if_neg h2]
  · simp only [if_neg h1]

/-- Block i. -/
def blk (B : List Int) (i : Nat) : List Int := loadF B (6144 + 64 * (i : Int)) 64
theorem blk_length (B : List Int) (i : Nat) : (blk B i).length = 64 := loadF_length _ _ _
theorem blk_get (B : List Int) (i j : Nat) (hi : i < 32) (hj : j < 64) : (blk B i).getD j 0 = B.getD (6144 + 64 * i + j) 0 := by
  rw [blk, loadF_get _ _ _ _ hj, byteAt, if_pos (by omega), show (6144 + 64 * (i : Int) + (j : Int)).toNat = 6144 + 64 * i + j by omega]
theorem blk_range (B : List Int) (hB : ∀ b ∈ B, 0 ≤ b ∧ b < 256) (i : Nat) : ∀ b ∈ blk B i, 0 ≤ b ∧ b < 256 := loadF_range B hB _ _
theorem blk_other (B : List Int) (hB : B.length = 8192) (a : Int) (l : List Int) (i : Nat) (hi : i < 32) (h : a + l.length ≤ 6144 + 64 * (i : Int) ∨ 6144 + 64 * (i : Int) + 64 ≤ a) : blk (layF B a l) i = blk B i := by
  refine ext_getD (by simp [blk_length]) (fun j hj => ?_)
  rw [blk_length] at hj
  rw [blk_get _ _ _ hi hj, blk_get _ _ _ hi hj, layF_get _ hB _ _ _ (by omega), if_neg (by omega)]
theorem blk_same (B : List Int) (hB : B.length = 8192) (l : List Int) (hl : l.length = 64) (i : Nat) (hi : i < 32) : blk (layF B (6144 + 64 * (i : Int)) l) i = l := by
  refine ext_getD (by rw [blk_length, hl]) (fun j hj => ?_)
  rw [blk_length] at hj
  rw [blk_get _ _ _ hi hj, layF_get _ hB _ _ _ (by omega), if_pos (by omega), show (((6144 + 64 * i + j : Nat) : Int) - (6144 + 64 * (i : Int))).toNat = j by omega]

/-- Block 0, of a set of blocks. -/
def headF (u : Nat) : List Int := putL (putL (zs 64) 0 1398362950 4) 4 u 4
theorem headF_length (u : Nat) : (headF u).length = 64 := by rw [headF, putL_length, putL_length, zs_length]
theorem headF_range (u : Nat) : ∀ b ∈ headF u, 0 ≤ b ∧ b < 256 := putL_range _ _ _ _ (putL_range _ _ _ _ (zs_range 64))

/-- An inode of the table; a free one has no name. -/
structure Nd where
  name : ByteArray
  size : Int
  ext : List (Int × Int)
def noName : ByteArray := ⟨#[]⟩
def Nd.free : Nd := ⟨noName, 0, []⟩
def nd (l : List Int) : Nd := ⟨decS l, decN l, decX l⟩
def maskX (x : Nd) : Nat := maskN (listF x.ext)
theorem maskX_lt (x : Nd) : maskX x < 2 ^ 32 := (maskL_nat _ (fun b hb => (listF_range _ b hb).2)).2
theorem nd_zero {l : List Int} (h : decKind l = 0) : nd l = Nd.free := by simp [nd, decS, decN, decX, h, Nd.free, noName]
theorem maskX_free : maskX Nd.free = 0 := by decide

/-- One inode more is read: the inodes so far, the blocks so far; none: the region isn't as it should be. -/
def stepT (L : List Nd) (u : Nat) (l : List Int) : Option (List Nd × Nat) :=
  if decKind l = 2 ∨ u &&& maskX (nd l) ≠ 0 then none
  else if decKind l = 0 then some (L ++ [Nd.free], u)
  else if L.any (fun y => decide (y.name = decS l)) = true then none
  else some (L ++ [nd l], u ||| maskX (nd l))
def readT (B : List Int) : Nat → Option (List Nd × Nat)
  | 0 => some ([], 0)
  | i + 1 => (readT B i).bind fun p => stepT p.1 p.2 (blk B (i + 1))
/-- The table. -/
def tableF (B : List Int) : Option (List Nd × Nat) := (readT B 8).bind fun p => if blk B 0 = headF p.2 then some p else none

def usedN (L : List Nd) : Nat := L.foldl (fun s x => s ||| maskX x) 0
theorem usedN_snoc (L : List Nd) (x : Nd) : usedN (L ++ [x]) = usedN L ||| maskX x := by simp [usedN]
theorem used_fold (L : List Nd) (s b : Nat) : (L.foldl (fun s x => s ||| maskX x) s).testBit b = (s.testBit b || L.any fun x => (maskX x).testBit b) := by
  induction L generalizing s with
  | nil => simp
  | cons x L ih => rw [List.foldl_cons, ih, Nat.testBit_or, List.any_cons, Bool.or_assoc]
theorem usedN_bit (L : List Nd) (b : Nat) : (usedN L).testBit b = L.any fun x => (maskX x).testBit b := by rw [usedN, used_fold]; simp
theorem usedN_lt (L : List Nd) : usedN L < 2 ^ 32 := by
  have : ∀ (L : List Nd) (s : Nat), s < 2 ^ 32 → L.foldl (fun s x => s ||| maskX x) s < 2 ^ 32 := by
    intro L
    induction L with
    | nil => intro s h; exact h
    | cons x L ih => intro s h; exact ih _ (Nat.or_lt_two_pow h (maskX_lt x))
  exact this L 0 (by decide)
theorem and_zero_iff (a b : Nat) : a &&& b = 0 ↔ ∀ i, a.testBit i = true → b.testBit i = false := by
  constructor
  · intro h i hi
    have := congrArg (fun n => n.testBit i) h
    simp only [Nat.testBit_and, Nat.zero_testBit, hi, Bool.true_and] at this
    exact this
  · intro h
    apply Nat.eq_of_testBit_eq
    intro i
    rw [Nat.testBit_and, Nat.zero_testBit]
    cases hi : a.testBit i with
    | false => rfl
    | true => rw [h i hi]; rfl
theorem used_apart (L : List Nd) (m : Nat) : usedN L &&& m = 0 ↔ ∀ x ∈ L, maskX x &&& m = 0 := by
  simp only [and_zero_iff, usedN_bit, List.any_eq_true]
  exact ⟨fun h x hx i hi => h i ⟨x, hx, hi⟩, fun h i ⟨x, hx, hi⟩ => h x hx i hi⟩

/-- Names of two inodes: not the same, but for free ones. -/
def namesApart (x y : Nd) : Prop := x.name = y.name → x.name = noName
def blocksApart (x y : Nd) : Prop := maskX x &&& maskX y = 0
/-- What the first n inodes are. -/
def Pre (B : List Int) (n : Nat) (L : List Nd) (u : Nat) : Prop :=
  L = (List.range n).map (fun i => nd (blk B (i + 1))) ∧ (∀ i, i < n → decKind (blk B (i + 1)) ≠ 2) ∧ L.Pairwise namesApart ∧ L.Pairwise blocksApart ∧ u = usedN L
theorem decKind_cases (l : List Int) : decKind l = 0 ∨ decKind l = 1 ∨ decKind l = 2 := by
  rw [decKind]; split
  · exact .inr (.inr rfl)
  · split
    · exact .inl rfl
    · split
      · exact .inr (.inr rfl)
      · split
        · exact .inr (.inl rfl)
        · exact .inr (.inr rfl)
theorem nd_named {l : List Int} (h : decKind l = 1) : (nd l).name ≠ noName := by
  intro e
  have h1 := (inoOk_small (decKind_one h).2.2.1).1
  simp only [nd, decS, h, if_true, noName] at e
  rw [e] at h1
  exact absurd h1 (by decide)
theorem pre_snoc {B : List Int} {n : Nat} {L : List Nd} {u : Nat} (hp : Pre B n L u) (p : List Nd × Nat) : stepT L u (blk B (n + 1)) = some p ↔ Pre B (n + 1) p.1 p.2 := by
  obtain ⟨h1, h2, h3, h4, h5⟩ := hp
  have hL : (List.range (n + 1)).map (fun i => nd (blk B (i + 1))) = L ++ [nd (blk B (n + 1))] := by rw [List.range_succ, List.map_append, ← h1]; rfl
  generalize hl : blk B (n + 1) = l at *
  constructor
  · intro h
    rw [stepT] at h
    split at h
    · cases h
    · rename_i hb
      have hk : decKind l ≠ 2 := fun e => hb (.inl e)
      have hm : u &&& maskX (nd l) = 0 := Decidable.byContradiction fun e => hb (.inr e)
      have hap : ∀ x ∈ L, blocksApart x (nd l) := by rw [h5] at hm; exact (used_apart L _).1 hm
      have hkk : ∀ i, i < n + 1 → decKind (blk B (i + 1)) ≠ 2 := fun i hi => by
        rcases Nat.lt_succ_iff_lt_or_eq.1 hi with h | rfl
        · exact h2 i h
        · rw [hl]; exact hk
      split at h
      · rename_i h0
        cases h
        rw [← nd_zero h0]
        refine ⟨hL.symm, hkk, ?_, ?_, ?_⟩
        · refine List.pairwise_append.2 ⟨h3, List.pairwise_singleton _ _, fun x hx y hy e => ?_⟩
          obtain rfl : y = nd l := by simpa using hy
          rw [e, nd_zero h0]; rfl
        · refine List.pairwise_append.2 ⟨h4, List.pairwise_singleton _ _, fun x hx y hy => ?_⟩
          have e : y = nd l := by simpa using hy
          rw [e]; exact hap x hx
        · rw [usedN_snoc, nd_zero h0, maskX_free, Nat.or_zero, h5]
      · rename_i h0
        split at h
        · cases h
        · rename_i hn
          cases h
          refine ⟨hL.symm, hkk, ?_, ?_, ?_⟩
          · refine List.pairwise_append.2 ⟨h3, List.pairwise_singleton _ _, fun x hx y hy e => ?_⟩
            obtain rfl : y = nd l := by simpa using hy
            exact absurd (List.any_eq_true.2 ⟨x, hx, by simpa [nd] using e⟩) hn
          · refine List.pairwise_append.2 ⟨h4, List.pairwise_singleton _ _, fun x hx y hy => ?_⟩
            have e : y = nd l := by simpa using hy
            rw [e]; exact hap x hx
          · rw [usedN_snoc, h5]
  · obtain ⟨L', u'⟩ := p
    rintro ⟨g1, g2, g3, g4, g5⟩
    dsimp only at g1 g3 g4 g5
    rw [hL] at g1
    subst g1
    have hk : decKind l ≠ 2 := by have := g2 n (by omega); rwa [hl] at this
    rw [usedN_snoc] at g5
    obtain ⟨-, -, q3⟩ := List.pairwise_append.1 g3
    obtain ⟨-, -, q4⟩ := List.pairwise_append.1 g4
    have hm : u &&& maskX (nd l) = 0 := by rw [h5]; exact (used_apart L _).2 (fun x hx => q4 x hx _ (by simp))
    rw [stepT, if_neg (by rintro (h | h); exact hk h; exact h hm)]
    by_cases h0 : decKind l = 0
    · rw [if_pos h0, ← nd_zero h0, g5, nd_zero h0, maskX_free, Nat.or_zero, h5]
    · have hk1 : decKind l = 1 := by rcases decKind_cases l with h | h | h <;> omega
      rw [if_neg h0, if_neg, g5, h5]
      intro hany
      obtain ⟨x, hx, e⟩ := List.any_eq_true.1 hany
      have e' : x.name = (nd l).name := by simpa [nd] using e
      have := q3 x hx (nd l) (by simp) e'
      rw [e'] at this
      exact nd_named hk1 this
theorem readT_iff (B : List Int) (n : Nat) (L : List Nd) (u : Nat) : readT B n = some (L, u) ↔ Pre B n L u := by
  induction n generalizing L u with
  | zero =>
    constructor
    · intro h; simp only [readT, Option.some.injEq, Prod.mk.injEq] at h
      obtain ⟨rfl, rfl⟩ := h
      exact ⟨rfl, fun i hi => by omega, List.Pairwise.nil, List.Pairwise.nil, rfl⟩
    · rintro ⟨h1, -, -, -, h5⟩
      subst h1; subst h5
      rfl
  | succ n ih =>
    rw [readT]
    constructor
    · intro h
      obtain ⟨p, hp, hs⟩ := Option.bind_eq_some_iff.1 h
      exact (pre_snoc ((ih p.1 p.2).1 hp) (L, u)).1 hs
    · intro h
      obtain ⟨g1, g2, g3, g4, g5⟩ := id h
      have hL : (List.range (n + 1)).map (fun i => nd (blk B (i + 1))) = (List.range n).map (fun i => nd (blk B (i + 1))) ++ [nd (blk B (n + 1))] := by rw [List.range_succ, List.map_append]; rfl
      rw [hL] at g1
      have hp : Pre B n ((List.range n).map fun i => nd (blk B (i + 1))) (usedN ((List.range n).map fun i => nd (blk B (i + 1)))) := by
        rw [g1] at g3 g4
        exact ⟨rfl, fun i hi => g2 i (by omega), (List.pairwise_append.1 g3).1, (List.pairwise_append.1 g4).1, rfl⟩
      have hs := (pre_snoc hp (L, u)).2 h
      have hq := (ih _ _).2 hp
      rw [hq, Option.bind_some]
      exact hs
/-- The table, as what holds of it. -/
def Tab (B : List Int) (L : List Nd) (u : Nat) : Prop := Pre B 8 L u ∧ blk B 0 = headF u
theorem tableF_iff (B : List Int) (L : List Nd) (u : Nat) : tableF B = some (L, u) ↔ Tab B L u := by
  rw [tableF, Tab, ← readT_iff]
  generalize readT B 8 = r
  generalize blk B 0 = b
  cases r with
  | none => simp
  | some p =>
    simp only [Option.bind_some, Option.some.injEq]
    by_cases he : b = headF p.2
    · rw [if_pos he, Option.some.injEq]
      exact ⟨fun h => ⟨h, by rw [he, h]⟩, fun h => h.1⟩
    · rw [if_neg he]
      exact ⟨fun h => by simp at h, fun h => absurd (by rw [h.1]; exact h.2) he⟩
theorem Tab.len {B : List Int} {L : List Nd} {u : Nat} (h : Tab B L u) : L.length = 8 := by obtain ⟨⟨h, -⟩, -⟩ := h; rw [h]; simp
theorem Tab.get {B : List Int} {L : List Nd} {u : Nat} (h : Tab B L u) (i : Nat) (hi : i < L.length) : L[i] = nd (blk B (i + 1)) := by
  obtain ⟨⟨h1, -⟩, -⟩ := h; subst h1; simp
theorem Tab.kind {B : List Int} {L : List Nd} {u : Nat} (h : Tab B L u) (i : Nat) (hi : i < 8) : decKind (blk B (i + 1)) ≠ 2 := h.1.2.1 i hi
theorem Tab.used {B : List Int} {L : List Nd} {u : Nat} (h : Tab B L u) : u = usedN L := h.1.2.2.2.2
/-- An inode that can be: free, or as it should be. -/
def Nd.good (x : Nd) : Prop := x = Nd.free ∨ inoOk x.name x.size x.ext = true
theorem nd_good {l : List Int} (h : decKind l ≠ 2) : (nd l).good := by
  rcases decKind_cases l with h0 | h1 | h2
  · exact .inl (nd_zero h0)
  · exact .inr (by have := (decKind_one h1).2.2.1; simpa [nd, decS, decN, decX, h1] using this)
  · exact absurd h2 h
theorem Tab.good {B : List Int} {L : List Nd} {u : Nat} (h : Tab B L u) : ∀ x ∈ L, x.good := by
  intro x hx
  obtain ⟨i, hi, rfl⟩ := List.mem_iff_getElem.1 hx
  rw [h.get i hi]
  exact nd_good (h.kind i (by rw [h.len] at hi; exact hi))
/-- The bytes of an inode. -/
def ndB (x : Nd) : List Int := if x.name = noName then zs 64 else encF x.name x.size x.ext
theorem good_name {x : Nd} (h : inoOk x.name x.size x.ext = true) : x.name ≠ noName := by
  intro e
  have h1 := (inoOk_small h).1
  rw [e] at h1
  exact absurd h1 (by decide)
theorem ndB_length {x : Nd} (h : x.good) : (ndB x).length = 64 := by
  rcases h with rfl | h
  · rw [ndB, if_pos (show Nd.free.name = noName from rfl), zs_length]
  · rw [ndB, if_neg (good_name h)]; exact encF_length _ _ _ (inoOk_small h).2.1
theorem zs_kind : decKind (zs 64) = 0 := by rw [decKind, if_neg (by simp [zs_length]), if_pos rfl]
theorem nd_ndB {x : Nd} (h : x.good) : decKind (ndB x) ≠ 2 ∧ nd (ndB x) = x := by
  rcases h with rfl | h
  · rw [ndB, if_pos (show Nd.free.name = noName from rfl)]
    exact ⟨by rw [zs_kind]; decide, nd_zero zs_kind⟩
  · rw [ndB, if_neg (good_name h)]
    have hk := decKind_enc h
    obtain ⟨h1, h2, h3, -, -, -⟩ := dec_enc h
    refine ⟨by rw [hk]; decide, ?_⟩
    simp only [nd, decS, decN, decX, hk, if_true, h1, h2, h3]

theorem pairwise_set {R : Nd → Nd → Prop} (hs : ∀ x y, R x y → R y x) {L : List Nd} (h : L.Pairwise R) (n : Nat) (x : Nd) (hx : ∀ i (hi : i < L.length), i ≠ n → R L[i] x) : (L.set n x).Pairwise R := by
  rw [List.pairwise_iff_getElem] at h ⊢
  intro i j hi hj hij
  rw [List.length_set] at hi hj
  rw [List.getElem_set, List.getElem_set]
  split
  · split
    · omega
    · exact hs _ _ (hx j hj (by omega))
  · split
    · exact hx i hi (by omega)
    · exact h i j hi hj hij
theorem namesApart_symm (x y : Nd) (h : namesApart x y) : namesApart y x := fun e => by rw [e]; exact h e.symm
theorem blocksApart_symm (x y : Nd) (h : blocksApart x y) : blocksApart y x := by unfold blocksApart; rw [Nat.and_comm]; exact h
/-- An inode laid down, and the set of blocks. -/
def layT (B : List Int) (n : Nat) (L : List Nd) (u : Nat) : List Int := layF (layF B (6144 + 64 * ((n + 1 : Nat) : Int)) (ndB (L.getD n Nd.free))) 6144 (headF u)
theorem layT_length (B : List Int) (n : Nat) (L : List Nd) (u : Nat) : (layT B n L u).length = B.length := by rw [layT, layF_length, layF_length]
theorem Tab.put {B : List Int} (hB : B.length = 8192) {L : List Nd} {u : Nat} (h : Tab B L u) (n : Nat) (hn : n < 8) (x : Nd) (hx : x.good) (hnm : ∀ i (hi : i < L.length), i ≠ n → namesApart L[i] x) (hbl : ∀ i (hi : i < L.length), i ≠ n → blocksApart L[i] x) :
    Tab (layT B n (L.set n x) (usedN (L.set n x))) (L.set n x) (usedN (L.set n x)) := by
  have hlen := h.len
  obtain ⟨⟨h1, h2, h3, h4, h5⟩, h6⟩ := h
  have hg : (L.set n x).getD n Nd.free = x := by simp [List.getD, hlen, hn]
  have hb : ∀ i, i < 8 → blk (layT B n (L.set n x) (usedN (L.set n x))) (i + 1) = if i = n then ndB x else blk B (i + 1) := by
    intro i hi
    rw [layT, hg, blk_other _ (by rw [layF_length, hB]) _ _ _ (by omega) (by rw [headF_length]; omega)]
    split
    · rename_i e; subst e; exact blk_same _ hB _ (ndB_length hx) _ (by omega)
    · rename_i e
      exact blk_other _ hB _ _ _ (by omega) (by rw [ndB_length hx]; omega)
  refine ⟨⟨?_, ?_, pairwise_set namesApart_symm h3 n x hnm, pairwise_set blocksApart_symm h4 n x hbl, rfl⟩, ?_⟩
  · apply List.ext_getElem (by simp [hlen])
    intro i g1 g2
    rw [List.length_set, hlen] at g1
    rw [List.getElem_set, List.getElem_map, List.getElem_range, hb i g1]
    split
    · rename_i e; rw [if_pos e.symm, (nd_ndB hx).2]
    · rename_i e; rw [if_neg (fun e2 => e e2.symm)]; subst h1; simp
  · intro i hi
    rw [hb i hi]
    split
    · exact (nd_ndB hx).1
    · exact h2 i hi
  · have := blk_same (layF B (6144 + 64 * ((n + 1 : Nat) : Int)) (ndB ((L.set n x).getD n Nd.free))) (by rw [layF_length, hB]) (headF (usedN (L.set n x))) (headF_length _) 0 (by decide)
    rw [show (6144 + 64 * ((0 : Nat) : Int)) = 6144 by rfl] at this
    exact this
/-- What is laid elsewhere changes no table. -/
theorem Tab.other {B : List Int} (hB : B.length = 8192) {L : List Nd} {u : Nat} (h : Tab B L u) (a : Int) (l : List Int) (ha : a + l.length ≤ 6144 ∨ 6720 ≤ a) : Tab (layF B a l) L u := by
  obtain ⟨⟨h1, h2, h3, h4, h5⟩, h6⟩ := h
  have hb : ∀ i, i < 9 → blk (layF B a l) i = blk B i := fun i hi => blk_other _ hB _ _ _ (by omega) (by omega)
  refine ⟨⟨?_, fun i hi => by rw [hb _ (by omega)]; exact h2 i hi, h3, h4, h5⟩, by rw [hb 0 (by omega)]; exact h6⟩
  rw [h1]
  apply List.map_congr_left
  intro i hi
  rw [List.mem_range] at hi
  rw [hb _ (by omega)]
end Go.Proofs.YtoajnmbbgbpbgaaGreat
namespace Go.Proofs.YtoajnmbbgbpbgaaGreat
set_option linter.unusedVariables false
set_option linter.unusedSimpArgs false

/-- What is true of an inode that can be. -/
theorem Nd.good.facts {x : Nd} (h : x.good) : okB (blkSeq (-1) x.ext) = true ∧ (listF x.ext).length = (needF x.size).toNat ∧ 0 ≤ x.size ∧ x.size ≤ 1472 ∧ x.ext.length ≤ 23 ∧ x.name.size ≤ 15 := by
  rcases h with rfl | h
  · exact ⟨by decide, by decide, by decide, by decide, by decide, by decide⟩
  · obtain ⟨h1, h2, h3, h4, h5⟩ := inoOk_small h
    simp only [inoOk, Bool.and_eq_true, decide_eq_true_eq] at h
    exact ⟨h.1.2, by omega, h3, h4, h5, h2⟩
theorem listF_nine {xs : List (Int × Int)} : ∀ b ∈ listF xs, 9 ≤ b ∧ b < 32 := by
  intro b hb
  have h1 := listF_range xs b hb
  rw [listF] at hb
  split at hb
  · rcases blkSeq_range xs (-1) b hb with h2 | h2 <;> omega
  · simp at hb
theorem listF_nodup (xs : List (Int × Int)) : (listF xs).Nodup := by
  rw [listF]; split
  · rename_i h; exact (of_decide_eq_true h).2
  · exact List.nodup_nil
theorem maskX_bit (x : Nd) (i : Nat) : (maskX x).testBit i = decide ((i : Int) ∈ listF x.ext) := maskN_testBit _ (fun b hb => (listF_range _ b hb).1) i
theorem listF_joins (l : List Int) (h : ∀ b ∈ l, 9 ≤ b ∧ b < 32) (hn : l.Nodup) : okB (blkSeq (-1) (joinsL l)) = true ∧ listF (joinsL l) = l := by
  have hB := blkSeq_joins l h
  have hok : okB (blkSeq (-1) (joinsL l)) = true := by rw [hB]; exact decide_eq_true ⟨fun b hb => by have := h b hb; omega, hn⟩
  exact ⟨hok, by rw [listF, if_pos hok, hB]⟩
theorem apart_iff (x y : Nd) : blocksApart x y ↔ ∀ b ∈ listF x.ext, b ∉ listF y.ext := by
  unfold blocksApart
  rw [and_zero_iff]
  constructor
  · intro h b hb hb2
    have hr := listF_range _ b hb
    have e : ((b.toNat : Nat) : Int) = b := by omega
    have := h b.toNat (by rw [maskX_bit, e]; exact decide_eq_true hb)
    rw [maskX_bit, e] at this
    exact (of_decide_eq_false this) hb2
  · intro h i hi
    rw [maskX_bit] at hi ⊢
    exact decide_eq_false (h _ (of_decide_eq_true hi))
theorem used_iff (L : List Nd) (b : Int) (hb : 0 ≤ b) : (usedN L).testBit b.toNat = true ↔ ∃ i, ∃ hi : i < L.length, b ∈ listF (L[i]).ext := by
  have e : ((b.toNat : Nat) : Int) = b := by omega
  rw [usedN_bit, List.any_eq_true]
  constructor
  · rintro ⟨x, hx, h⟩
    rw [maskX_bit, e] at h
    obtain ⟨i, hi, rfl⟩ := List.mem_iff_getElem.1 hx
    exact ⟨i, hi, of_decide_eq_true h⟩
  · rintro ⟨i, hi, h⟩
    exact ⟨L[i], List.getElem_mem hi, by rw [maskX_bit, e]; exact decide_eq_true h⟩
theorem used_ext {u v : Nat} (hu : u < 2 ^ 32) (hv : v < 2 ^ 32) (h : ∀ b : Int, 0 ≤ b → (u.testBit b.toNat = true ↔ v.testBit b.toNat = true)) : u = v := by
  apply Nat.eq_of_testBit_eq
  intro i
  have := h (i : Int) (by omega)
  rw [Int.toNat_natCast] at this
  rw [Bool.eq_iff_iff]; exact this
theorem used_set {L : List Nd} {n : Nat} (hn : n < L.length) (x : Nd) (b : Int) (hb : 0 ≤ b) : (usedN (L.set n x)).testBit b.toNat = true ↔ b ∈ listF x.ext ∨ ∃ i, ∃ hi : i < L.length, i ≠ n ∧ b ∈ listF (L[i]).ext := by
  rw [used_iff _ _ hb]
  constructor
  · rintro ⟨i, hi, h⟩
    rw [List.length_set] at hi
    rw [List.getElem_set] at h
    split at h
    · exact .inl h
    · rename_i e; exact .inr ⟨i, hi, fun e2 => e e2.symm, h⟩
  · rintro (h | ⟨i, hi, hne, h⟩)
    · exact ⟨n, by simpa using hn, by rw [List.getElem_set_self]; exact h⟩
    · exact ⟨i, by simpa using hi, by rw [List.getElem_set_ne (fun e => hne e.symm)]; exact h⟩

/-- An inode of another size, and the set of blocks. -/
def resizeT (x : Nd) (u : Nat) (size : Int) : Option (Nd × Nat) :=
  if needF size < (listF x.ext).length then (shrinkF x.ext u (needF size)).map fun p => (⟨x.name, size, p.1⟩, p.2)
  else (growF x.ext u (needF size - (listF x.ext).length)).map fun p => (⟨x.name, size, p.1⟩, p.2)
theorem needF_bounds {size : Int} (h0 : 0 ≤ size) (h1 : size ≤ 1472) : 0 ≤ needF size ∧ needF size ≤ 23 := by
  rw [needF]; split <;> omega
/-- What comes of it. -/
structure Resized (L : List Nd) (n : Nat) (x : Nd) (m : Int) (x' : Nd) (u' : Nat) : Prop where
  ok : inoOk x'.name x'.size x'.ext = true
  name : x'.name = x.name
  size : x'.size = m
  used : u' = usedN (L.set n x')
  apart : ∀ i (hi : i < L.length), i ≠ n → blocksApart L[i] x'
  len : (listF x'.ext).length = (needF m).toNat
  pre : ∀ k, k < (listF x.ext).length → k < (needF m).toNat → (listF x'.ext).getD k 0 = (listF x.ext).getD k 0
  fresh : ∀ k, (listF x.ext).length ≤ k → k < (needF m).toNat → ∀ i (hi : i < L.length), (listF x'.ext).getD k 0 ∉ listF (L[i]).ext
theorem resize_ok {L : List Nd} {n : Nat} {u : Nat} (hgood : ∀ x ∈ L, x.good) (hap : L.Pairwise blocksApart) (hu : u = usedN L) (hn : n < L.length) (hnm : L[n].name ≠ noName) {size : Int} (h0 : 0 ≤ size) (h1 : size ≤ 1472) {x' : Nd} {u' : Nat} (h : resizeT L[n] u size = some (x', u')) :
    Resized L n L[n] size x' u' := by
  have hg := hgood L[n] (List.getElem_mem hn)
  obtain ⟨f1, f2, f3, f4, f5, f6⟩ := hg.facts
  have hino : inoOk L[n].name L[n].size L[n].ext = true := by
    rcases hg with e | e
    · rw [e] at hnm; exact absurd rfl hnm
    · exact e
  have hname : nameF L[n].name = true := by simp only [inoOk, Bool.and_eq_true] at hino; exact hino.1.1.1.1
  have hnb := needF_bounds h0 h1
  have hul : u < 2 ^ 32 := by rw [hu]; exact usedN_lt L
  have hdis : ∀ i (hi : i < L.length), i ≠ n → ∀ b ∈ listF (L[i]).ext, b ∉ listF (L[n]).ext := fun i hi hne => by
    rw [List.pairwise_iff_getElem] at hap
    rcases Nat.lt_or_ge i n with hlt | hge
    · exact (apart_iff _ _).1 (hap i n hi hn hlt)
    · exact (apart_iff _ _).1 (blocksApart_symm _ _ (hap n i hn hi (by omega)))
  have huse : ∀ b : Int, 0 ≤ b → (u.testBit b.toNat = true ↔ ∃ i, ∃ hi : i < L.length, b ∈ listF (L[i]).ext) := fun b hb => by rw [hu]; exact used_iff L b hb
  rw [resizeT] at h
  split at h
  · rename_i hlt
    rw [shrink_res _ _ _ hul f1 hnb.1 (by omega)] at h
    simp only [Option.map_some, Option.some.injEq, Prod.mk.injEq] at h
    obtain ⟨rfl, rfl⟩ := h
    have hr : ∀ b ∈ (listF L[n].ext).take (needF size).toNat, 9 ≤ b ∧ b < 32 := fun b hb => listF_nine b (List.mem_of_mem_take hb)
    obtain ⟨j1, j2⟩ := listF_joins _ hr ((listF_nodup _).sublist (List.take_sublist _ _))
    have hlen : ((listF L[n].ext).take (needF size).toNat).length = (needF size).toNat := by rw [List.length_take]; omega
    refine ⟨?_, rfl, rfl, ?_, ?_, by dsimp only; rw [j2, hlen], ?_, ?_⟩
    · simp only [inoOk, hname, j1, j2, hlen, Bool.true_and, Bool.and_eq_true, decide_eq_true_eq, Bool.and_true]
      exact ⟨⟨h0, h1⟩, by omega⟩
    · refine used_ext (dif_lt _ _) (usedN_lt _) (fun b hb => ?_)
      have e : ((b.toNat : Nat) : Int) = b := by omega
      rw [used_set hn _ b hb, dif_testBit, maskN_testBit _ (fun c hc => (listF_range _ c (List.mem_of_mem_drop hc)).1), e]
      dsimp only
      rw [j2]
      simp only [Bool.and_eq_true, decide_eq_true_eq, Bool.not_eq_true', decide_eq_false_iff_not]
      rw [huse b hb]
      constructor
      · rintro ⟨⟨_, i, hi, hbi⟩, hnd⟩
        by_cases hin : i = n
        · subst hin
          left
          rw [← List.take_append_drop (needF size).toNat (listF L[i].ext)] at hbi
          rcases List.mem_append.1 hbi with h | h
          · exact h
          · exact absurd h hnd
        · exact .inr ⟨i, hi, hin, hbi⟩
      · rintro (h | ⟨i, hi, hin, hbi⟩)
        · have := hr b h
          refine ⟨⟨by omega, n, hn, List.mem_of_mem_take h⟩, fun hd => ?_⟩
          have hnd := listF_nodup L[n].ext
          rw [← List.take_append_drop (needF size).toNat (listF L[n].ext), List.nodup_append] at hnd
          exact hnd.2.2 b h b hd rfl
        · have := listF_nine b hbi
          exact ⟨⟨by omega, i, hi, hbi⟩, fun hd => hdis i hi hin b hbi (List.mem_of_mem_drop hd)⟩
    · intro i hi hin
      rw [apart_iff]; dsimp only; rw [j2]
      exact fun b hb hb2 => hdis i hi hin b hb (List.mem_of_mem_take hb2)
    · intro k hk1 hk2
      dsimp only; rw [j2]
      rw [List.getD_eq_getElem?_getD, List.getElem?_take, if_pos hk2, ← List.getD_eq_getElem?_getD]
    · intro k hk1 hk2; omega
  · rename_i hge
    have hge' : ((listF L[n].ext).length : Int) ≤ needF size := by omega
    rw [grow_same _ _ _ (by omega) f1, growR] at h
    obtain ⟨m1, m2, m3⟩ := moreF_all u (needF size - (listF L[n].ext).length) 23 [] (by omega) (by simp) (by simp) (by simp; omega)
    try dsimp only at h
    generalize moreF u (needF size - (listF L[n].ext).length) 23 [] = more at *
    by_cases hc : (more.length : Int) < needF size - (listF L[n].ext).length
    · rw [if_pos hc] at h; simp at h
    · rw [if_neg hc] at h
      simp only [Option.map_some, Option.some.injEq, Prod.mk.injEq] at h
      obtain ⟨rfl, rfl⟩ := h
      have hfr : ∀ b ∈ more, ∀ i (hi : i < L.length), b ∉ listF (L[i]).ext := fun b hb i hi hbi => by
        have h2 := (m1 b hb).2.2
        have := (huse b (by have := m1 b hb; omega)).2 ⟨i, hi, hbi⟩
        rw [h2] at this; cases this
      have hr : ∀ b ∈ listF L[n].ext ++ more, 9 ≤ b ∧ b < 32 := fun b hb => by
        rcases List.mem_append.1 hb with h | h
        · exact listF_nine b h
        · have := m1 b h; omega
      have hnd : (listF L[n].ext ++ more).Nodup := List.nodup_append.2 ⟨listF_nodup _, m2, fun a ha b hb e => hfr b hb n hn (e ▸ ha)⟩
      obtain ⟨j1, j2⟩ := listF_joins _ hr hnd
      have hlen : (listF L[n].ext ++ more).length = (needF size).toNat := by rw [List.length_append]; omega
      have hml := (maskL_nat more (fun b hb => (m1 b hb).2.1)).2
      refine ⟨?_, rfl, rfl, ?_, ?_, by dsimp only; rw [j2, hlen], ?_, ?_⟩
      · simp only [inoOk, hname, j1, j2, hlen, Bool.true_and, Bool.and_eq_true, decide_eq_true_eq, Bool.and_true]
        exact ⟨⟨h0, h1⟩, by omega⟩
      · refine used_ext (Nat.or_lt_two_pow hul hml) (usedN_lt _) (fun b hb => ?_)
        have e : ((b.toNat : Nat) : Int) = b := by omega
        rw [used_set hn _ b hb, Nat.testBit_or, maskN_testBit _ (fun c hc => by have := m1 c hc; omega), e]
        dsimp only
        rw [j2, Bool.or_eq_true, huse b hb, decide_eq_true_eq, List.mem_append]
        constructor
        · rintro (⟨i, hi, hbi⟩ | h)
          · by_cases hin : i = n
            · subst hin; exact .inl (.inl hbi)
            · exact .inr ⟨i, hi, hin, hbi⟩
          · exact .inl (.inr h)
        · rintro ((h | h) | ⟨i, hi, hin, hbi⟩)
          · exact .inl ⟨n, hn, h⟩
          · exact .inr h
          · exact .inl ⟨i, hi, hbi⟩
      · intro i hi hin
        rw [apart_iff]; dsimp only; rw [j2]
        intro b hb hb2
        rcases List.mem_append.1 hb2 with h | h
        · exact hdis i hi hin b hb h
        · exact hfr b h i hi hb
      · intro k hk1 hk2
        dsimp only; rw [j2]
        simp [List.getD, List.getElem?_append_left hk1]
      · intro k hk1 hk2 i hi
        dsimp only; rw [j2]
        have hk3 : k < (listF L[n].ext ++ more).length := by omega
        rw [show (listF L[n].ext ++ more).getD k 0 = more[k - (listF L[n].ext).length]'(by rw [List.length_append] at hk3; omega) by
          rw [List.getD_eq_getElem?_getD, List.getElem?_append_right hk1, List.getElem?_eq_getElem (by rw [List.length_append] at hk3; omega), Option.getD_some]]
        exact hfr _ (List.getElem_mem _) i hi
end Go.Proofs.YtoajnmbbgbpbgaaGreat
namespace Go.Proofs.YtoajnmbbgbpbgaaGreat
set_option linter.unusedVariables false
set_option linter.unusedSimpArgs false

/-- Where byte k of a file stands. -/
def addrF (xs : List (Int × Int)) (k : Nat) : Int := 6144 + 64 * (listF xs).getD (k / 64) 0 + ((k % 64 : Nat) : Int)
theorem getD_mem {l : List Int} {k : Nat} (h : k < l.length) : l.getD k 0 ∈ l := by
  rw [List.getD_eq_getElem?_getD, List.getElem?_eq_getElem h, Option.getD_some]; exact List.getElem_mem h
theorem addrF_range {xs : List (Int × Int)} {k : Nat} (h : k / 64 < (listF xs).length) : 6720 ≤ addrF xs k ∧ addrF xs k < 8192 := by
  have := listF_nine _ (getD_mem h)
  rw [addrF]; omega
theorem getD_inj {l : List Int} (hn : l.Nodup) {i j : Nat} (hi : i < l.length) (hj : j < l.length) (h : l.getD i 0 = l.getD j 0) : i = j := by
  simp only [List.getD_eq_getElem?_getD, List.getElem?_eq_getElem hi, List.getElem?_eq_getElem hj, Option.getD_some] at h
  exact (List.getElem_inj hn).1 h
theorem addrF_inj {xs : List (Int × Int)} {k k' : Nat} (h : k / 64 < (listF xs).length) (h' : k' / 64 < (listF xs).length) (e : addrF xs k = addrF xs k') : k = k' := by
  have h1 := listF_nine _ (getD_mem h)
  have h2 := listF_nine _ (getD_mem h')
  rw [addrF, addrF] at e
  have e1 : (listF xs).getD (k / 64) 0 = (listF xs).getD (k' / 64) 0 := by omega
  have := getD_inj (listF_nodup xs) h h' e1
  omega
/-- A file's byte, its first bytes. -/
def byteF (B : List Int) (xs : List (Int × Int)) (k : Nat) : Int := B.getD (addrF xs k).toNat 0
def contF (B : List Int) (xs : List (Int × Int)) (o n : Nat) : List Int := (List.range n).map fun k => byteF B xs (o + k)
theorem contF_length (B : List Int) (xs : List (Int × Int)) (o n : Nat) : (contF B xs o n).length = n := by simp [contF]
theorem contF_get (B : List Int) (xs : List (Int × Int)) (o n k : Nat) (h : k < n) : (contF B xs o n).getD k 0 = byteF B xs (o + k) := by simp [contF, List.getD, h]
theorem contF_range (B : List Int) (hB : ∀ b ∈ B, 0 ≤ b ∧ b < 256) (xs : List (Int × Int)) (o n : Nat) : ∀ b ∈ contF B xs o n, 0 ≤ b ∧ b < 256 := by
  intro b hb
  simp only [contF, List.mem_map] at hb
  obtain ⟨k, -, rfl⟩ := hb
  exact getD_range B hB _
/-- Bytes from b on of a file's, as a block has them. -/
theorem byteF_blk (B : List Int) (xs : List (Int × Int)) (k : Nat) (h : k / 64 < (listF xs).length) : byteF B xs k = (blk B ((listF xs).getD (k / 64) 0).toNat).getD (k % 64) 0 := by
  have h1 := listF_nine _ (getD_mem h)
  rw [blk_get _ _ _ (by omega) (by omega), byteF, addrF]
  congr 1; omega
theorem byteF_same {B B' : List Int} {xs : List (Int × Int)} (hb : ∀ b ∈ listF xs, blk B' b.toNat = blk B b.toNat) (k : Nat) (h : k / 64 < (listF xs).length) : byteF B' xs k = byteF B xs k := by
  rw [byteF_blk _ _ _ h, byteF_blk _ _ _ h, hb _ (getD_mem h)]
theorem contF_same {B B' : List Int} {xs : List (Int × Int)} (hb : ∀ b ∈ listF xs, blk B' b.toNat = blk B b.toNat) (n : Nat) (h : n ≤ 64 * (listF xs).length) : contF B' xs 0 n = contF B xs 0 n := by
  apply List.map_congr_left
  intro k hk
  rw [List.mem_range] at hk
  exact byteF_same hb _ (by omega)

/-- Bytes of a file stored one by one, the first i of them. -/
def wrN (B : List Int) (xs : List (Int × Int)) (o : Nat) (b : List Int) : Nat → List Int
  | 0 => B
  | i + 1 => layF (wrN B xs o b i) (addrF xs (o + i)) [b.getD i 0]
def wrF (B : List Int) (xs : List (Int × Int)) (o : Nat) (b : List Int) : List Int := wrN B xs o b b.length
theorem wrN_length (B : List Int) (xs : List (Int × Int)) (o : Nat) (b : List Int) (i : Nat) : (wrN B xs o b i).length = B.length := by
  induction i with
  | zero => rfl
  | succ i ih => rw [wrN, layF_length, ih]
theorem layF_one (B : List Int) (hB : B.length = 8192) (a x : Int) (h0 : 0 ≤ a) (h1 : a < 8192) (j : Nat) (hj : j < 8192) : (layF B a [x]).getD j 0 = if (j : Int) = a then x else B.getD j 0 := by
  rw [layF_get B hB _ _ _ hj]
  by_cases e : (j : Int) = a
  · rw [if_pos (by simp; omega), if_pos e, show ((j : Int) - a).toNat = 0 by omega]; rfl
  · rw [if_neg (by simp; omega), if_neg e]
theorem wrN_other (B : List Int) (hB : B.length = 8192) (xs : List (Int × Int)) (o : Nat) (b : List Int) (i : Nat) (hi : i = 0 ∨ (o + i - 1) / 64 < (listF xs).length) (j : Nat) (hj : j < 8192) (hne : ∀ k, k < i → (j : Int) ≠ addrF xs (o + k)) : (wrN B xs o b i).getD j 0 = B.getD j 0 := by
  induction i with
  | zero => rfl
  | succ i ih =>
    have hlt : (o + i) / 64 < (listF xs).length := by rcases hi with h | h; omega; exact h
    have hr := addrF_range hlt
    rw [wrN, layF_one _ (by rw [wrN_length, hB]) _ _ (by omega) hr.2 j hj, if_neg (hne i (by omega))]
    exact ih (.inr (by omega)) (fun k hk => hne k (by omega))
theorem wrN_at (B : List Int) (hB : B.length = 8192) (xs : List (Int × Int)) (o : Nat) (b : List Int) (i : Nat) (hi : i = 0 ∨ (o + i - 1) / 64 < (listF xs).length) (k : Nat) (hk : k / 64 < (listF xs).length) : byteF (wrN B xs o b i) xs k = if o ≤ k ∧ k < o + i then b.getD (k - o) 0 else byteF B xs k := by
  induction i with
  | zero => rw [if_neg (by omega)]; rfl
  | succ i ih =>
    have hlt : (o + i) / 64 < (listF xs).length := by rcases hi with h | h; omega; exact h
    have hr := addrF_range hlt
    have hrk := addrF_range hk
    rw [byteF, wrN, layF_one _ (by rw [wrN_length, hB]) _ _ (by omega) hr.2 _ (by omega)]
    have e1 : (((addrF xs k).toNat : Nat) : Int) = addrF xs k := by omega
    rw [e1]
    by_cases e : k = o + i
    · subst e; rw [if_pos rfl, if_pos (by omega), show o + i - o = i by omega]
    · rw [if_neg (fun h => e (addrF_inj hk hlt h))]
      have := ih (.inr (by omega))
      rw [byteF] at this
      rw [this]
      by_cases h2 : o ≤ k ∧ k < o + i
      · rw [if_pos h2, if_pos (by omega)]
      · rw [if_neg h2, if_neg (by omega)]
/-- Bytes laid as one, and one by one. -/
theorem layF_snoc (B : List Int) (a : Int) (l : List Int) (k : Nat) (hk : k < l.length) : layF B a (l.take (k + 1)) = layF (layF B a (l.take k)) (a + k) [l.getD k 0] := by
  have hp : ∀ (i : Nat) (m m' : List Int), (∀ j, j < i → m.getD j 0 = m'.getD j 0) → layN B a m i = layN B a m' i := by
    intro i
    induction i with
    | zero => intros; rfl
    | succ i ih => intro m m' h; rw [layN, layN, ih m m' (fun j hj => h j (by omega)), h i (by omega)]
  have hl : (l.take (k + 1)).length = k + 1 := by rw [List.length_take]; omega
  have hl' : (l.take k).length = k := by rw [List.length_take]; omega
  have hg : ∀ j, j < k + 1 → (l.take (k + 1)).getD j 0 = l.getD j 0 := fun j hj => by
    rw [List.getD_eq_getElem?_getD, List.getElem?_take, if_pos hj, ← List.getD_eq_getElem?_getD]
  have hg' : ∀ j, j < k → (l.take k).getD j 0 = l.getD j 0 := fun j hj => by
    rw [List.getD_eq_getElem?_getD, List.getElem?_take, if_pos hj, ← List.getD_eq_getElem?_getD]
  rw [layF, hl, layF, layF, hl', layN, List.length_singleton, layN, layN, hg k (by omega)]
  rw [hp k (l.take (k + 1)) (l.take k) (fun j hj => by rw [hg j (by omega), hg' j hj])]
  simp
/-- A piece of bytes inside one block, laid as one. -/
theorem wr_piece (B : List Int) (xs : List (Int × Int)) (o : Nat) (b : List Int) (i n : Nat) (hn : (o + i) % 64 + n ≤ 64) (hb : i + n ≤ b.length) : layF (wrN B xs o b i) (addrF xs (o + i)) ((b.drop i).take n) = wrN B xs o b (i + n) := by
  induction n with
  | zero => rw [List.take_zero]; rfl
  | succ n ih =>
    rw [layF_snoc _ _ _ _ (by rw [List.length_drop]; omega), ih (by omega) (by omega), ← Nat.add_assoc, wrN]
    congr 1
    · rw [addrF, addrF, show (o + (i + n)) / 64 = (o + i) / 64 by omega, show (o + (i + n)) % 64 = (o + i) % 64 + n by omega]; omega
    · congr 1
      rw [List.getD_eq_getElem?_getD, List.getElem?_drop, ← List.getD_eq_getElem?_getD]
theorem wrN_blk (B : List Int) (hB : B.length = 8192) (xs : List (Int × Int)) (o : Nat) (b : List Int) (i : Nat) (hi : i = 0 ∨ (o + i - 1) / 64 < (listF xs).length) (q : Nat) (hq : q < 32) (hne : (q : Int) ∉ listF xs) : blk (wrN B xs o b i) q = blk B q := by
  refine ext_getD (by simp [blk_length]) (fun j hj => ?_)
  rw [blk_length] at hj
  rw [blk_get _ _ _ hq hj, blk_get _ _ _ hq hj]
  refine wrN_other B hB xs o b i hi _ (by omega) (fun k hk e => ?_)
  have hlt : (o + k) / 64 < (listF xs).length := by rcases hi with h | h <;> omega
  have hm := getD_mem hlt
  have hr := listF_nine _ hm
  rw [addrF] at e
  have : (listF xs).getD ((o + k) / 64) 0 = q := by omega
  rw [this] at hm
  exact hne hm
theorem Tab.wr {B : List Int} (hB : B.length = 8192) {L : List Nd} {u : Nat} (h : Tab B L u) (xs : List (Int × Int)) (o : Nat) (b : List Int) (i : Nat) (hi : i = 0 ∨ (o + i - 1) / 64 < (listF xs).length) : Tab (wrN B xs o b i) L u := by
  induction i with
  | zero => exact h
  | succ i ih =>
    have hlt : (o + i) / 64 < (listF xs).length := by rcases hi with h | h; omega; exact h
    exact (ih (.inr (by omega))).other (by rw [wrN_length, hB]) _ _ (.inr (addrF_range hlt).1)

/-- Blocks made nought. -/
def zeroN (B : List Int) (bs : List Int) : List Int := bs.foldl (fun B b => layF B (6144 + 64 * b) (zs 64)) B
theorem zeroN_length (B : List Int) (bs : List Int) : (zeroN B bs).length = B.length := by
  induction bs generalizing B with
  | nil => rfl
  | cons b bs ih => rw [zeroN, List.foldl_cons]; exact (ih _).trans (layF_length _ _ _)
theorem zeroN_snoc (B : List Int) (bs : List Int) (b : Int) : zeroN B (bs ++ [b]) = layF (zeroN B bs) (6144 + 64 * b) (zs 64) := by simp [zeroN]
theorem zeroN_blk (B : List Int) (hB : B.length = 8192) (bs : List Int) (hr : ∀ b ∈ bs, 9 ≤ b ∧ b < 32) (q : Nat) (hq : q < 32) (hne : (q : Int) ∉ bs) : blk (zeroN B bs) q = blk B q := by
  induction bs generalizing B with
  | nil => rfl
  | cons b bs ih =>
    rw [zeroN, List.foldl_cons]
    refine (ih _ (by rw [layF_length, hB]) (fun c hc => hr c (by simp [hc])) (fun h => hne (by simp [h]))).trans ?_
    have h1 := hr b (by simp)
    have h2 : (q : Int) ≠ b := fun e => hne (by simp [e])
    exact blk_other _ hB _ _ _ hq (by rw [zs_length]; omega)
theorem Tab.zero {B : List Int} (hB : B.length = 8192) {L : List Nd} {u : Nat} (h : Tab B L u) (bs : List Int) (hr : ∀ b ∈ bs, 9 ≤ b ∧ b < 32) : Tab (zeroN B bs) L u := by
  induction bs generalizing B with
  | nil => exact h
  | cons b bs ih =>
    rw [zeroN, List.foldl_cons]
    have h1 := hr b (by simp)
    exact ih (by rw [layF_length, hB]) (h.other hB _ _ (.inr (by omega))) (fun c hc => hr c (by simp [hc]))
/-- The last block's bytes behind the end made nought. -/
def restB (B : List Int) (xs : List (Int × Int)) (m : Int) : List Int :=
  if 0 < m % 64 then layF B (6144 + 64 * (listF xs).getD ((needF m).toNat - 1) 0 + m % 64) (zs (64 - m % 64).toNat) else B
theorem restB_length (B : List Int) (xs : List (Int × Int)) (m : Int) : (restB B xs m).length = B.length := by
  rw [restB]; split
  · exact layF_length _ _ _
  · rfl
theorem need_rest {m : Int} (h0 : 0 ≤ m) (h1 : 0 < m % 64) : 1 ≤ (needF m).toNat ∧ ((needF m).toNat - 1 : Nat) = (m / 64).toNat := by
  rw [needF]; split <;> omega
theorem Tab.rest {B : List Int} (hB : B.length = 8192) {L : List Nd} {u : Nat} (h : Tab B L u) (xs : List (Int × Int)) (m : Int) (h0 : 0 ≤ m) (hl : (listF xs).length = (needF m).toNat) : Tab (restB B xs m) L u := by
  rw [restB]; split
  · rename_i h1
    have h2 := need_rest h0 h1
    have := listF_nine _ (getD_mem (l := listF xs) (k := (needF m).toNat - 1) (by omega))
    exact h.other hB _ _ (.inr (by omega))
  · exact h
theorem restB_blk (B : List Int) (hB : B.length = 8192) (xs : List (Int × Int)) (m : Int) (h0 : 0 ≤ m) (hl : (listF xs).length = (needF m).toNat) (q : Nat) (hq : q < 32) (hne : (q : Int) ∉ listF xs) : blk (restB B xs m) q = blk B q := by
  rw [restB]; split
  · rename_i h1
    have h2 := need_rest h0 h1
    have hm := getD_mem (l := listF xs) (k := (needF m).toNat - 1) (by omega)
    have h3 : (q : Int) ≠ (listF xs).getD ((needF m).toNat - 1) 0 := fun e => hne (e ▸ hm)
    exact blk_other _ hB _ _ _ hq (by rw [zs_length]; omega)
  · rfl
theorem restB_byte (B : List Int) (hB : B.length = 8192) (xs : List (Int × Int)) (m : Int) (h0 : 0 ≤ m) (hl : (listF xs).length = (needF m).toNat) (k : Nat) (hk : (k : Int) < m) : byteF (restB B xs m) xs k = byteF B xs k := by
  have hk64 : k / 64 < (listF xs).length := by rw [hl, needF]; split <;> omega
  rw [restB]; split
  · rename_i h1
    have h2 := need_rest h0 h1
    have hr := addrF_range hk64
    rw [byteF, layF_get _ hB _ _ _ (by omega), if_neg, byteF]
    rintro ⟨g1, g2⟩
    rw [zs_length] at g2
    have hm := listF_nine _ (getD_mem hk64)
    have hm2 := listF_nine _ (getD_mem (l := listF xs) (k := (needF m).toNat - 1) (by omega))
    rw [addrF] at g1 g2
    have e1 : (listF xs).getD (k / 64) 0 = (listF xs).getD ((needF m).toNat - 1) 0 := by omega
    have := getD_inj (listF_nodup xs) hk64 (by omega) e1
    omega
  · rfl

/-- A file of another size: its new blocks, the bytes behind its end, the table. -/
def resizeB (B : List Int) (L : List Nd) (n : Nat) (x' : Nd) (u' : Nat) (h : Nat) : List Int := layT (restB (zeroN B ((listF x'.ext).drop h)) x'.ext x'.size) n (L.set n x') u'
theorem resizeB_length (B : List Int) (L : List Nd) (n : Nat) (x' : Nd) (u' : Nat) (h : Nat) : (resizeB B L n x' u' h).length = B.length := by rw [resizeB, layT_length, restB_length, zeroN_length]
theorem layT_blk (B : List Int) (hB : B.length = 8192) (n : Nat) (hn : n < 8) (L : List Nd) (u : Nat) (hg : (L.getD n Nd.free).good) (q : Nat) (hq : q < 32) (h9 : 9 ≤ q) : blk (layT B n L u) q = blk B q := by
  rw [layT, blk_other _ (by rw [layF_length, hB]) _ _ _ hq (by rw [headF_length]; omega), blk_other _ hB _ _ _ hq (by rw [ndB_length hg]; omega)]
theorem Tab.pairs {B : List Int} {L : List Nd} {u : Nat} (h : Tab B L u) : L.Pairwise namesApart ∧ L.Pairwise blocksApart := ⟨h.1.2.2.1, h.1.2.2.2.1⟩
theorem resize_tab {B : List Int} (hB : B.length = 8192) {L : List Nd} {u : Nat} (h : Tab B L u) {n : Nat} (hn : n < 8) {x x' : Nd} (hx : L.getD n Nd.free = x) (hnm : x.name ≠ noName) {m : Int} {u' : Nat} (h0 : 0 ≤ m) (h1 : m ≤ 1472) (hr : resizeT x u m = some (x', u')) :
    Resized L n x m x' u' ∧ Tab (resizeB B L n x' u' (listF x.ext).length) (L.set n x') u' := by
  have hlen := h.len
  have hn' : n < L.length := by omega
  have hx' : L[n] = x := by rw [← hx]; simp [List.getD, hn']
  subst hx'
  have hR := resize_ok h.good h.pairs.2 h.used hn' hnm h0 h1 hr
  refine ⟨hR, ?_⟩
  have hz : ∀ b ∈ (listF x'.ext).drop (listF L[n].ext).length, 9 ≤ b ∧ b < 32 := fun b hb => listF_nine b (List.mem_of_mem_drop hb)
  have t1 := h.zero hB _ hz
  have t2 := t1.rest (by rw [zeroN_length, hB]) x'.ext x'.size (by rw [hR.size]; exact h0) (by rw [hR.len, hR.size])
  have := t2.put (by rw [restB_length, zeroN_length, hB]) n hn x' (.inr hR.ok) (fun i hi hne => by
    intro e
    rw [hR.name] at e
    have hp := h.pairs.1
    rw [List.pairwise_iff_getElem] at hp
    rcases Nat.lt_or_ge i n with hlt | hge
    · exact hp i n hi hn' hlt e
    · have := hp n i hn' hi (by omega) e.symm
      exact absurd this hnm) hR.apart
  rw [← hR.used] at this
  exact this
theorem resize_blk {B : List Int} (hB : B.length = 8192) {L : List Nd} (hlen : L.length = 8) {n : Nat} (hn : n < 8) {x x' : Nd} {m : Int} {u' : Nat} (h0 : 0 ≤ m) (hR : Resized L n x m x' u') (q : Nat) (hq : q < 32) (h9 : 9 ≤ q) (hne : (q : Int) ∉ listF x'.ext) : blk (resizeB B L n x' u' (listF x.ext).length) q = blk B q := by
  rw [resizeB, layT_blk _ (by rw [restB_length, zeroN_length, hB]) n hn _ _ (by simp [List.getD, hlen, hn]; exact .inr hR.ok) q hq h9]
  rw [restB_blk _ (by rw [zeroN_length, hB]) _ _ (by rw [hR.size]; exact h0) (by rw [hR.len, hR.size]) q hq hne]
  exact zeroN_blk _ hB _ (fun b hb => listF_nine b (List.mem_of_mem_drop hb)) q hq (fun h => hne (List.mem_of_mem_drop h))
/-- What a file of another size has of the old bytes. -/
theorem resize_byte {B : List Int} (hB : B.length = 8192) {L : List Nd} (hlen : L.length = 8) {n : Nat} (hn : n < 8) {x x' : Nd} {m : Int} {u' : Nat} (h0 : 0 ≤ m) (hR : Resized L n x m x' u') (k : Nat) (hk : k / 64 < (listF x.ext).length) (hkm : (k : Int) < m) :
    byteF (resizeB B L n x' u' (listF x.ext).length) x'.ext k = byteF B x.ext k := by
  have hk64 : k / 64 < (listF x'.ext).length := by rw [hR.len, needF]; split <;> omega
  have hpre := hR.pre _ hk (by rw [← hR.len]; exact hk64)
  have h9 := listF_nine _ (getD_mem hk64)
  rw [byteF_blk _ _ _ hk64, resizeB, layT_blk _ (by rw [restB_length, zeroN_length, hB]) n hn _ _ (by simp [List.getD, hlen, hn]; exact .inr hR.ok) _ (by omega) (by omega)]
  rw [← byteF_blk _ _ _ hk64, restB_byte _ (by rw [zeroN_length, hB]) _ _ (by rw [hR.size]; exact h0) (by rw [hR.len, hR.size]) k (by rw [hR.size]; exact hkm), byteF_blk _ _ _ hk64, hpre]
  rw [hpre] at h9
  rw [zeroN_blk _ hB _ (fun b hb => listF_nine b (List.mem_of_mem_drop hb)) _ (by omega), ← byteF_blk _ _ _ hk]
  intro hmem
  rw [Int.toNat_of_nonneg (by omega), ← hpre] at hmem
  obtain ⟨j, hj, e⟩ := List.mem_iff_getElem.1 hmem
  rw [List.getElem_drop] at e
  rw [List.length_drop] at hj
  have := getD_inj (listF_nodup x'.ext) (i := (listF x.ext).length + j) (j := k / 64) (by omega) hk64 (by rw [← e, List.getD_eq_getElem?_getD, List.getElem?_eq_getElem (by omega), Option.getD_some])
  omega
end Go.Proofs.YtoajnmbbgbpbgaaGreat
namespace Go.Proofs.YtoajnmbbgbpbgaaGreat
set_option linter.unusedVariables false
set_option linter.unusedSimpArgs false

/-- How many of the last d blocks are free. -/
def freeN (u : Nat) : Nat → Nat
  | 0 => 0
  | d + 1 => freeN u d + (if u.testBit (31 - d) then 0 else 1)
theorem moreF_count (u : Nat) (n : Nat) (d : Nat) (acc : List Int) (h : acc.length ≤ n) : (moreF u n d acc).length = min n (acc.length + freeN u d) := by
  induction d generalizing acc with
  | zero => simp [moreF, freeN]; omega
  | succ d ih =>
    rw [moreF, freeN]
    split
    · split
      · rename_i h1 h2; rw [ih acc h]; omega
      · rename_i h1 h2
        rw [ih _ (by simp; omega)]; simp; omega
    · omega
theorem freeN_filter (u : Nat) (d : Nat) (hd : d ≤ 23) : freeN u d = (((List.range d).map fun i : Nat => 31 - i).filter fun b => !u.testBit b).length := by
  induction d with
  | zero => rfl
  | succ d ih =>
    rw [freeN, ih (by omega), List.range_succ, List.map_append, List.filter_append, List.length_append]
    congr 1
    by_cases h : u.testBit (31 - d) = true <;> simp [h]
/-- All files' blocks. -/
def allB (L : List Nd) : List Int := L.flatMap fun x => listF x.ext
theorem allB_mem (L : List Nd) (b : Int) : b ∈ allB L ↔ ∃ x ∈ L, b ∈ listF x.ext := by simp [allB]
theorem allB_nodup {L : List Nd} (h : L.Pairwise blocksApart) : (allB L).Nodup := by
  induction L with
  | nil => exact List.nodup_nil
  | cons x L ih =>
    obtain ⟨h1, h2⟩ := List.pairwise_cons.1 h
    rw [allB, List.flatMap_cons]
    refine List.nodup_append.2 ⟨listF_nodup _, ih h2, fun a ha b hb e => ?_⟩
    obtain ⟨y, hy, hby⟩ := (allB_mem L b).1 hb
    subst e
    exact (apart_iff x y).1 (h1 y hy) a ha hby
def sumB (L : List Nd) : Nat := (L.map fun x => (listF x.ext).length).sum
theorem sumB_eq (L : List Nd) : (allB L).length = sumB L := by simp [allB, sumB, List.length_flatMap]
theorem filter_not_length {α : Type} (p : α → Bool) (l : List α) : (l.filter p).length + (l.filter fun x => !p x).length = l.length := by
  induction l with
  | nil => rfl
  | cons x l ih => by_cases h : p x = true <;> simp [h] <;> omega
theorem used_mem {L : List Nd} (b : Nat) : (usedN L).testBit b = true ↔ (b : Int) ∈ allB L := by
  have := used_iff L (b : Int) (by omega)
  rw [Int.toNat_natCast] at this
  rw [this, allB_mem]
  exact ⟨fun ⟨i, hi, h⟩ => ⟨L[i], List.getElem_mem hi, h⟩, fun ⟨x, hx, h⟩ => by obtain ⟨i, hi, rfl⟩ := List.mem_iff_getElem.1 hx; exact ⟨i, hi, h⟩⟩
/-- The blocks that are free, and those that files have, are all there are. -/
theorem free_sum {L : List Nd} (h : L.Pairwise blocksApart) : freeN (usedN L) 23 + sumB L = 23 := by
  rw [freeN_filter _ _ (Nat.le_refl _), ← sumB_eq]
  have hR : ((List.range 23).map fun i : Nat => 31 - i).Nodup := by decide
  have hf := filter_not_length (fun b => (usedN L).testBit b) ((List.range 23).map fun i : Nat => 31 - i)
  have hl : ((List.range 23).map fun i : Nat => 31 - i).length = 23 := by simp
  have hnd := allB_nodup h
  have hnd' : (((List.range 23).map fun i : Nat => 31 - i).filter fun b => (usedN L).testBit b).Nodup := hR.sublist List.filter_sublist
  have e : (((List.range 23).map fun i : Nat => 31 - i).filter fun b => (usedN L).testBit b).length = (allB L).length := by
    apply Nat.le_antisymm
    · have h1 : ((((List.range 23).map fun i : Nat => 31 - i).filter fun b => (usedN L).testBit b).map fun b : Nat => (b : Int)).Nodup := by
        rw [List.nodup_iff_pairwise_ne] at hnd' ⊢
        rw [List.pairwise_map]
        exact hnd'.imp (fun h e => h (by omega))
      have := h1.length_le_of_subset (l₂ := allB L) (fun b hb => by
        obtain ⟨q, hq, rfl⟩ := List.mem_map.1 hb
        exact (used_mem q).1 (List.mem_filter.1 hq).2)
      simpa using this
    · have := hnd.length_le_of_subset (l₂ := (((List.range 23).map fun i : Nat => 31 - i).filter fun b => (usedN L).testBit b).map fun b : Nat => (b : Int)) (fun b hb => by
        obtain ⟨x, hx, hbx⟩ := (allB_mem L b).1 hb
        have hr := listF_nine b hbx
        refine List.mem_map.2 ⟨b.toNat, List.mem_filter.2 ⟨List.mem_map.2 ⟨31 - b.toNat, by simp; omega, by omega⟩, ?_⟩, by omega⟩
        exact (used_mem _).2 (by rw [Int.toNat_of_nonneg (by omega)]; exact hb))
      simpa using this
  omega
/-- When there is room for more blocks. -/
theorem resize_room {L : List Nd} {n : Nat} {u : Nat} (hgood : ∀ x ∈ L, x.good) (hap : L.Pairwise blocksApart) (hu : u = usedN L) (hn : n < L.length) {m : Int} (h0 : 0 ≤ m) (hge : ((listF L[n].ext).length : Int) ≤ needF m) :
    resizeT L[n] u m = none ↔ (23 : Int) < sumB L + (needF m - (listF L[n].ext).length) := by
  have hg := hgood L[n] (List.getElem_mem hn)
  obtain ⟨f1, -⟩ := hg.facts
  have hs := free_sum hap
  rw [← hu] at hs
  obtain ⟨k, hk⟩ := Int.eq_ofNat_of_zero_le (show 0 ≤ needF m - (listF L[n].ext).length by omega)
  rw [resizeT, if_neg (by omega), grow_same _ _ _ (by omega) f1, growR, hk]
  have hc := moreF_count u k 23 [] (by simp)
  simp only [List.length_nil, Nat.zero_add] at hc
  try dsimp only
  have hc' : ((moreF u (k : Int) 23 []).length : Int) = ((min k (freeN u 23) : Nat) : Int) := by rw [hc]
  by_cases hlt : ((moreF u (k : Int) 23 []).length : Int) < (k : Int)
  · rw [if_pos hlt]; simp; omega
  · rw [if_neg hlt]; simp; omega
end Go.Proofs.YtoajnmbbgbpbgaaGreat
namespace Go.Proofs.YtoajnmbbgbpbgaaGreat
set_option linter.unusedVariables false
set_option linter.unusedSimpArgs false

theorem listF_empty : listF [] = [] := by decide
theorem good_free {x : Nd} (h : x.good) (e : x.name = noName) : x = Nd.free := by
  rcases h with h | h
  · exact h
  · exact absurd e (good_name h)
theorem nameF_ne {s : ByteArray} (h : nameF s = true) : s ≠ noName := by
  rintro rfl; exact absurd h (by decide)
theorem new_ok {s : ByteArray} (h : nameF s = true) : inoOk s 0 [] = true := by
  rw [inoOk, h]; decide
theorem getD_get {L : List Nd} {n : Nat} (h : n < L.length) : L.getD n Nd.free = L[n] := by simp [List.getD, h]
theorem used_same {L : List Nd} {n : Nat} (hn : n < L.length) {x : Nd} (h : ∀ b, b ∈ listF x.ext ↔ b ∈ listF (L[n]).ext) : usedN (L.set n x) = usedN L := by
  refine used_ext (usedN_lt _) (usedN_lt _) (fun b hb => ?_)
  rw [used_set hn x b hb, used_iff L b hb]
  constructor
  · rintro (h1 | ⟨i, hi, -, h1⟩)
    · exact ⟨n, hn, (h b).1 h1⟩
    · exact ⟨i, hi, h1⟩
  · rintro ⟨i, hi, h1⟩
    by_cases e : i = n
    · subst e; exact .inl ((h b).2 h1)
    · exact .inr ⟨i, hi, e, h1⟩
/-- The names of other inodes than one are other ones. -/
theorem Tab.others {B : List Int} {L : List Nd} {u : Nat} (h : Tab B L u) {n : Nat} (hn : n < L.length) (hnm : L[n].name ≠ noName) (i : Nat) (hi : i < L.length) (hne : i ≠ n) : L[i].name ≠ L[n].name := by
  intro e
  have hp := h.pairs.1
  rw [List.pairwise_iff_getElem] at hp
  rcases Nat.lt_or_ge i n with hlt | hge
  · exact hnm (e ▸ hp i n hi hn hlt e)
  · exact hnm (hp n i hn hi (by omega) e.symm)
theorem Tab.apart {B : List Int} {L : List Nd} {u : Nat} (h : Tab B L u) {n : Nat} (hn : n < L.length) (i : Nat) (hi : i < L.length) (hne : i ≠ n) : blocksApart L[i] L[n] := by
  have hp := h.pairs.2
  rw [List.pairwise_iff_getElem] at hp
  rcases Nat.lt_or_ge i n with hlt | hge
  · exact hp i n hi hn hlt
  · exact blocksApart_symm _ _ (hp n i hn hi (by omega))
/-- A file made. -/
theorem create_tab {B : List Int} (hB : B.length = 8192) {L : List Nd} {u : Nat} (h : Tab B L u) {n : Nat} (hn : n < L.length) (hf : L[n].name = noName) {s : ByteArray} (hs : nameF s = true) (hnew : ∀ x ∈ L, x.name ≠ s) :
    Tab (layT B n (L.set n ⟨s, 0, []⟩) u) (L.set n ⟨s, 0, []⟩) u := by
  have hx := good_free (h.good _ (List.getElem_mem hn)) hf
  have hu : usedN (L.set n ⟨s, 0, []⟩) = u := by rw [used_same hn, ← h.used]; intro b; rw [hx]; exact Iff.rfl
  have := h.put hB n (by rw [← h.len]; exact hn) ⟨s, 0, []⟩ (.inr (new_ok hs)) (fun i hi hne e => absurd e (hnew _ (List.getElem_mem hi))) (fun i hi hne => by
    rw [apart_iff]; intro b _ hb; rw [listF_empty] at hb; exact absurd hb (by simp))
  rw [hu] at this
  exact this
/-- A file given up. -/
theorem delete_tab {B : List Int} (hB : B.length = 8192) {L : List Nd} {u : Nat} (h : Tab B L u) {n : Nat} (hn : n < L.length) :
    Tab (layT B n (L.set n Nd.free) (dif u (maskX L[n]))) (L.set n Nd.free) (dif u (maskX L[n])) := by
  have hu : usedN (L.set n Nd.free) = dif u (maskX L[n]) := by
    refine used_ext (usedN_lt _) (dif_lt _ _) (fun b hb => ?_)
    have e : ((b.toNat : Nat) : Int) = b := by omega
    rw [used_set hn _ b hb, dif_testBit, maskX_bit, e, h.used]
    simp only [Bool.and_eq_true, decide_eq_true_eq, Bool.not_eq_true', decide_eq_false_iff_not]
    rw [used_iff L b hb]
    constructor
    · rintro (h1 | ⟨i, hi, hne, h1⟩)
      · exact absurd h1 (by simp [Nd.free, listF, blkSeq])
      · have := listF_nine b h1
        exact ⟨⟨by omega, i, hi, h1⟩, (apart_iff _ _).1 (h.apart hn i hi hne) b h1⟩
    · rintro ⟨⟨-, i, hi, h1⟩, h2⟩
      exact .inr ⟨i, hi, fun e => by subst e; exact h2 h1, h1⟩
  have := h.put hB n (by rw [← h.len]; exact hn) Nd.free (.inl rfl) (fun i hi hne e => e) (fun i hi hne => by
    rw [apart_iff]; intro b _ hb; exact absurd hb (by simp [Nd.free, listF, blkSeq]))
  rw [hu] at this
  exact this
theorem rename_ok {x : Nd} (h : inoOk x.name x.size x.ext = true) {s : ByteArray} (hs : nameF s = true) : inoOk s x.size x.ext = true := by
  simp only [inoOk, Bool.and_eq_true] at h ⊢
  exact ⟨⟨⟨⟨hs, h.1.1.1.2⟩, h.1.1.2⟩, h.1.2⟩, h.2⟩
theorem rename_tab {B : List Int} (hB : B.length = 8192) {L : List Nd} {u : Nat} (h : Tab B L u) {n : Nat} (hn : n < L.length) (hnm : L[n].name ≠ noName) {s : ByteArray} (hs : nameF s = true) (hnew : ∀ x ∈ L, x.name ≠ s) :
    Tab (layT B n (L.set n ⟨s, L[n].size, L[n].ext⟩) u) (L.set n ⟨s, L[n].size, L[n].ext⟩) u := by
  have hu : usedN (L.set n ⟨s, L[n].size, L[n].ext⟩) = u := by rw [used_same hn, ← h.used]; intro b; exact Iff.rfl
  have hok : inoOk L[n].name L[n].size L[n].ext = true := by
    rcases h.good _ (List.getElem_mem hn) with e | e
    · rw [e] at hnm; exact absurd rfl hnm
    · exact e
  have := h.put hB n (by rw [← h.len]; exact hn) ⟨s, L[n].size, L[n].ext⟩ (.inr (rename_ok hok hs)) (fun i hi hne e => absurd e (hnew _ (List.getElem_mem hi))) (fun i hi hne => h.apart hn i hi hne)
  rw [hu] at this
  exact this

/-- A name's inode; -1. -/
def findL (s : ByteArray) : List Nd → Int → Int
  | [], _ => -1
  | x :: L, i => if x.name = s then i else findL s L (i + 1)
def findI (L : List Nd) (s : ByteArray) : Int := findL s L 0
theorem findL_spec (s : ByteArray) (L : List Nd) (i : Nat) : (findL s L i = -1 ∧ ∀ x ∈ L, x.name ≠ s) ∨ ∃ k, ∃ hk : k < L.length, findL s L i = ((i + k : Nat) : Int) ∧ L[k].name = s ∧ ∀ j (hj : j < k), (L[j]'(by omega)).name ≠ s := by
  induction L generalizing i with
  | nil => exact .inl ⟨rfl, by simp⟩
  | cons x L ih =>
    rw [findL]
    by_cases h : x.name = s
    · rw [if_pos h]; exact .inr ⟨0, by simp, by simp, h, fun j hj => by omega⟩
    · rw [if_neg h]
      have := ih (i + 1)
      rw [Int.natCast_add] at this
      rcases this with ⟨h1, h2⟩ | ⟨k, hk, h1, h2, h3⟩
      · exact .inl ⟨h1, fun y hy => by rcases List.mem_cons.1 hy with rfl | hy; exact h; exact h2 y hy⟩
      · refine .inr ⟨k + 1, by simp; omega, by rw [show ((1 : Nat) : Int) = 1 from rfl] at h1; rw [h1]; congr 1; omega, h2, fun j hj => ?_⟩
        cases j with
        | zero => exact h
        | succ j => exact h3 j (by omega)
theorem findI_spec (L : List Nd) (s : ByteArray) : (findI L s = -1 ∧ ∀ x ∈ L, x.name ≠ s) ∨ ∃ k, ∃ hk : k < L.length, findI L s = (k : Int) ∧ L[k].name = s ∧ ∀ j (hj : j < k), (L[j]'(by omega)).name ≠ s := by
  have := findL_spec s L 0
  simpa [findI] using this

/-- The calls: the memory's bytes behind each, and its answers. -/
def openE (B : List Int) (n : Int) : Int :=
  match tableF B with
  | none => 120
  | some (L, _) => if n < 0 ∨ 8 ≤ n then 1 else if (L.getD n.toNat Nd.free).name = noName then 123 else 0
def checkE (B : List Int) : Int := match tableF B with | none => 120 | some _ => 0
def findR (B : List Int) (s : ByteArray) : Int × Int :=
  match tableF B with
  | none => (0, 120)
  | some (L, _) => if nameF s = false then (0, 121) else if findI L s = -1 then (0, 123) else (findI L s, 0)
def sizeR (B : List Int) (n : Int) : Int × Int :=
  match tableF B with
  | none => (0, 120)
  | some (L, _) => if n < 0 ∨ 8 ≤ n then (0, 1) else if (L.getD n.toNat Nd.free).name = noName then (0, 123) else ((L.getD n.toNat Nd.free).size, 0)
def createR (B : List Int) (s : ByteArray) : List Int × Int × Int :=
  match tableF B with
  | none => (B, 0, 120)
  | some (L, u) => if nameF s = false then (B, 0, 121) else if findI L s ≠ -1 then (B, 0, 122) else if findI L noName = -1 then (B, 0, 124)
    else (layT B (findI L noName).toNat (L.set (findI L noName).toNat ⟨s, 0, []⟩) u, findI L noName, 0)
def deleteR (B : List Int) (s : ByteArray) : List Int × Int :=
  match tableF B with
  | none => (B, 120)
  | some (L, u) => if nameF s = false then (B, 121) else if findI L s = -1 then (B, 123)
    else (layT B (findI L s).toNat (L.set (findI L s).toNat Nd.free) (dif u (maskX (L.getD (findI L s).toNat Nd.free))), 0)
def renameR (B : List Int) (s t : ByteArray) : List Int × Int :=
  match tableF B with
  | none => (B, 120)
  | some (L, u) => if nameF s = false ∨ nameF t = false then (B, 121) else if findI L s = -1 then (B, 123) else if findI L t ≠ -1 then (B, 122)
    else (layT B (findI L s).toNat (L.set (findI L s).toNat ⟨t, (L.getD (findI L s).toNat Nd.free).size, (L.getD (findI L s).toNat Nd.free).ext⟩) u, 0)
/-- A file's size changed, of the table. -/
def resizeW (B : List Int) (L : List Nd) (u : Nat) (n : Nat) (m : Int) : List Int × Int :=
  match resizeT (L.getD n Nd.free) u m with
  | none => (B, 125)
  | some (x', u') => (resizeB B L n x' u' (listF (L.getD n Nd.free).ext).length, 0)
def resizeR (B : List Int) (n m : Int) : List Int × Int :=
  match tableF B with
  | none => (B, 120)
  | some (L, u) => if n < 0 ∨ 8 ≤ n then (B, 1) else if (L.getD n.toNat Nd.free).name = noName then (B, 123) else if m < 0 then (B, 1) else if 1472 < m then (B, 125)
    else resizeW B L u n.toNat m
def readR (B : List Int) (n o m : Int) : List Int × Int :=
  match tableF B with
  | none => ([], 120)
  | some (L, _) => if n < 0 ∨ 8 ≤ n then ([], 1) else if (L.getD n.toNat Nd.free).name = noName then ([], 123) else if o < 0 ∨ m < 0 then ([], 1)
    else (contF B (L.getD n.toNat Nd.free).ext (min o (L.getD n.toNat Nd.free).size).toNat (min m ((L.getD n.toNat Nd.free).size - min o (L.getD n.toNat Nd.free).size)).toNat, 0)
def writeR (B : List Int) (n o : Int) (b : List Int) : List Int × Int :=
  match tableF B with
  | none => (B, 120)
  | some (L, u) => if n < 0 ∨ 8 ≤ n then (B, 1) else if (L.getD n.toNat Nd.free).name = noName then (B, 123) else if o < 0 ∨ (L.getD n.toNat Nd.free).size < o then (B, 1)
    else if o + b.length ≤ (L.getD n.toNat Nd.free).size then (wrF B (L.getD n.toNat Nd.free).ext o.toNat b, 0)
    else if 1472 < o + b.length then (B, 125)
    else match resizeT (L.getD n.toNat Nd.free) u (o + b.length) with
      | none => (B, 125)
      | some (x', u') => (wrF (resizeB B L n.toNat x' u' (listF (L.getD n.toNat Nd.free).ext).length) x'.ext o.toNat b, 0)
def filesR (B : List Int) : List (ByteArray × List Int) × Int :=
  match tableF B with
  | none => ([], 120)
  | some (L, _) => ((L.filter fun x => decide (x.name ≠ noName)).map fun x => (x.name, contF B x.ext 0 x.size.toNat), 0)
/-- A region made anew. -/
def formatF (B : List Int) : List Int := layF (layF B 6144 (headF 0)) 6208 (zs 512)
theorem format_tab (B : List Int) (hB : B.length = 8192) : Tab (formatF B) (List.replicate 8 Nd.free) 0 := by
  have hb : ∀ i, i < 8 → blk (formatF B) (i + 1) = zs 64 := fun i hi => by
    refine ext_getD (by rw [blk_length, zs_length]) (fun j hj => ?_)
    rw [blk_length] at hj
    rw [blk_get _ _ _ (by omega) hj, formatF, layF_get _ (by rw [layF_length, hB]) _ _ _ (by omega), if_pos (by rw [zs_length]; omega), zs_get, zs_get]
  refine ⟨⟨?_, fun i hi => by rw [hb i hi, zs_kind]; decide, ?_, ?_, by decide⟩, ?_⟩
  · apply List.ext_getElem (by simp)
    intro i h1 h2
    simp at h2
    rw [List.getElem_replicate, List.getElem_map, List.getElem_range, hb i h2, nd_zero zs_kind]
  · rw [List.pairwise_replicate]; exact .inr (fun e => rfl)
  · rw [List.pairwise_replicate]; exact .inr (by unfold blocksApart; rw [maskX_free]; rfl)
  · rw [formatF, blk_other _ (by rw [layF_length, hB]) _ _ _ (by decide) (by rw [zs_length]; decide)]
    have := blk_same B hB (headF 0) (headF_length 0) 0 (by decide)
    rw [show (6144 + 64 * ((0 : Nat) : Int)) = 6144 by rfl] at this
    exact this
theorem filesR_tab {B : List Int} {L : List Nd} {u : Nat} (h : Tab B L u) : filesR B = ((L.filter fun x => decide (x.name ≠ noName)).map fun x => (x.name, contF B x.ext 0 x.size.toNat), 0) := by
  have h := (tableF_iff _ _ _).2 h
  unfold filesR
  generalize tableF B = t at *
  subst h; rfl
theorem filter_free (n : Nat) : ((List.replicate n Nd.free).filter fun x => decide (x.name ≠ noName)) = [] :=
  List.filter_eq_nil_iff.2 (fun x hx => by rw [List.eq_of_mem_replicate hx]; decide)
theorem format_files (B : List Int) (hB : B.length = 8192) : filesR (formatF B) = ([], 0) := by
  rw [filesR_tab (format_tab B hB), filter_free]; rfl
end Go.Proofs.YtoajnmbbgbpbgaaGreat
namespace Go.Proofs.YtoajnmbbgbpbgaaGreat
set_option linter.unusedVariables false
set_option linter.unusedSimpArgs false

abbrev Files := List (ByteArray × List Int)
def entry (B : List Int) (x : Nd) : ByteArray × List Int := (x.name, contF B x.ext 0 x.size.toNat)
def named (x : Nd) : Bool := decide (x.name ≠ noName)
def filesL (B : List Int) (L : List Nd) : Files := (L.filter named).map (entry B)
theorem filesR_tab' {B : List Int} {L : List Nd} {u : Nat} (h : Tab B L u) : filesR B = (filesL B L, 0) := filesR_tab h

theorem size_le {x : Nd} (h : x.good) : x.size.toNat ≤ 64 * (listF x.ext).length := by
  obtain ⟨-, h2, h3, h4, -, -⟩ := h.facts
  rw [h2, needF]; split <;> omega
theorem entry_same {B B' : List Int} {x : Nd} (h : x.good) (hb : ∀ b ∈ listF x.ext, blk B' b.toNat = blk B b.toNat) : entry B' x = entry B x := by
  rw [entry, entry, contF_same hb _ (size_le h)]
theorem filesL_same {B B' : List Int} {L : List Nd} (hg : ∀ x ∈ L, x.good) (hb : ∀ x ∈ L, ∀ b ∈ listF x.ext, blk B' b.toNat = blk B b.toNat) : filesL B' L = filesL B L := by
  apply List.map_congr_left
  intro x hx
  have hx' := (List.mem_filter.1 hx).1
  exact entry_same (hg x hx') (hb x hx')
theorem split_at {L : List Nd} {n : Nat} (hn : n < L.length) : L = L.take n ++ L[n] :: L.drop (n + 1) := by
  rw [← List.drop_eq_getElem_cons hn, List.take_append_drop]
theorem set_split {L : List Nd} {n : Nat} (hn : n < L.length) (x : Nd) : L.set n x = L.take n ++ x :: L.drop (n + 1) := List.set_eq_take_append_cons_drop.trans (if_pos hn)
/-- With one inode as it is named: its entry, and those of the others. -/
theorem filesL_set {B : List Int} {L : List Nd} {n : Nat} (hn : n < L.length) {x : Nd} (hx : named x = true) : (filesL B (L.set n x)).Perm (entry B x :: filesL B (L.set n Nd.free)) := by
  rw [filesL, filesL, set_split hn, set_split hn, List.filter_append, List.filter_append, List.filter_cons_of_pos hx, List.filter_cons_of_neg (by decide), List.map_append, List.map_append, List.map_cons]
  exact List.perm_middle
theorem filesL_at {B : List Int} {L : List Nd} {n : Nat} (hn : n < L.length) (hx : named L[n] = true) : (filesL B L).Perm (entry B L[n] :: filesL B (L.set n Nd.free)) := by
  have := filesL_set (B := B) hn hx
  rwa [List.set_getElem_self] at this

/-- Files as a list, and the memory's. -/
def Rel (fs : Files) (B : List Int) (L : List Nd) (u : Nat) : Prop := B.length = 8192 ∧ Tab B L u ∧ fs.Perm (filesL B L)
theorem mem_filesL {B : List Int} {L : List Nd} {f : ByteArray × List Int} : f ∈ filesL B L ↔ ∃ n, ∃ hn : n < L.length, L[n].name ≠ noName ∧ f = entry B L[n] := by
  rw [filesL, List.mem_map]
  constructor
  · rintro ⟨x, hx, rfl⟩
    obtain ⟨h1, h2⟩ := List.mem_filter.1 hx
    obtain ⟨n, hn, rfl⟩ := List.mem_iff_getElem.1 h1
    exact ⟨n, hn, by simpa [named] using h2, rfl⟩
  · rintro ⟨n, hn, h, rfl⟩
    exact ⟨L[n], List.mem_filter.2 ⟨List.getElem_mem hn, by simpa [named] using h⟩, rfl⟩
theorem filesL_nodup {B : List Int} {L : List Nd} {u : Nat} (h : Tab B L u) : ((filesL B L).map Prod.fst).Nodup := by
  rw [filesL, List.map_map, List.nodup_iff_pairwise_ne, List.pairwise_map]
  have hp := h.pairs.1.filter named
  have hall : ∀ x ∈ L.filter named, x.name ≠ noName := fun x hx => by simpa [named] using (List.mem_filter.1 hx).2
  revert hp hall
  generalize L.filter named = M
  intro hp hall
  induction hp with
  | nil => exact List.Pairwise.nil
  | cons h1 h2 ih =>
    refine List.Pairwise.cons (fun y hy e => ?_) (ih (fun x hx => hall x (by simp [hx])))
    exact hall _ (by simp) (h1 y hy e)
theorem Rel.names {fs : Files} {B : List Int} {L : List Nd} {u : Nat} (h : Rel fs B L u) : (fs.map Prod.fst).Nodup := (h.2.2.map Prod.fst).nodup_iff.2 (filesL_nodup h.2.1)
/-- A name's place in a list of files; -1. -/
def placeL (s : ByteArray) : Files → Int → Int
  | [], _ => -1
  | f :: fs, i => if f.1 = s then i else placeL s fs (i + 1)
def placeF (fs : Files) (s : ByteArray) : Int := placeL s fs 0
theorem placeL_spec (s : ByteArray) (fs : Files) (i : Nat) : (placeL s fs i = -1 ∧ ∀ f ∈ fs, f.1 ≠ s) ∨ ∃ k, ∃ hk : k < fs.length, placeL s fs i = ((i + k : Nat) : Int) ∧ fs[k].1 = s := by
  induction fs generalizing i with
  | nil => exact .inl ⟨rfl, by simp⟩
  | cons f fs ih =>
    rw [placeL]
    by_cases h : f.1 = s
    · rw [if_pos h]; exact .inr ⟨0, by simp, by simp, h⟩
    · rw [if_neg h]
      have := ih (i + 1)
      rw [Int.natCast_add] at this
      rcases this with ⟨h1, h2⟩ | ⟨k, hk, h1, h2⟩
      · exact .inl ⟨h1, fun y hy => by rcases List.mem_cons.1 hy with rfl | hy; exact h; exact h2 y hy⟩
      · exact .inr ⟨k + 1, by simp; omega, by rw [show ((1 : Nat) : Int) = 1 from rfl] at h1; rw [h1]; congr 1; omega, h2⟩
theorem placeF_spec (fs : Files) (s : ByteArray) : (placeF fs s = -1 ∧ ∀ f ∈ fs, f.1 ≠ s) ∨ ∃ k, ∃ hk : k < fs.length, placeF fs s = (k : Int) ∧ fs[k].1 = s := by
  have := placeL_spec s fs 0
  simpa [placeF] using this
/-- A file of the list is an inode of the table. -/
theorem Rel.node {fs : Files} {B : List Int} {L : List Nd} {u : Nat} (h : Rel fs B L u) {k : Nat} (hk : k < fs.length) : ∃ n, ∃ hn : n < L.length, L[n].name ≠ noName ∧ fs[k] = entry B L[n] ∧ findI L fs[k].1 = (n : Int) := by
  have hm := h.2.2.mem_iff.1 (List.getElem_mem hk)
  obtain ⟨n, hn, h1, h2⟩ := mem_filesL.1 hm
  refine ⟨n, hn, h1, h2, ?_⟩
  have e : fs[k].1 = L[n].name := by rw [h2]; rfl
  rcases findI_spec L fs[k].1 with ⟨-, h3⟩ | ⟨m, hm, h3, h4, -⟩
  · exact absurd e.symm (h3 _ (List.getElem_mem hn))
  · rw [h3]
    by_cases e2 : m = n
    · rw [e2]
    · exact absurd (h4.trans e) (h.2.1.others hn h1 m hm e2)
theorem Rel.none {fs : Files} {B : List Int} {L : List Nd} {u : Nat} (h : Rel fs B L u) {s : ByteArray} (hs : s ≠ noName) (hn : ∀ f ∈ fs, f.1 ≠ s) : ∀ x ∈ L, x.name ≠ s := by
  intro x hx e
  obtain ⟨n, hn', rfl⟩ := List.mem_iff_getElem.1 hx
  have := h.2.2.mem_iff.2 (mem_filesL.2 ⟨n, hn', by rw [e]; exact hs, rfl⟩)
  exact hn _ this e
theorem Rel.nameF {fs : Files} {B : List Int} {L : List Nd} {u : Nat} (h : Rel fs B L u) {k : Nat} (hk : k < fs.length) : nameF fs[k].1 = true := by
  obtain ⟨n, hn, h1, h2, -⟩ := h.node hk
  rcases h.2.1.good _ (List.getElem_mem hn) with e | e
  · rw [e] at h1; exact absurd rfl h1
  · rw [h2]
    simp only [inoOk, Bool.and_eq_true] at e
    exact e.1.1.1.1
theorem Rel.length {fs : Files} {B : List Int} {L : List Nd} {u : Nat} (h : Rel fs B L u) : fs.length = (L.filter named).length := by rw [h.2.2.length_eq, filesL, List.length_map]
theorem Rel.full {fs : Files} {B : List Int} {L : List Nd} {u : Nat} (h : Rel fs B L u) : fs.length = 8 ↔ findI L noName = -1 := by
  rw [h.length, ← h.2.1.len]
  constructor
  · intro e
    have := List.filter_sublist.eq_of_length e
    rcases findI_spec L noName with ⟨h1, -⟩ | ⟨k, hk, -, h2, -⟩
    · exact h1
    · have hm : L[k] ∈ L.filter named := by rw [this]; exact List.getElem_mem hk
      exact absurd h2 (by simpa [named] using (List.mem_filter.1 hm).2)
  · intro e
    rcases findI_spec L noName with ⟨-, h1⟩ | ⟨k, hk, h2, -, -⟩
    · rw [List.filter_eq_self.2 (fun x hx => by simpa [named] using h1 x hx)]
    · rw [h2] at e; omega
/-- What a call lays of the table leaves the files' blocks. -/
theorem layT_entries {B : List Int} (hB : B.length = 8192) {L L' : List Nd} (hg : ∀ x ∈ L, x.good) {n : Nat} (hn : n < 8) (u : Nat) (hx : (L'.getD n Nd.free).good) : filesL (layT B n L' u) L = filesL B L :=
  filesL_same hg (fun x hx' b hb => by have := listF_nine b hb; exact layT_blk B hB n hn L' u hx _ (by omega) (by omega))

theorem map_create {fs : Files} {B : List Int} {L : List Nd} {u : Nat} (h : Rel fs B L u) (s : ByteArray) :
    (Go.Proofs.YtoajnmbbgbpbgaaGreat.nameF s = false → createR B s = (B, 0, 121)) ∧ (Go.Proofs.YtoajnmbbgbpbgaaGreat.nameF s = true → placeF fs s ≠ -1 → createR B s = (B, 0, 122)) ∧ (Go.Proofs.YtoajnmbbgbpbgaaGreat.nameF s = true → placeF fs s = -1 → fs.length = 8 → createR B s = (B, 0, 124)) ∧
    (Go.Proofs.YtoajnmbbgbpbgaaGreat.nameF s = true → placeF fs s = -1 → fs.length ≠ 8 → (createR B s).2.2 = 0 ∧ ∃ L', Rel (fs ++ [(s, [])]) (createR B s).1 L' u) := by
  obtain ⟨hB, ht, hp⟩ := id h
  have hT := (tableF_iff _ _ _).2 ht
  have e1 : createR B s = if Go.Proofs.YtoajnmbbgbpbgaaGreat.nameF s = false then (B, 0, 121) else if findI L s ≠ -1 then (B, 0, 122) else if findI L noName = -1 then (B, 0, 124)
    else (layT B (findI L noName).toNat (L.set (findI L noName).toNat ⟨s, 0, []⟩) u, findI L noName, 0) := by
    unfold createR; generalize tableF B = t at *; subst hT; rfl
  rw [e1]
  refine ⟨fun hs => by rw [if_pos hs], fun hs hf => ?_, fun hs hf hl => ?_, fun hs hf hl => ?_⟩
  · rw [if_neg (by simp [hs]), if_pos]
    rcases placeF_spec fs s with ⟨h1, -⟩ | ⟨k, hk, -, h2⟩
    · exact absurd h1 hf
    · obtain ⟨n, hn, -, -, h3⟩ := h.node hk
      rw [← h2, h3]; omega
  · rw [if_neg (by simp [hs]), if_neg, if_pos (h.full.1 hl)]
    intro hne
    rcases placeF_spec fs s with ⟨-, h1⟩ | ⟨k, hk, h1, -⟩
    · rcases findI_spec L s with ⟨h2, -⟩ | ⟨m, hm, -, h2, -⟩
      · exact hne h2
      · exact h.none (nameF_ne hs) h1 _ (List.getElem_mem hm) h2
    · rw [h1] at hf; omega
  · have hnew : ∀ x ∈ L, x.name ≠ s := by
      rcases placeF_spec fs s with ⟨-, h1⟩ | ⟨k, hk, h1, -⟩
      · exact h.none (nameF_ne hs) h1
      · rw [h1] at hf; omega
    have hn1 : findI L s = -1 := by
      rcases findI_spec L s with ⟨h2, -⟩ | ⟨m, hm, -, h2, -⟩
      · exact h2
      · exact absurd h2 (hnew _ (List.getElem_mem hm))
    have hfr : findI L noName ≠ -1 := fun e => hl (h.full.2 e)
    rw [if_neg (by simp [hs]), if_neg (by simp [hn1]), if_neg hfr]
    rcases findI_spec L noName with ⟨h2, -⟩ | ⟨n, hn, h2, h3, -⟩
    · exact absurd h2 hfr
    · rw [h2, Int.toNat_natCast]
      have hx := good_free (ht.good _ (List.getElem_mem hn)) h3
      have hlen := ht.len
      have tt := create_tab hB ht hn h3 hs hnew
      suffices hR : Rel (fs ++ [(s, [])]) (layT B n (L.set n ⟨s, 0, []⟩) u) (L.set n ⟨s, 0, []⟩) u by dsimp only; exact ⟨rfl, _, hR⟩
      unfold Rel
      refine ⟨(layT_length _ _ _ _).trans hB, tt, ?_⟩
      have hg' : ((L.set n ⟨s, 0, []⟩).getD n Nd.free).good := by rw [getD_get (by simpa using hn), List.getElem_set_self]; exact .inr (new_ok hs)
      have hf1 := filesL_set (B := layT B n (L.set n ⟨s, 0, []⟩) u) hn (x := ⟨s, 0, []⟩) (decide_eq_true (nameF_ne hs))
      have hself : L.set n Nd.free = L := by rw [← hx]; exact List.set_getElem_self hn
      rw [hself, layT_entries hB ht.good (by omega) u hg'] at hf1
      exact ((List.perm_append_singleton _ _).trans (hp.cons _)).trans hf1.symm
theorem erase_perm {fs : Files} {k : Nat} (hk : k < fs.length) : fs.Perm (fs[k] :: fs.eraseIdx k) := by
  induction fs generalizing k with
  | nil => simp at hk
  | cons f fs ih =>
    cases k with
    | zero => exact List.Perm.refl _
    | succ k =>
      have := ih (k := k) (by simpa using hk)
      simp only [List.getElem_cons_succ, List.eraseIdx_cons_succ]
      exact (this.cons f).trans (List.Perm.swap _ _ _)
theorem set_perm {fs : Files} {k : Nat} (hk : k < fs.length) (f : ByteArray × List Int) : (fs.set k f).Perm (f :: fs.eraseIdx k) := by
  induction fs generalizing k with
  | nil => simp at hk
  | cons g fs ih =>
    cases k with
    | zero => exact List.Perm.refl _
    | succ k =>
      have := ih (k := k) (by simpa using hk)
      simp only [List.set_cons_succ, List.eraseIdx_cons_succ]
      exact (this.cons g).trans (List.Perm.swap _ _ _)
/-- The other files, without one. -/
theorem Rel.rest {fs : Files} {B : List Int} {L : List Nd} {u : Nat} (h : Rel fs B L u) {k n : Nat} (hk : k < fs.length) (hn : n < L.length) (h1 : L[n].name ≠ noName) (h2 : fs[k] = entry B L[n]) : (fs.eraseIdx k).Perm (filesL B (L.set n Nd.free)) := by
  have h3 := (erase_perm hk).symm.trans (h.2.2.trans (filesL_at (B := B) hn (by simpa [named] using h1)))
  rw [h2] at h3
  exact h3.cons_inv
theorem Tab.free_good {B : List Int} {L : List Nd} {u : Nat} (h : Tab B L u) (n : Nat) : ∀ x ∈ L.set n Nd.free, x.good := fun x hx => by
  rcases List.mem_or_eq_of_mem_set hx with h1 | rfl
  · exact h.good x h1
  · exact .inl rfl
theorem map_delete {fs : Files} {B : List Int} {L : List Nd} {u : Nat} (h : Rel fs B L u) (s : ByteArray) :
    (placeF fs s = -1 → (deleteR B s).1 = B ∧ (deleteR B s).2 ≠ 0) ∧ (∀ k : Nat, placeF fs s = k → (deleteR B s).2 = 0 ∧ ∃ L' u', Rel (fs.eraseIdx k) (deleteR B s).1 L' u') := by
  obtain ⟨hB, ht, hp⟩ := id h
  have hT := (tableF_iff _ _ _).2 ht
  have e1 : deleteR B s = if Go.Proofs.YtoajnmbbgbpbgaaGreat.nameF s = false then (B, 121) else if findI L s = -1 then (B, 123)
    else (layT B (findI L s).toNat (L.set (findI L s).toNat Nd.free) (dif u (maskX (L.getD (findI L s).toNat Nd.free))), 0) := by
    unfold deleteR; generalize tableF B = t at *; subst hT; rfl
  rw [e1]
  refine ⟨fun hf => ?_, fun k hk => ?_⟩
  · by_cases hs : Go.Proofs.YtoajnmbbgbpbgaaGreat.nameF s = false
    · rw [if_pos hs]; exact ⟨rfl, show (121 : Int) ≠ 0 by decide⟩
    · rw [if_neg hs]
      have hs' : Go.Proofs.YtoajnmbbgbpbgaaGreat.nameF s = true := by simpa using hs
      rcases placeF_spec fs s with ⟨-, h1⟩ | ⟨k, hk, h1, -⟩
      · rcases findI_spec L s with ⟨h2, -⟩ | ⟨m, hm, -, h2, -⟩
        · rw [if_pos h2]; exact ⟨rfl, show (123 : Int) ≠ 0 by decide⟩
        · exact absurd h2 (h.none (nameF_ne hs') h1 _ (List.getElem_mem hm))
      · rw [h1] at hf; omega
  · rcases placeF_spec fs s with ⟨h1, -⟩ | ⟨k', hk', h1, h2⟩
    · rw [h1] at hk; omega
    · obtain rfl : k' = k := by omega
      obtain ⟨n, hn, h3, h4, h5⟩ := h.node hk'
      have hs := h.nameF hk'
      rw [h2] at h5 hs
      rw [if_neg (by simp [hs]), if_neg (by rw [h5]; omega), h5, Int.toNat_natCast, getD_get hn]
      have hlen := ht.len
      have tt := delete_tab hB ht hn
      suffices hR : Rel (fs.eraseIdx k') (layT B n (L.set n Nd.free) (dif u (maskX L[n]))) (L.set n Nd.free) (dif u (maskX L[n])) by dsimp only; exact ⟨rfl, _, _, hR⟩
      unfold Rel
      refine ⟨(layT_length _ _ _ _).trans hB, tt, ?_⟩
      rw [layT_entries hB (ht.free_good n) (by omega) _ (by rw [getD_get (by simpa using hn), List.getElem_set_self]; exact .inl rfl)]
      exact h.rest hk' hn h3 h4
end Go.Proofs.YtoajnmbbgbpbgaaGreat
namespace Go.Proofs.YtoajnmbbgbpbgaaGreat
set_option linter.unusedVariables false
set_option linter.unusedSimpArgs false

/-- How many blocks files need. -/
def sumF (fs : Files) : Nat := (fs.map fun f => (needF f.2.length).toNat).sum
theorem sumF_perm {fs gs : Files} (h : fs.Perm gs) : sumF fs = sumF gs := (h.map _).sum_nat
theorem sumF_entry {B : List Int} {x : Nd} (h : x.good) : (needF (entry B x).2.length).toNat = (listF x.ext).length := by
  obtain ⟨-, h2, h3, -, -, -⟩ := h.facts
  rw [entry, contF_length, Int.toNat_of_nonneg h3, h2]
theorem sumF_files {B : List Int} {L : List Nd} (h : ∀ x ∈ L, x.good) : sumF (filesL B L) = sumB L := by
  induction L with
  | nil => rfl
  | cons x L ih =>
    have ih' := ih (fun y hy => h y (by simp [hy]))
    by_cases hx : named x = true
    · rw [filesL, List.filter_cons_of_pos hx, List.map_cons, sumF, List.map_cons, List.sum_cons, sumF_entry (h x (by simp)), sumB, List.map_cons, List.sum_cons]
      congr 1
    · rw [filesL, List.filter_cons_of_neg hx, sumB, List.map_cons, List.sum_cons]
      have hf : x = Nd.free := good_free (h x (by simp)) (by simpa [named] using hx)
      rw [hf, show (listF Nd.free.ext).length = 0 from rfl, Nat.zero_add]
      exact ih'
theorem sumB_free {L : List Nd} {n : Nat} (hn : n < L.length) : sumB (L.set n Nd.free) + (listF (L[n]).ext).length = sumB L := by
  have h1 : sumB L = sumB (L.take n) + ((listF (L[n]).ext).length + sumB (L.drop (n + 1))) := by
    conv => lhs; rw [split_at hn]
    rw [sumB, List.map_append, List.map_cons, List.sum_append, List.sum_cons]; rfl
  have h2 : sumB (L.set n Nd.free) = sumB (L.take n) + (0 + sumB (L.drop (n + 1))) := by
    rw [set_split hn, sumB, List.map_append, List.map_cons, List.sum_append, List.sum_cons]; rfl
  omega
theorem Rel.sum {fs : Files} {B : List Int} {L : List Nd} {u : Nat} (h : Rel fs B L u) : sumF fs = sumB L := (sumF_perm h.2.2).trans (sumF_files h.2.1.good)
theorem Rel.room {fs : Files} {B : List Int} {L : List Nd} {u : Nat} (h : Rel fs B L u) : sumF fs ≤ 23 := by
  have := free_sum h.2.1.pairs.2
  rw [h.sum]; omega
theorem sumF_set {fs : Files} {B : List Int} {L : List Nd} {u : Nat} (h : Rel fs B L u) {k n : Nat} (hk : k < fs.length) (hn : n < L.length) (h1 : L[n].name ≠ noName) (h2 : fs[k] = entry B L[n]) (f : ByteArray × List Int) :
    sumF (fs.set k f) + (listF (L[n]).ext).length = sumB L + (needF f.2.length).toNat := by
  have e := sumF_perm ((set_perm hk f).trans ((h.rest hk hn h1 h2).cons f))
  have e2 : sumF (f :: filesL B (L.set n Nd.free)) = (needF f.2.length).toNat + sumB (L.set n Nd.free) := by
    rw [sumF, List.map_cons, List.sum_cons]
    congr 1
    exact sumF_files (h.2.1.free_good n)
  have := sumB_free hn
  omega
theorem map_find {fs : Files} {B : List Int} {L : List Nd} {u : Nat} (h : Rel fs B L u) (s : ByteArray) :
    (placeF fs s = -1 → (findR B s).2 ≠ 0) ∧ (∀ k : Nat, placeF fs s = k → ∃ hk : k < fs.length, ∃ n, ∃ hn : n < L.length, findR B s = ((n : Int), 0) ∧ L[n].name ≠ noName ∧ fs[k] = entry B L[n] ∧ fs[k].1 = s) := by
  obtain ⟨hB, ht, hp⟩ := id h
  have hT := (tableF_iff _ _ _).2 ht
  have e1 : findR B s = if Go.Proofs.YtoajnmbbgbpbgaaGreat.nameF s = false then (0, 121) else if findI L s = -1 then (0, 123) else (findI L s, 0) := by
    unfold findR; generalize tableF B = t at *; subst hT; rfl
  rw [e1]
  refine ⟨fun hf => ?_, fun k hk => ?_⟩
  · by_cases hs : Go.Proofs.YtoajnmbbgbpbgaaGreat.nameF s = false
    · rw [if_pos hs]; decide
    · rw [if_neg hs]
      have hs' : Go.Proofs.YtoajnmbbgbpbgaaGreat.nameF s = true := by simpa using hs
      rcases placeF_spec fs s with ⟨-, h1⟩ | ⟨k, hk, h1, -⟩
      · rcases findI_spec L s with ⟨h2, -⟩ | ⟨m, hm, -, h2, -⟩
        · rw [if_pos h2]; decide
        · exact absurd h2 (h.none (nameF_ne hs') h1 _ (List.getElem_mem hm))
      · rw [h1] at hf; omega
  · rcases placeF_spec fs s with ⟨h1, -⟩ | ⟨k', hk', h1, h2⟩
    · rw [h1] at hk; omega
    · obtain rfl : k' = k := by omega
      obtain ⟨n, hn, h3, h4, h5⟩ := h.node hk'
      have hs := h.nameF hk'
      rw [h2] at h5 hs
      rw [if_neg (by simp [hs]), if_neg (by rw [h5]; omega), h5]
      exact ⟨hk', n, hn, rfl, h3, h4, h2⟩
/-- What a write makes, of a table that is as it should be. -/
theorem writeR_tab {B : List Int} {L : List Nd} {u : Nat} (ht : Tab B L u) (n o : Int) (b : List Int) : writeR B n o b =
    if n < 0 ∨ 8 ≤ n then ((B, 1) : List Int × Int) else if (L.getD n.toNat Nd.free).name = noName then (B, 123) else if o < 0 ∨ (L.getD n.toNat Nd.free).size < o then (B, 1)
    else if o + b.length ≤ (L.getD n.toNat Nd.free).size then (wrF B (L.getD n.toNat Nd.free).ext o.toNat b, 0)
    else if 1472 < o + b.length then (B, 125)
    else match resizeT (L.getD n.toNat Nd.free) u (o + b.length) with
      | none => (B, 125)
      | some (x', u') => (wrF (resizeB B L n.toNat x' u' (listF (L.getD n.toNat Nd.free).ext).length) x'.ext o.toNat b, 0) := by
  have hT := (tableF_iff _ _ _).2 ht
  unfold writeR; generalize tableF B = t at *; subst hT; rfl
/-- A file written on behind its end, that got room: its table, its bytes, the others'. -/
theorem grown_write {B : List Int} (hB : B.length = 8192) {L : List Nd} {u : Nat} (ht : Tab B L u) {n : Nat} (hn : n < L.length) (hnm : L[n].name ≠ noName) {o : Nat} (ho : (o : Int) ≤ L[n].size) (b : List Int) (hlt : L[n].size < o + b.length) (hm : (o : Int) + b.length ≤ 1472) {x' : Nd} {u' : Nat} (hr : resizeT L[n] u (o + b.length) = some (x', u')) :
    Resized L n L[n] (o + b.length) x' u' ∧ Tab (wrF (resizeB B L n x' u' (listF (L[n]).ext).length) x'.ext o b) (L.set n x') u' ∧
    filesL (wrF (resizeB B L n x' u' (listF (L[n]).ext).length) x'.ext o b) (L.set n Nd.free) = filesL B (L.set n Nd.free) ∧
    contF (wrF (resizeB B L n x' u' (listF (L[n]).ext).length) x'.ext o b) x'.ext 0 (o + b.length) = (contF B (L[n]).ext 0 o) ++ b := by
  have hlen := ht.len
  obtain ⟨hR, hT'⟩ := resize_tab hB ht (n := n) (by omega) (getD_get hn) hnm (by omega) hm hr
  have hB' : (resizeB B L n x' u' (listF (L[n]).ext).length).length = 8192 := by rw [resizeB_length, hB]
  have hn64 : b.length = 0 ∨ (o + b.length - 1) / 64 < (listF x'.ext).length := by
    right
    have hpos : 0 < b.length := by omega
    rw [hR.len, needF]; split <;> omega
  refine ⟨hR, hT'.wr hB' _ _ _ _ hn64, ?_, ?_⟩
  · rw [filesL, filesL]
    apply List.map_congr_left
    intro y hy
    obtain ⟨hy1, hy2⟩ := List.mem_filter.1 hy
    refine entry_same (ht.free_good n y hy1) (fun c hc => ?_)
    obtain ⟨i, hi, rfl⟩ := List.mem_iff_getElem.1 hy1
    rw [List.length_set] at hi
    by_cases e : i = n
    · subst e
      rw [List.getElem_set_self] at hy2
      exact absurd hy2 (by decide)
    · rw [List.getElem_set_ne (fun h => e h.symm)] at hc
      have hc9 := listF_nine c hc
      have hne : ((c.toNat : Nat) : Int) ∉ listF x'.ext := by
        rw [Int.toNat_of_nonneg (by omega)]
        exact (apart_iff _ _).1 (hR.apart i hi e) c hc
      rw [wrF, wrN_blk _ hB' _ _ _ _ hn64 _ (by omega) hne]
      exact resize_blk hB hlen (by omega) (by omega) hR _ (by omega) (by omega) hne
  · refine ext_getD (by simp [contF_length]) (fun j hj => ?_)
    rw [contF_length] at hj
    rw [contF_get _ _ _ _ _ hj, Nat.zero_add]
    have hj64 : j / 64 < (listF x'.ext).length := by rw [hR.len, needF]; split <;> omega
    rw [wrF, wrN_at _ hB' _ _ _ _ hn64 j hj64]
    by_cases h1 : o ≤ j
    · rw [if_pos ⟨h1, hj⟩]
      simp only [List.getD_eq_getElem?_getD]
      rw [List.getElem?_append_right (by rw [contF_length]; exact h1), contF_length]
    · rw [if_neg (by omega)]
      have hg := ht.good _ (List.getElem_mem hn)
      have h64 : j / 64 < (listF (L[n]).ext).length := by have := size_le hg; omega
      rw [resize_byte hB hlen (by omega) (by omega) hR j h64 (by omega)]
      simp only [List.getD_eq_getElem?_getD]
      rw [List.getElem?_append_left (by rw [contF_length]; omega), ← List.getD_eq_getElem?_getD, contF_get _ _ _ _ _ (by omega), Nat.zero_add]
theorem map_write {fs : Files} {B : List Int} {L : List Nd} {u : Nat} (h : Rel fs B L u) {k n : Nat} (hk : k < fs.length) (hn : n < L.length) (h1 : L[n].name ≠ noName) (h2 : fs[k] = entry B L[n]) (b : List Int) :
    (sumF (fs.set k (fs[k].1, fs[k].2 ++ b)) ≤ 23 → (writeR B n fs[k].2.length b).2 = 0 ∧ ∃ L' u', Rel (fs.set k (fs[k].1, fs[k].2 ++ b)) (writeR B n fs[k].2.length b).1 L' u') ∧
    (¬ sumF (fs.set k (fs[k].1, fs[k].2 ++ b)) ≤ 23 → writeR B n fs[k].2.length b = (B, 125)) := by
  obtain ⟨hB, ht, hp⟩ := id h
  have hlen := ht.len
  have hg := ht.good _ (List.getElem_mem hn)
  obtain ⟨f1, f2, f3, f4, f5, f6⟩ := hg.facts
  have hl : fs[k].2.length = L[n].size.toNat := by rw [h2, entry, contF_length]
  have hset := sumF_set h hk hn h1 h2 (fs[k].1, fs[k].2 ++ b)
  have hroom := h.room
  have hsum := h.sum
  have hfk : fs[k].1 = L[n].name := by rw [h2]; rfl
  have hdk : fs[k].2 = contF B L[n].ext 0 L[n].size.toNat := by rw [h2]; rfl
  dsimp only at hset
  rw [List.length_append, hl] at hset
  rw [writeR_tab ht, if_neg (by omega), Int.toNat_natCast, getD_get hn, if_neg h1, if_neg (by omega)]
  by_cases hb : b = []
  · subst hb
    rw [if_pos (by simp; omega)]
    have e : fs.set k (fs[k].1, fs[k].2 ++ []) = fs := by rw [List.append_nil]; exact List.set_getElem_self hk
    rw [e]
    exact ⟨fun _ => ⟨rfl, L, u, h⟩, fun hne => absurd hroom hne⟩
  · have hpos : 0 < b.length := List.length_pos_iff.2 hb
    rw [if_neg (by omega)]
    by_cases hbig : (1472 : Int) < ((fs[k].2.length : Nat) : Int) + b.length
    · rw [if_pos hbig]
      refine ⟨fun hs => ?_, fun _ => rfl⟩
      exfalso
      have : (24 : Int) ≤ needF (((L[n].size.toNat + b.length : Nat)) : Int) := by rw [needF, if_neg (by omega)]; omega
      have hle : (listF L[n].ext).length ≤ sumB L := by have := sumB_free hn; omega
      omega
    · rw [if_neg hbig]
      have hcast : ((fs[k].2.length : Nat) : Int) + b.length = ((L[n].size.toNat + b.length : Nat) : Int) := by rw [hl]; omega
      have hroom2 := resize_room (n := n) (m := ((fs[k].2.length : Nat) : Int) + b.length) ht.good ht.pairs.2 ht.used hn (by omega) (by rw [f2, needF, needF]; split <;> split <;> omega)
      have hnb := needF_bounds (size := ((fs[k].2.length : Nat) : Int) + b.length) (by omega) (by omega)
      rw [← hcast] at hset
      cases hr : resizeT L[n] u (((fs[k].2.length : Nat) : Int) + b.length) with
      | none =>
        have := hroom2.1 hr
        exact ⟨fun hs => by omega, fun _ => rfl⟩
      | some p =>
        obtain ⟨x', u'⟩ := p
        have hnr : ¬ ((23 : Int) < sumB L + (needF (((fs[k].2.length : Nat) : Int) + b.length) - (listF L[n].ext).length)) := fun hc => by rw [hroom2.2 hc] at hr; cases hr
        refine ⟨fun _ => ⟨rfl, L.set n x', u', ?_⟩, fun hne => by omega⟩
        obtain ⟨hR, t1, t2, t3⟩ := grown_write hB ht hn h1 (o := fs[k].2.length) (by omega) b (by omega) (by omega) hr
        refine ⟨((wrN_length _ _ _ _ _).trans (resizeB_length _ _ _ _ _ _)).trans hB, t1, ?_⟩
        dsimp only
        have hf1 := filesL_set (B := wrF (resizeB B L n x' u' (listF (L[n]).ext).length) x'.ext fs[k].2.length b) hn (x := x') (by simp [named, hR.name, h1])
        rw [t2] at hf1
        have he : entry (wrF (resizeB B L n x' u' (listF (L[n]).ext).length) x'.ext fs[k].2.length b) x' = (fs[k].1, fs[k].2 ++ b) := by
          rw [entry, hR.name, hR.size, ← hfk]
          rw [show (((fs[k].2.length : Nat) : Int) + (b.length : Int)).toNat = fs[k].2.length + b.length by omega, t3, hl, ← hdk]
        rw [he] at hf1
        exact ((set_perm hk _).trans ((h.rest hk hn h1 h2).cons _)).trans hf1.symm
end Go.Proofs.YtoajnmbbgbpbgaaGreat
