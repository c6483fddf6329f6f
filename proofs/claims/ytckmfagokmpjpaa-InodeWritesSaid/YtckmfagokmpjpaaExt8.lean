/-
  The laws on extents, as contracts.
-/
import Derived.Test.YtckmfagokmpjpaaExt7
namespace Go.Proofs.Ytckmfagokmpjpaa
set_option linter.unusedVariables false
set_option linter.unusedSimpArgs false
open Go.RowKit Go.Shelf
attribute [local go_sem high] eqA_ext

theorem awake10_calls (w : World) : Calls Try.prog 23 #[] w fun e w' => e = .returned (.bool true) ∧ Fr No w w' := by
  have g1 : growF [] 0 2 = some ([(9, 2)], 1536) := by decide
  have g2 : growF [] 1024 2 = some ([(9, 1), (11, 1)], 3584) := by decide
  have c1 : ∀ w, Calls Try.prog 26 #[.slice none 0 0, .int .u32 0, .int .i64 2] w (GrowPost w (some ([(9, 2)], 1536))) := fun w => by
    rw [← g1]; exact grow_ok (.slice none 0 0) [] 0 2 w (by simp) (by decide) (Sl.nil w) (by decide) (by decide) (by decide)
  have c2 : ∀ w, Calls Try.prog 26 #[.slice none 0 0, .int .u32 1024, .int .i64 2] w (GrowPost w (some ([(9, 1), (11, 1)], 3584))) := fun w => by
    rw [← g2]; exact grow_ok (.slice none 0 0) [] 1024 2 w (by simp) (by decide) (Sl.nil w) (by decide) (by decide) (by decide)
  have c3 : ∀ w v, Sl w v 2 (extCells [(9, 1), (11, 1)]) → Calls Try.prog 30 #[v] w fun e w' => e = .returned (.int .i64 2) ∧ Fr No w w' := fun w v h =>
    (total_calls v [(9, 1), (11, 1)] w (by simp) h).mono fun e w' ⟨h1, h2⟩ => ⟨h1, h2⟩
  have C1 := Lib.hid c1
  have C2 := Lib.hid c2
  have C3 := Lib.hid c3
  clear g1 g2 c1 c2 c3
  go_enter Try.func23, Try.ntmps23
  go_wp2_with fail
  refine (C1.out _).mono ?_
  rintro e w1 ⟨hF1, r1, rfl, hr1⟩
  obtain ⟨g1, cap1, rfl⟩ := ownsRow_succ (k := 0) hr1
  go_wp2_with fail
  refine (C2.out _).mono ?_
  rintro e w2 ⟨hF2, r2, rfl, hr2⟩
  obtain ⟨g2, cap2, rfl⟩ := ownsRow_succ (k := 1) hr2
  have hc1 : w2.cell? ⟨g1, 0, none⟩ = some (.int .i64 9) := hF2.cell ((hr1.cellAt 0 (by simp)).trans rfl) (fun h => h)
  have hc2 : w2.cell? ⟨g1, 1, none⟩ = some (.int .i64 2) := hF2.cell ((hr1.cellAt 1 (by simp)).trans rfl) (fun h => h)
  have HS := Lib.hid (Sl.of_owns hr2)
  clear hr1 hr2
  go_wp2_with fail
  refine (C3.out _ _ HS.out).mono ?_
  rintro e w3 ⟨rfl, hF3⟩
  go_wp2
  go_ret
  exact ⟨rfl, (hF1.trans hF2).trans hF3⟩

theorem same_fr {w w' : World} {n : Nat} (h : w' = w.drewN n) : Fr No w w' := by subst h; exact (Fr.refl _ _).drewN _

set_option maxRecDepth 100000 in
theorem extentChecks_calls (v : Value) (xs : List (Int × Int)) (w : World) (hv : Sl w v xs.length (extCells xs)) :
    Calls Try.prog 3 #[v] w fun e w' => e = .returned (.bool true) ∧ Fr No w w' := by
  obtain ⟨a, cap, rfl⟩ := hv.form
  by_cases hlen : xs.length ≤ 100
  · have C1 := Lib.hid (fun w1 (h : Fr No w w1) => rblocks_calls _ xs w1 hlen (hv.fr0 h))
    have C2 := Lib.hid (fun w1 (h : Fr No w w1) => check_calls _ xs w1 hlen (hv.fr0 h))
    have hb : (blocksOk xs = true ∧ checkN xs = 0) ∨ (blocksOk xs = false ∧ checkN xs = 1) := by
      rw [blocksOk, checkN]; cases okB (blkSeq (-1) xs) <;> simp
    clear hv
    go_enter Try.func3, Try.ntmps3
    go_wp2_with fail
    refine (awake10_calls _).mono ?_
    rintro e w1 ⟨rfl, hF1⟩
    go_wp2_with fail
    refine (C1.out _ hF1).mono ?_
    rintro e w2 ⟨hF2, r, rfl, hr⟩
    go_wp2_with fail
    refine (C2.out _ (hF1.trans hF2)).mono ?_
    rintro e w3 ⟨rfl, hF3⟩
    clear hr
    rcases hb with ⟨h1, h2⟩ | ⟨h1, h2⟩
    all_goals
      rw [h1, h2]
      go_wp2
      go_ret
      exact ⟨rfl, (hF1.trans hF2).trans hF3⟩
  · clear hv
    go_enter Try.func3, Try.ntmps3
    go_wp2_with fail
    refine (awake10_calls _).mono ?_
    rintro e w1 ⟨rfl, hF1⟩
    go_wp2
    go_ret
    exact ⟨rfl, hF1⟩

set_option maxRecDepth 100000 in
theorem extentTells_calls (v : Value) (xs : List (Int × Int)) (n : Int) (w : World) (hv : Sl w v xs.length (extCells xs)) :
    Calls Try.prog 5 #[v, .int .i64 n] w fun e w' => e = .returned (.bool true) ∧ Fr No w w' := by
  obtain ⟨a, cap, rfl⟩ := hv.form
  by_cases hlen : xs.length ≤ 100
  · have C1 := Lib.hid (fun w1 (h : Fr No w w1) => rblocks_calls _ xs w1 hlen (hv.fr0 h))
    have C2 := Lib.hid (fun w1 (h : Fr No w w1) => block_calls _ xs n w1 hlen (hv.fr0 h))
    have C3 := Lib.hid (fun w1 (h : Fr No w w1) => total_calls _ xs w1 hlen (hv.fr0 h))
    have C4 := Lib.hid (fun w1 (h : Fr No w w1) => bits_calls _ xs w1 hlen (hv.fr0 h))
    have hll := listF_length xs
    have HLR := Lib.hid (listF_range xs)
    clear hv
    go_enter Try.func5, Try.ntmps5
    go_wp2_with fail
    refine (awake10_calls _).mono ?_
    rintro e w1 ⟨rfl, hF1⟩
    go_wp2_with fail
    refine (C1.out _ hF1).mono ?_
    rintro e w2 ⟨hF2, r, rfl, hr⟩
    replace hr := Sl.of_owns hr
    obtain ⟨a2, cap2, rfl⟩ := hr.form
    have hF12 := hF1.trans hF2
    go_wp2_with fail
    refine (C2.out _ hF12).mono ?_
    rintro e w3 ⟨he, hF3⟩
    have hF13 := hF12.trans hF3
    have hr3 := hr.fr0 hF3
    have fin : ∀ (x y : Int), ((x == 1 && y == 0) = true ∨ True) → True := fun _ _ _ => trivial
    clear fin
    by_cases hc : 0 ≤ n ∧ n < (listF xs).length
    · rw [if_pos hc] at he
      subst he
      obtain ⟨h0, h1⟩ := hc
      obtain ⟨k, rfl⟩ := Int.eq_ofNat_of_zero_le h0
      rw [Int.toNat_natCast] at *
      have hk : k < (listF xs).length := by omega
      obtain ⟨b, off, rfl, hb, hcell⟩ := hr3.at (ints_ne _ k hk)
      have hx := hcell _ _ (ints_get _ k hk)
      have hgd : (listF xs).getD k 0 = (listF xs)[k] := by simp [List.getD, hk]
      rw [hgd]
      revert hx
      generalize (listF xs)[k] = x
      intro hx
      clear hr hcell hgd
      go_wp2_with fail
      refine (C3.out _ hF13).mono ?_
      rintro e w4 ⟨rfl, hF4⟩
      go_wp2_with fail
      refine (C4.out _ (hF13.trans hF4)).mono ?_
      rintro e w5 ⟨rfl, hF5⟩
      have hr5 := (hr3.fr0 hF4).fr0 hF5
      have hx5 := (hF4.trans hF5).cell hx (fun h => h)
      go_wp2_with fail
      refine (set_calls _ (listF xs) _ (by omega) HLR.out hr5).mono ?_
      rintro e w6 ⟨rfl, rfl⟩
      clear hr3 hr5
      have hdk : decide ((listF xs).length ≤ k) = false := by simp; omega
      go_wp2
      go_ret
      exact ⟨rfl, (hF13.trans hF4).trans hF5⟩
    · rw [if_neg hc] at he
      subst he
      go_wp2_with fail
      refine (C3.out _ hF13).mono ?_
      rintro e w4 ⟨rfl, hF4⟩
      go_wp2_with fail
      refine (C4.out _ (hF13.trans hF4)).mono ?_
      rintro e w5 ⟨rfl, hF5⟩
      have hr5 := (hr3.fr0 hF4).fr0 hF5
      go_wp2_with fail
      refine (set_calls _ (listF xs) _ (by omega) HLR.out hr5).mono ?_
      rintro e w6 ⟨rfl, rfl⟩
      have hn : n < 0 ∨ (0 ≤ n ∧ ((listF xs).length : Int) ≤ n) := by omega
      clear hr3 hr5 hr hc
      rcases hn with hn | ⟨hn, hn'⟩
      all_goals
        go_wp2
        go_ret
        exact ⟨rfl, (hF13.trans hF4).trans hF5⟩
  · clear hv
    go_enter Try.func5, Try.ntmps5
    go_wp2_with fail
    refine (awake10_calls _).mono ?_
    rintro e w1 ⟨rfl, hF1⟩
    go_wp2
    go_ret
    exact ⟨rfl, hF1⟩

/-- What a call that makes a list, a set and an error's number comes to: an error's number, or extents and a set. -/
def TriPost (w : World) (res : Int ⊕ (List (Int × Int) × Nat)) (e : Ending) (w' : World) : Prop :=
  Fr No w w' ∧ match res with
    | .inr (out, u) => ∃ r, e = .returned (.tuple #[r, .int .u32 u, .int .i64 0]) ∧ w'.ownsRow w.heap.size 129 2 r out.length (extCells out)
    | .inl er => e = .returned (.tuple #[.slice none 0 0, .int .u32 0, .int .i64 er])

def growT (xs : List (Int × Int)) (used : Nat) (n : Int) : Int ⊕ (List (Int × Int) × Nat) :=
  if okB (blkSeq (-1) xs) = true ∧ 0 ≤ n then (match growF xs used n with | some p => .inr p | none => .inl 50) else .inl 1
def shrinkT (xs : List (Int × Int)) (used : Nat) (n : Int) : Int ⊕ (List (Int × Int) × Nat) :=
  match shrinkF xs used n with | some p => .inr p | none => .inl 1

theorem growT_calls (v : Value) (xs : List (Int × Int)) (used : Nat) (n : Int) (w : World) (hlen : xs.length ≤ 100) (hu : used < 2 ^ 32) (hn2 : n < 9223372036854775808) (hv : Sl w v xs.length (extCells xs)) :
    Calls Try.prog 26 #[v, .int .u32 used, .int .i64 n] w (TriPost w (growT xs used n)) := by
  rw [growT]
  by_cases hc : okB (blkSeq (-1) xs) = true ∧ 0 ≤ n
  · rw [if_pos hc]
    refine (grow_ok v xs used n w hlen hu hv hc.1 hc.2 hn2).mono ?_
    rintro e w' ⟨hF, h⟩
    refine ⟨hF, ?_⟩
    cases hg : growF xs used n with
    | none => rw [hg] at h; exact h
    | some p => rw [hg] at h; exact h
  · rw [if_neg hc]
    exact (grow_bad v xs used n w hlen hv hc).mono fun e w' ⟨h1, h2⟩ => ⟨h1, h2⟩
theorem rgrowT_calls (v : Value) (xs : List (Int × Int)) (used : Nat) (n : Int) (w : World) (hlen : xs.length ≤ 100) (hu : used < 2 ^ 32) (hn2 : n < 9223372036854775808) (hv : Sl w v xs.length (extCells xs)) :
    Calls Try.prog 27 #[v, .int .u32 used, .int .i64 n] w (TriPost w (growT xs used n)) := by
  rw [growT]
  by_cases hc : okB (blkSeq (-1) xs) = true ∧ 0 ≤ n
  · rw [if_pos hc, grow_same xs used n hc.2 hc.1]
    refine (rgrow_ok v xs used n w hlen hu hv hc.1 hc.2 hn2).mono ?_
    rintro e w' ⟨hF, h⟩
    refine ⟨hF, ?_⟩
    cases hg : growR xs used n with
    | none => rw [hg] at h; exact h
    | some p => rw [hg] at h; exact h
  · rw [if_neg hc]
    exact (rgrow_bad v xs used n w hlen hv hc).mono fun e w' ⟨h1, h2⟩ => ⟨h1, h2⟩
theorem shrinkT_calls (v : Value) (xs : List (Int × Int)) (used : Nat) (n : Int) (w : World) (hlen : xs.length ≤ 100) (hu : used < 2 ^ 32) (hn1 : -9223372036854775808 ≤ n) (hn2 : n < 9223372036854775808) (hv : Sl w v xs.length (extCells xs)) :
    Calls Try.prog 33 #[v, .int .u32 used, .int .i64 n] w (TriPost w (shrinkT xs used n)) := by
  refine (shrink_calls v xs used n w hlen hu hv hn1 hn2).mono ?_
  rintro e w' ⟨hF, h⟩
  refine ⟨hF, ?_⟩
  rw [shrinkT]
  cases hg : shrinkF xs used n with
  | none => rw [hg] at h; exact h
  | some p => rw [hg] at h; exact h
theorem rshrinkT_calls (v : Value) (xs : List (Int × Int)) (used : Nat) (n : Int) (w : World) (hlen : xs.length ≤ 100) (hu : used < 2 ^ 32) (hn1 : -9223372036854775808 ≤ n) (hn2 : n < 9223372036854775808) (hv : Sl w v xs.length (extCells xs)) :
    Calls Try.prog 34 #[v, .int .u32 used, .int .i64 n] w (TriPost w (shrinkT xs used n)) := by
  refine (rshrink_calls v xs used n w hlen hu hv hn1 hn2).mono ?_
  rintro e w' ⟨hF, h⟩
  refine ⟨hF, ?_⟩
  rw [shrinkT]
  cases hg : shrinkF xs used n with
  | none => rw [hg] at h; exact h
  | some p => rw [hg] at h; exact h

theorem growT_len (xs : List (Int × Int)) (used : Nat) (n : Int) (hlen : xs.length ≤ 100) (out : List (Int × Int)) (u : Nat) (h : growT xs used n = .inr (out, u)) : out.length ≤ 1000 := by
  have key : ∀ (d : Nat) (o : List (Int × Int)) (us : Nat) (m : Int), growL d o us m = some (out, u) → out.length ≤ o.length + d := by
    intro d
    induction d with
    | zero => intro o us m h; rw [growL] at h; split at h <;> simp at h; rw [h.1]; omega
    | succ d ih =>
      intro o us m h
      rw [growL] at h
      split at h
      · simp at h; rw [h.1]; omega
      · split at h
        · have := ih _ _ _ h; omega
        · have := ih _ _ _ h; have := joinF_length o ((31 - d : Nat) : Int); omega
  rw [growT] at h
  split at h
  · cases hg : growF xs used n with
    | none => rw [hg] at h; cases h
    | some p => rw [hg] at h; cases h; have := key 23 xs used n hg; omega
  · cases h
theorem shrinkT_len (xs : List (Int × Int)) (used : Nat) (n : Int) (out : List (Int × Int)) (u : Nat) (h : shrinkT xs used n = .inr (out, u)) : out.length ≤ 1000 := by
  rw [shrinkT] at h
  cases hg : shrinkF xs used n with
  | none => rw [hg] at h; cases h
  | some p =>
    rw [hg] at h
    cases h
    rw [shrinkF] at hg
    split at hg
    · cases hg
      have h1 := (joinsL_fine ((listF xs).take n.toNat) (fun b hb => listF_range xs b (List.mem_of_mem_take hb))).2
      have h2 := listF_length xs
      rw [List.length_take] at h1; omega
    · cases hg

set_option maxRecDepth 100000 in
theorem extentGrows_calls (v : Value) (xs : List (Int × Int)) (used : Nat) (n : Int) (w : World) (hu : used < 2 ^ 32) (hn1 : -9223372036854775808 ≤ n) (hn2 : n < 9223372036854775808) (hv : Sl w v xs.length (extCells xs)) :
    Calls Try.prog 4 #[v, .int .u32 used, .int .i64 n] w fun e w' => e = .returned (.bool true) ∧ Fr No w w' := by
  obtain ⟨a, cap, rfl⟩ := hv.form
  by_cases hlen : xs.length ≤ 100
  · have K1 := Lib.hid (fun w1 (h : Fr No w w1) => growT_calls _ xs used n w1 hlen hu hn2 (hv.fr0 h))
    have K2 := Lib.hid (fun w1 (h : Fr No w w1) => rgrowT_calls _ xs used n w1 hlen hu hn2 (hv.fr0 h))
    have HLN := Lib.hid (growT_len xs used n hlen)
    clear hv hn1 hn2 hu
    generalize growT xs used n = res at *
    go_enter Try.func4, Try.ntmps4
    go_wp2_with fail
    refine (awake10_calls _).mono ?_
    rintro e w1 ⟨rfl, hF1⟩
    go_wp2_with fail
    refine (K1.out _ hF1).mono ?_
    rintro e w2 ⟨hF2, hp2⟩
    rcases res with er | ⟨out, u⟩
    · simp only at hp2
      subst hp2
      go_wp2_with fail
      refine (K2.out _ (hF1.trans hF2)).mono ?_
      rintro e w3 ⟨hF3, hp3⟩
      simp only at hp3
      subst hp3
      have hsn := fun w => same_calls (.slice none 0 0) (.slice none 0 0) [] [] w (by simp) (by simp) (Sl.nil w) (Sl.nil w)
      have HSN := Lib.hid hsn
      clear hsn
      go_wp2_with (go_at_call 28; ((with_reducible refine (HSN.out _).mono ?_); rintro e w4 ⟨rfl, n4, hw4⟩; have hF4 := same_fr hw4; clear hw4))
      go_ret
      exact ⟨rfl, ((hF1.trans hF2).trans hF3).trans hF4⟩
    · obtain ⟨r2, rfl, hr2⟩ := hp2
      have hol := HLN.out out u rfl
      go_wp2_with fail
      refine (K2.out _ (hF1.trans hF2)).mono ?_
      rintro e w3 ⟨hF3, r3, rfl, hr3⟩
      have HS := Lib.hid (And.intro ((Sl.of_owns hr2).fr0 hF3) (Sl.of_owns hr3))
      clear hr2 hr3
      go_wp2_with (go_at_call 28; ((with_reducible refine (same_calls _ _ out out _ hol hol HS.out.1 HS.out.2).mono ?_); rintro e w4 ⟨rfl, n4, hw4⟩; have hF4 := same_fr hw4; clear hw4))
      go_ret
      exact ⟨by simp, ((hF1.trans hF2).trans hF3).trans hF4⟩
  · clear hv
    go_enter Try.func4, Try.ntmps4
    go_wp2_with fail
    refine (awake10_calls _).mono ?_
    rintro e w1 ⟨rfl, hF1⟩
    go_wp2
    go_ret
    exact ⟨rfl, hF1⟩

set_option maxRecDepth 100000 in
theorem extentShrinks_calls (v : Value) (xs : List (Int × Int)) (used : Nat) (n : Int) (w : World) (hu : used < 2 ^ 32) (hn1 : -9223372036854775808 ≤ n) (hn2 : n < 9223372036854775808) (hv : Sl w v xs.length (extCells xs)) :
    Calls Try.prog 6 #[v, .int .u32 used, .int .i64 n] w fun e w' => e = .returned (.bool true) ∧ Fr No w w' := by
  obtain ⟨a, cap, rfl⟩ := hv.form
  by_cases hlen : xs.length ≤ 100
  · have K1 := Lib.hid (fun w1 (h : Fr No w w1) => shrinkT_calls _ xs used n w1 hlen hu hn1 hn2 (hv.fr0 h))
    have K2 := Lib.hid (fun w1 (h : Fr No w w1) => rshrinkT_calls _ xs used n w1 hlen hu hn1 hn2 (hv.fr0 h))
    have HLN := Lib.hid (shrinkT_len xs used n)
    clear hv hn1 hn2 hu
    generalize shrinkT xs used n = res at *
    go_enter Try.func6, Try.ntmps6
    go_wp2_with fail
    refine (awake10_calls _).mono ?_
    rintro e w1 ⟨rfl, hF1⟩
    go_wp2_with fail
    refine (K1.out _ hF1).mono ?_
    rintro e w2 ⟨hF2, hp2⟩
    rcases res with er | ⟨out, u⟩
    · simp only at hp2
      subst hp2
      go_wp2_with fail
      refine (K2.out _ (hF1.trans hF2)).mono ?_
      rintro e w3 ⟨hF3, hp3⟩
      simp only at hp3
      subst hp3
      have hsn := fun w => same_calls (.slice none 0 0) (.slice none 0 0) [] [] w (by simp) (by simp) (Sl.nil w) (Sl.nil w)
      have HSN := Lib.hid hsn
      clear hsn
      go_wp2_with (go_at_call 28; ((with_reducible refine (HSN.out _).mono ?_); rintro e w4 ⟨rfl, n4, hw4⟩; have hF4 := same_fr hw4; clear hw4))
      go_ret
      exact ⟨rfl, ((hF1.trans hF2).trans hF3).trans hF4⟩
    · obtain ⟨r2, rfl, hr2⟩ := hp2
      have hol := HLN.out out u rfl
      go_wp2_with fail
      refine (K2.out _ (hF1.trans hF2)).mono ?_
      rintro e w3 ⟨hF3, r3, rfl, hr3⟩
      have HS := Lib.hid (And.intro ((Sl.of_owns hr2).fr0 hF3) (Sl.of_owns hr3))
      clear hr2 hr3
      go_wp2_with (go_at_call 28; ((with_reducible refine (same_calls _ _ out out _ hol hol HS.out.1 HS.out.2).mono ?_); rintro e w4 ⟨rfl, n4, hw4⟩; have hF4 := same_fr hw4; clear hw4))
      go_ret
      exact ⟨by simp, ((hF1.trans hF2).trans hF3).trans hF4⟩
  · clear hv
    go_enter Try.func6, Try.ntmps6
    go_wp2_with fail
    refine (awake10_calls _).mono ?_
    rintro e w1 ⟨rfl, hF1⟩
    go_wp2
    go_ret
    exact ⟨rfl, hF1⟩

end Go.Proofs.Ytckmfagokmpjpaa
