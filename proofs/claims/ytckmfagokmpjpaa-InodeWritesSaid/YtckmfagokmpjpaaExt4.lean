/-
  extent.Grow, extent.Shrink.
-/
import Derived.Test.YtckmfagokmpjpaaExt3
namespace Go.Proofs.Ytckmfagokmpjpaa
set_option linter.unusedVariables false
set_option linter.unusedSimpArgs false
open Go.RowKit Go.Shelf

theorem shr_bit_int (s : Nat) (x : Int) (hs : s < 2 ^ 32) (h0 : 0 ≤ x) (h1 : x < 32) : (bits .and .u32 ((s : Int) / 2 ^ x.toNat) 1 == 1) = s.testBit x.toNat := shr_bit s x.toNat hs (by omega)

/-- What Grow comes to, where the list and the number may be. -/
def GrowPost (w : World) (res : Option (List (Int × Int) × Nat)) (e : Ending) (w' : World) : Prop :=
  Fr No w w' ∧ match res with
    | some (out, u) => ∃ r, e = .returned (.tuple #[r, .int .u32 u, .int .i64 0]) ∧ w'.ownsRow w.heap.size 129 2 r out.length (extCells out)
    | none => e = .returned (.tuple #[.slice none 0 0, .int .u32 0, .int .i64 50])

theorem grow_bad (v : Value) (xs : List (Int × Int)) (used n : Int) (w : World) (hlen : xs.length ≤ 100) (hv : Sl w v xs.length (extCells xs)) (hbad : ¬ (okB (blkSeq (-1) xs) = true ∧ 0 ≤ n)) :
    Calls Try.prog 26 #[v, .int .u32 used, .int .i64 n] w fun e w' => Fr No w w' ∧ e = .returned (.tuple #[.slice none 0 0, .int .u32 0, .int .i64 1]) := by
  have HC := Lib.hid (check_calls v xs w hlen hv)
  obtain ⟨a, cap, rfl⟩ := hv.form
  by_cases hok : okB (blkSeq (-1) xs) = true
  · have e0 : (checkN xs != 0) = false := by rw [checkN, hok]; rfl
    have hn : n < 0 := by simp only [hok, true_and] at hbad; omega
    clear hbad hok hv
    go_enter Try.func26, Try.ntmps26
    go_wp2_with (go_at_call 25; refine HC.out.mono ?_; rintro e w1 ⟨rfl, hF1⟩)
    go_step3
    go_wp2_with (go_at_call 25; refine HC.out.mono ?_; rintro e w1 ⟨rfl, hF1⟩)
    rw [Exit.noGoto_ret]
    go_ret3
    exact ⟨hF1, rfl⟩
  · have e0 : (checkN xs != 0) = true := by rw [checkN, if_neg hok]; rfl
    clear hbad hok hv
    go_enter Try.func26, Try.ntmps26
    go_wp2_with (go_at_call 25; refine HC.out.mono ?_; rintro e w1 ⟨rfl, hF1⟩)
    go_step3
    go_wp2_with (go_at_call 25; refine HC.out.mono ?_; rintro e w1 ⟨rfl, hF1⟩)
    rw [Exit.noGoto_ret]
    go_ret3
    exact ⟨hF1, rfl⟩

set_option maxHeartbeats 2000000 in
theorem grow_ok (v : Value) (xs : List (Int × Int)) (used : Nat) (n : Int) (w : World) (hlen : xs.length ≤ 100) (hu : used < 2 ^ 32) (hv : Sl w v xs.length (extCells xs)) (hok : okB (blkSeq (-1) xs) = true) (hn0 : 0 ≤ n) (hn2 : n < 9223372036854775808) :
    Calls Try.prog 26 #[v, .int .u32 used, .int .i64 n] w (GrowPost w (growF xs used n)) := by
  have HC := Lib.hid (check_calls v xs w hlen hv)
  obtain ⟨a, cap, rfl⟩ := hv.form
  have e0 : (checkN xs != 0) = false := by rw [checkN, hok]; rfl
  have hf : fine xs := fine_of_ok xs (-1) (of_decide_eq_true hok).1
  clear hok
  go_enter Try.func26, Try.ntmps26
  go_wp2_with (go_at_call 25; refine HC.out.mono ?_; rintro e w1 ⟨rfl, hF1⟩)
  go_step3
  go_wp2_with (first | (go_at_call 25; refine HC.out.mono ?_; rintro e w1 ⟨rfl, hF1⟩; have hv1 := hv.fr0 hF1) | (at_builtin; go_must (refine append_sl el_ext rfl _ _ rfl w.heap.size (.slice none 0 0) 0 [] rfl (World.ownsRow_nil _ _ _ _) rfl hv1 (extCells_len xs) (extCells_one xs) (by unfold maxLen; omega) (by omega) hF1.size ?_); intro v' w3 hown' hgrow))
  have hF3 : Fr No w w3 := hF1.grown hgrow (by intro k e; cases e)
  simp only [Nat.zero_add, List.nil_append] at hown'
  clear hgrow hF1 hv1 hv
  go_step3
  go_wp2
  go_loopw [1, 2, 9, 10] (fun u m o b wr => ∃ (d un : Nat) (mi : Int) (out : List (Int × Int)), u = .int .u32 un ∧ m = .int .i64 mi ∧ b = .int .i64 (32 - d : Int) ∧ d ≤ 23 ∧ 0 ≤ mi ∧ mi ≤ n ∧ un < 2 ^ 32 ∧ out.length + d ≤ 123 ∧ fine out ∧
      growF xs used n = growL d out un mi ∧ wr.ownsRow w.heap.size 129 2 o out.length (extCells out) ∧ Fr No w wr)
    (fun _ _ _ b _ => (32 - intOf b).toNat)
  case atStart => exact ⟨23, used, n, xs, rfl, rfl, rfl, by omega, hn0, by omega, hu, by omega, hf, rfl, hown', hF3⟩
  case round =>
    obtain ⟨d, un, mi, out, rfl, rfl, rfl, hd, hm0, hmn, hun, hol, hfo, hgf, hrow, hFr⟩ := hrel
    have HG := Lib.hid hgf
    clear hgf
    by_cases hm : 0 < mi
    · cases d with
      | zero =>
        have hgn : growF xs used n = none := by rw [HG.out, growL, if_neg (by omega)]
        have HN := Lib.hid hgn
        clear hgn hf hfo
        go_wp2
        rw [Exit.noGoto_ret]
        go_ret3
        exact ⟨hFr, by rw [HN.out]; rfl⟩
      | succ d =>
        have hb1 : (32 - ((d + 1 : Nat) : Int)) = ((31 - d : Nat) : Int) := by omega
        rw [hb1]
        have hbl : 31 - d < 32 := by omega
        have hbg : 8 < 31 - d := by omega
        have hbit := shr_bit un (31 - d) hun hbl
        have hnext : growF xs used n = if un.testBit (31 - d) then growL d out un mi else growL d (joinF out (31 - d : Nat)) (un ||| 2 ^ (31 - d)) (mi - 1) := by rw [HG.out, growL, if_neg (by omega)]
        have hd2 : (31 - d) + d = 31 := by omega
        generalize 31 - d = q at *
        by_cases ht : un.testBit q = true
        · rw [if_pos ht] at hnext
          rw [ht] at hbit
          have HN := Lib.hid hnext
          clear hnext hf hb1 ht
          go_wp2
          exact ⟨⟨d, un, mi, out, rfl, rfl, by congr 1; omega, by omega, hm0, hmn, hun, by omega, hfo, HN.out, hrow, hFr⟩, by simp [intOf]; omega⟩
        · rw [if_neg ht] at hnext
          rw [Bool.not_eq_true] at ht
          rw [ht] at hbit
          have HN := Lib.hid hnext
          clear hnext hf hb1 ht
          go_wp2_with (go_at_call 95; refine (join_calls w.heap.size _ out q _ (by omega) (fun x hx => by have := hfo x hx; omega) (by omega) hFr.size hrow).mono ?_; rintro e w4 ⟨r4, rfl, hrow4, hg4⟩)
          have hor := or_lt un (q : Int) hun (by omega)
          have hq := pow_small (q : Int) (by omega)
          have hoe := or_u32 un (2 ^ q) hun (Nat.pow_lt_pow_right (by decide) hbl)
          rw [Int.toNat_natCast] at hor hq
          rw [hq, hoe]
          have hjl := joinF_length out (q : Int)
          exact ⟨⟨d, un ||| 2 ^ q, mi - 1, joinF out q, rfl, rfl, by congr 1; omega, by omega, by omega, by omega, hor, by omega, joinF_fine out q hfo (by omega), HN.out, hrow4, hFr.grown hg4 (fun k e hk => by have := (hrow.lt k e).1; omega)⟩, by simp [intOf]; omega⟩
    · have hgn : growF xs used n = some (out, un) := by rw [HG.out]; cases d <;> (rw [growL, if_pos (by omega)])
      have HN := Lib.hid hgn
      clear hgn hf hfo
      go_wp2
      go_ret3
      exact ⟨hFr, by rw [HN.out]; exact ⟨_, rfl, hrow⟩⟩

/-! ### Shrink -/
theorem joinsL_fine (l : List Int) (h : ∀ b ∈ l, 0 ≤ b ∧ b < 32) : fine (joinsL l) ∧ (joinsL l).length ≤ l.length := by
  have key : ∀ (l : List Int) (o : List (Int × Int)), fine o → (∀ b ∈ l, 0 ≤ b ∧ b < 32) → fine (l.foldl joinF o) ∧ (l.foldl joinF o).length ≤ o.length + l.length := by
    intro l
    induction l with
    | nil => intro o ho _; exact ⟨ho, by simp⟩
    | cons b l ih =>
      intro o ho hl
      obtain ⟨h1, h2⟩ := ih (joinF o b) (joinF_fine o b ho (hl b (by simp))) (fun c hc => hl c (by simp [hc]))
      refine ⟨h1, ?_⟩
      have := joinF_length o b
      simp only [List.foldl_cons, List.length_cons]; omega
  have := key l [] (fun x hx => by cases hx) h
  simpa [joinsL] using this

def ShrinkPost (w : World) (res : Option (List (Int × Int) × Nat)) (e : Ending) (w' : World) : Prop :=
  Fr No w w' ∧ match res with
    | some (out, u) => ∃ r, e = .returned (.tuple #[r, .int .u32 u, .int .i64 0]) ∧ w'.ownsRow w.heap.size 129 2 r out.length (extCells out)
    | none => e = .returned (.tuple #[.slice none 0 0, .int .u32 0, .int .i64 1])
def shrinkF (xs : List (Int × Int)) (used : Nat) (n : Int) : Option (List (Int × Int) × Nat) :=
  if okB (blkSeq (-1) xs) = true ∧ 0 ≤ n ∧ n ≤ (listF xs).length then some (joinsL ((listF xs).take n.toNat), dropL used ((listF xs).drop n.toNat)) else none

set_option maxHeartbeats 2000000 in
set_option maxRecDepth 100000 in
theorem shrink_calls (v : Value) (xs : List (Int × Int)) (used : Nat) (n : Int) (w : World) (hlen : xs.length ≤ 100) (hu : used < 2 ^ 32) (hv : Sl w v xs.length (extCells xs)) (hn1 : -9223372036854775808 ≤ n) (hn2 : n < 9223372036854775808) :
    Calls Try.prog 33 #[v, .int .u32 used, .int .i64 n] w (ShrinkPost w (shrinkF xs used n)) := by
  have HL := Lib.hid (list_calls v xs w hlen hv)
  have HC := Lib.hid (fun (w1 : World) (h : Fr No w w1) => check_calls v xs w1 hlen (hv.fr0 h))
  obtain ⟨a, cap, rfl⟩ := hv.form
  have hlr := listF_range xs
  have hll := listF_length xs
  have hchk : okB (blkSeq (-1) xs) = true ∧ checkN xs = 0 ∨ ¬ okB (blkSeq (-1) xs) = true ∧ checkN xs = 1 := by
    by_cases h : okB (blkSeq (-1) xs) = true
    · exact .inl ⟨h, by rw [checkN, h]; rfl⟩
    · exact .inr ⟨h, by rw [checkN, if_neg h]⟩
  rcases hchk with ⟨hok, hcn⟩ | ⟨hok, hcn⟩
  · have e0 : (checkN xs != 0) = false := by rw [hcn]; rfl
    by_cases hn : 0 ≤ n ∧ n ≤ (listF xs).length
    · obtain ⟨h0, h1⟩ := hn
      have hres : shrinkF xs used n = some (joinsL ((listF xs).take n.toNat), dropL used ((listF xs).drop n.toNat)) := by rw [shrinkF, if_pos ⟨hok, h0, h1⟩]
      rw [hres]
      clear hres hok hcn hv
      obtain ⟨k0, rfl⟩ := Int.eq_ofNat_of_zero_le h0
      rw [Int.toNat_natCast]
      generalize listF xs = l at *
      have h1' : k0 ≤ l.length := by omega
      have hd1 : decide ((k0 : Int) < 0) = false := by simp
      have hd2 : decide (l.length < k0) = false := by simp; omega
      have HLR := Lib.hid hlr
      clear hlr hn1 hn2
      go_enter Try.func33, Try.ntmps33
      go_wp2_with (first | (go_at_call 97; refine HL.out.mono ?_; rintro e w1 ⟨r, rfl, hr, hF1⟩; replace hr := Sl.of_owns hr; obtain ⟨a2, cap2, rfl⟩ := hr.form) | (go_at_call 25; refine (HC.out _ hF1).mono ?_; rintro e w2 ⟨rfl, hF2⟩))
      have hr2 := hr.fr0 hF2
      have hF := hF1.trans hF2
      clear hr hF1 hF2
      go_loopw [1, 10, 30] (fun u o i wr => ∃ (k un : Nat), k ≤ l.length ∧ i = .int .i64 k ∧ u = .int .u32 un ∧ un = dropL used ((l.take k).drop k0) ∧ un < 2 ^ 32 ∧
          wr.ownsRow w2.heap.size 129 2 o (joinsL (l.take (min k k0))).length (extCells (joinsL (l.take (min k k0)))) ∧ Fr No w2 wr)
        (fun _ _ i _ => l.length - (intOf i).toNat)
      case atStart => exact ⟨0, used, Nat.zero_le _, rfl, rfl, by simp [dropL], hu, by simp [joinsL]; exact World.ownsRow_nil _ _ _ _, Fr.refl _ _⟩
      case round =>
        obtain ⟨k, un, hk, rfl, rfl, hun, hun2, hrow, hFr⟩ := hrel
        have HU := Lib.hid hun
        clear hun
        by_cases hlt : k < l.length
        · obtain ⟨b, off, rfl, hb, hc⟩ := hr2.at (ints_ne _ k hlt)
          have hc1 := (hFr.cell (hc _ _ (ints_get _ k hlt)) (fun h => h))
          obtain ⟨hx0, hx1⟩ := HLR.out _ (List.getElem_mem hlt)
          have htk : l.take (k + 1) = l.take k ++ [l[k]] := List.take_succ_eq_append_getElem hlt
          have hjf := joinsL_fine (l.take (min k k0)) (fun b hb => HLR.out b (List.mem_of_mem_take hb))
          obtain ⟨hjf1, hjf2⟩ := hjf
          have hmin : (l.take (min k k0)).length ≤ 33 := by rw [List.length_take]; omega
          by_cases hkk : k < k0
          · have hn1 : joinsL (l.take (min (k + 1) k0)) = joinF (joinsL (l.take (min k k0))) l[k] := by
              rw [Nat.min_eq_left (by omega), Nat.min_eq_left (by omega), htk, joinsL_snoc]
            have hn2 : (l.take (k + 1)).drop k0 = (l.take k).drop k0 := by
              rw [List.drop_of_length_le (by rw [List.length_take]; omega), List.drop_of_length_le (by rw [List.length_take]; omega)]
            have HN := Lib.hid (And.intro hn1 hn2)
            have HJ := Lib.hid hjf1
            clear hn1 hn2 htk hr2 hc hjf1
            revert hc1 hx0 hx1 HN
            generalize l[k] = x
            intro hc1 hx0 hx1 HN
            go_wp2_with (go_at_call 95; refine (join_calls w2.heap.size _ _ x _ (by omega) (fun x hx => by have := HJ.out x hx; omega) (by omega) hFr.size hrow).mono ?_; rintro e w4 ⟨r4, rfl, hrow4, hg4⟩)
            go_roundw
            case rel => exact ⟨k + 1, un, by omega, by go_num, rfl, by rw [HN.out.2]; exact HU.out, hun2, by rw [HN.out.1]; exact hrow4, hFr.grown hg4 (fun k e hk => by have := (hrow.lt k e).1; omega)⟩
            case measure => simp [intOf]; omega
          · have hn1 : joinsL (l.take (min (k + 1) k0)) = joinsL (l.take (min k k0)) := by
              rw [Nat.min_eq_right (by omega), Nat.min_eq_right (by omega)]
            have hn2 : (l.take (k + 1)).drop k0 = (l.take k).drop k0 ++ [l[k]] := by
              rw [htk, List.drop_append_of_le_length (by rw [List.length_take]; omega)]
            have HN := Lib.hid (And.intro hn1 hn2)
            have HJ := Lib.hid hjf1
            clear hn1 hn2 htk hr2 hc hjf1
            revert hc1 hx0 hx1 HN
            generalize l[k] = x
            intro hc1 hx0 hx1 HN
            go_wp2
            have hq := pow_small x (by omega)
            have hdn := andNot_u32 un (2 ^ x.toNat)
            rw [hq, hdn]
            exact ⟨⟨k + 1, dif un (2 ^ x.toNat), by omega, by go_num, rfl, by rw [HN.out.2, dropL_snoc, ← HU.out], dif_lt _ _, by rw [HN.out.1]; exact hrow, hFr⟩, by simp [intOf]; omega⟩
        · have hkl : k = l.length := by omega
          have HK := Lib.hid hkl
          clear hkl hr2
          go_wp2
          go_ret3
          have hm : min k k0 = k0 := by have := HK.out; omega
          have hun : un = dropL used (l.drop k0) := by rw [HU.out, HK.out, List.take_length]
          rw [hm] at hrow
          exact ⟨hF.trans hFr, _, by rw [hun]; rfl, ownsRow_base hrow hF.size⟩
    · have hres : shrinkF xs used n = none := by rw [shrinkF, if_neg (by omega)]
      rw [hres]
      clear hres hok hcn hv
      generalize listF xs = l at *
      have HLR := Lib.hid hlr
      clear hlr
      by_cases h0 : 0 ≤ n
      · have h1 : (l.length : Int) < n := by omega
        clear hn hn2
        go_enter Try.func33, Try.ntmps33
        go_wp2_with (first | (go_at_call 97; refine HL.out.mono ?_; rintro e w1 ⟨r, rfl, hr, hF1⟩; replace hr := Sl.of_owns hr; obtain ⟨a2, cap2, rfl⟩ := hr.form) | (go_at_call 25; refine (HC.out _ hF1).mono ?_; rintro e w2 ⟨rfl, hF2⟩))
        go_ret3
        exact ⟨hF1.trans hF2, rfl⟩
      · clear hn hn2 hn1
        go_enter Try.func33, Try.ntmps33
        go_wp2_with (first | (go_at_call 97; refine HL.out.mono ?_; rintro e w1 ⟨r, rfl, hr, hF1⟩; replace hr := Sl.of_owns hr; obtain ⟨a2, cap2, rfl⟩ := hr.form) | (go_at_call 25; refine (HC.out _ hF1).mono ?_; rintro e w2 ⟨rfl, hF2⟩))
        go_ret3
        exact ⟨hF1.trans hF2, rfl⟩
  · have e0 : (checkN xs != 0) = true := by rw [hcn]; rfl
    have hres : shrinkF xs used n = none := by rw [shrinkF, if_neg (by simp [hok])]
    rw [hres]
    clear hres hok hcn hv hlr hn1 hn2
    go_enter Try.func33, Try.ntmps33
    go_wp2_with (first | (go_at_call 97; refine HL.out.mono ?_; rintro e w1 ⟨r, rfl, hr, hF1⟩; replace hr := Sl.of_owns hr; obtain ⟨a2, cap2, rfl⟩ := hr.form) | (go_at_call 25; refine (HC.out _ hF1).mono ?_; rintro e w2 ⟨rfl, hF2⟩))
    go_ret3
    exact ⟨hF1.trans hF2, rfl⟩

end Go.Proofs.Ytckmfagokmpjpaa
