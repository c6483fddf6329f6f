/-
  The reference's Grow, Shrink.
-/
import Derived.Test.YtckmfagokmpjpaaExt6
import Derived.Deep.RegionWith
namespace Go.Proofs.Ytckmfagokmpjpaa
set_option linter.unusedVariables false
set_option linter.unusedSimpArgs false
open Go.RowKit Go.Shelf

theorem shr_bit0 (s i : Nat) (hs : s < 2 ^ 32) (hi : i < 32) : (bits .and .u32 ((s : Int) / 2 ^ i) 1 == 0) = !s.testBit i := by
  have h := shr_bit s i hs hi
  have h1 : s / 2 ^ i < 2 ^ 32 := Nat.lt_of_le_of_lt (Nat.div_le_self _ _) hs
  have e := and_u32 (s / 2 ^ i) 1 h1 (by decide)
  rw [show ((1 : Nat) : Int) = 1 by rfl] at e
  rw [show (2 : Int) ^ i = ((2 ^ i : Nat) : Int) by simp, ← Int.natCast_ediv, e, Nat.and_one_is_mod] at h ⊢
  rw [← h]
  rcases Nat.mod_two_eq_zero_or_one (s / 2 ^ i) with h2 | h2 <;> rw [h2] <;> rfl

theorem rgrow_bad (v : Value) (xs : List (Int × Int)) (used n : Int) (w : World) (hlen : xs.length ≤ 100) (hv : Sl w v xs.length (extCells xs)) (hbad : ¬ (okB (blkSeq (-1) xs) = true ∧ 0 ≤ n)) :
    Calls Try.prog 27 #[v, .int .u32 used, .int .i64 n] w fun e w' => Fr No w w' ∧ e = .returned (.tuple #[.slice none 0 0, .int .u32 0, .int .i64 1]) := by
  have HB := Lib.hid (rblocks_calls v xs w hlen hv)
  obtain ⟨a, cap, rfl⟩ := hv.form
  have hb : blocksOk xs = false ∨ (blocksOk xs = true ∧ n < 0) := by
    cases h : blocksOk xs with
    | false => exact .inl rfl
    | true => refine .inr ⟨rfl, ?_⟩; rw [blocksOk] at h; simp only [h, true_and] at hbad; omega
  clear hbad hv
  rcases hb with hb | ⟨hb, hn⟩
  all_goals
    go_enter Try.func27, Try.ntmps27
    go_wp2_with (go_at_call 24; refine HB.out.mono ?_; rintro e w1 ⟨hF1, r, rfl, hr⟩; rw [hb]; obtain ⟨a2, cap2, rfl⟩ := (Sl.of_owns hr).form)
    go_ret3
    exact ⟨hF1, rfl⟩

set_option maxHeartbeats 4000000 in
set_option maxRecDepth 100000 in
theorem rgrow_ok (v : Value) (xs : List (Int × Int)) (used : Nat) (n : Int) (w : World) (hlen : xs.length ≤ 100) (hu : used < 2 ^ 32) (hv : Sl w v xs.length (extCells xs)) (hok : okB (blkSeq (-1) xs) = true) (hn0 : 0 ≤ n) (hn2 : n < 9223372036854775808) :
    Calls Try.prog 27 #[v, .int .u32 used, .int .i64 n] w (GrowPost w (growR xs used n)) := by
  have HB := Lib.hid (rblocks_calls v xs w hlen hv)
  obtain ⟨a, cap, rfl⟩ := hv.form
  have hb : blocksOk xs = true := hok
  have hll := listF_length xs
  have HLR := Lib.hid (listF_range xs)
  clear hok hv
  go_enter Try.func27, Try.ntmps27
  go_wp2_with (go_at_call 24; refine HB.out.mono ?_; rintro e w1 ⟨hF1, r, rfl, hr⟩; rw [hb]; obtain ⟨a2, cap2, rfl⟩ := (Sl.of_owns hr).form)
  go_loopw [11, 12] (fun m b wr => ∃ (d : Nat) (acc : List Int), d ≤ 23 ∧ b = .int .i64 (32 - d : Int) ∧ acc.length + d ≤ 23 ∧ moreF used n 23 [] = moreF used n d acc ∧ wr.ownsRow w1.heap.size 3 1 m acc.length (ints acc) ∧ Fr No w1 wr)
    (fun _ b _ => (32 - intOf b).toNat)
  case atStart => exact ⟨23, [], by omega, rfl, by simp, rfl, World.ownsRow_nil _ _ _ _, Fr.refl _ _⟩
  case round =>
    obtain ⟨d, acc, hd, rfl, hal, hmf, hrow, hFr⟩ := hrel
    have hsl := Sl.of_owns hrow
    obtain ⟨a3, cap3, rfl⟩ := hsl.form
    have HM := Lib.hid hmf
    clear hmf
    by_cases hlt : (acc.length : Int) < n ∧ 0 < d
    · obtain ⟨hlt1, hlt2⟩ := hlt
      obtain ⟨d, rfl⟩ : ∃ d', d = d' + 1 := ⟨d - 1, by omega⟩
      have hb1 : (32 - ((d + 1 : Nat) : Int)) = ((31 - d : Nat) : Int) := by omega
      rw [hb1]
      have hnext : moreF used n 23 [] = if used.testBit (31 - d) then moreF used n d acc else moreF used n d (acc ++ [((31 - d : Nat) : Int)]) := by rw [HM.out, moreF, if_pos hlt1]
      have hbit := shr_bit0 used (31 - d) hu (by omega)
      have hq : (31 - d) + d = 31 := by omega
      have hbl : 31 - d < 32 := by omega
      generalize 31 - d = q at *
      clear hb1
      by_cases ht : used.testBit q = true
      · rw [if_pos ht] at hnext
        rw [ht] at hbit
        have HN := Lib.hid hnext
        clear hnext ht
        go_wp2
        exact ⟨⟨d, acc, by omega, by congr 1; omega, by omega, HN.out, hrow, hFr⟩, by simp [intOf]; omega⟩
      · rw [if_neg ht] at hnext
        rw [Bool.not_eq_true] at ht
        rw [ht] at hbit
        have HN := Lib.hid hnext
        clear hnext ht
        go_wp2_with (at_builtin; refine append_out el_int rfl _ _ rfl w1.heap.size (.slice a3 acc.length cap3) _ _ rfl (hrow.alloc _) ⟨wr.heap.size, 0, none⟩ 1 1 [.int .i64 q] rfl rfl (cell_one_new _ _ _) (by simp [Value.oneCell']) (by unfold maxLen; omega) (by omega) (by have := hFr.size; simp; omega) ?_; intro v' w3 hown' hgrow _)
        exact ⟨⟨d, acc ++ [(q : Int)], by omega, by congr 1; omega, by simp; omega, HN.out, by simpa [ints] using hown', (hFr.alloc _).grown hgrow (fun k e hk => by have := (hrow.lt k e).1; omega)⟩, by simp [intOf]; omega⟩
    · have hend : moreF used n 23 [] = acc := by
        rw [HM.out]; cases d with
        | zero => rfl
        | succ d => rw [moreF, if_neg (by omega)]
      have hacc : ∀ b ∈ acc, 0 ≤ b ∧ b < 32 := by rw [← hend]; exact moreF_range used n 23 [] (by simp)
      have HA := Lib.hid hacc
      clear hacc
      by_cases hsm : (acc.length : Int) < n
      · have hd0 : d = 0 := by omega
        subst hd0
        have hres : growR xs used n = none := by rw [growR, hend, if_pos hsm]
        have HN := Lib.hid hres
        clear hres hend hlt hsl
        go_wp2
        go_ret3
        exact ⟨hF1.trans hFr, by rw [HN.out]; rfl⟩
      · have hres : growR xs used n = some (joinsL (listF xs ++ acc), used ||| maskN acc) := by rw [growR, hend, if_neg hsm]
        have HN := Lib.hid hres
        clear hres hend hlt
        have hr2 := hFr.ownsRow hr (fun k e h => h)
        have hsz := hF1.size
        have hsz2 := hFr.size
        obtain ⟨hm1, hm2⟩ := maskL_nat acc (fun b hb => (HA.out b hb).2)
        have hor := or_u32 used (maskN acc) hu hm2
        have HO := Lib.hid (And.intro hm1 hor)
        have hlap : (listF xs ++ acc).length ≤ 1000 := by simp; omega
        clear hm1 hor
        go_wp2_with (first
          | (at_builtin; refine append_sl el_int rfl _ _ rfl w.heap.size (.slice a2 (listF xs).length cap2) _ _ rfl hr2 rfl hsl (by simp [ints]) (by simp [ints, Value.oneCell']) (by unfold maxLen; omega) (by omega) (by omega) ?_; intro v' w3 hown' hgrow; have hF3 : Fr (fun k => some k = (Value.slice a2 (listF xs).length cap2).ownBlock) wr w3 := (Fr.refl _ _).grown hgrow (fun k e _ => e.symm); have hsl3 := hsl.fr hF3 (fun k e _ hk => by have h1 := (hr.lt k hk.symm).2; have h2 := (hrow.lt k e).1; omega); replace hown' : w3.ownsRow w.heap.size 3 1 v' (listF xs ++ acc).length (ints (listF xs ++ acc)) := by simpa [ints] using hown')
          | (go_at_call 96; refine (extents_calls v' (listF xs ++ acc) _ hlap (fun b hb => (List.mem_append.1 hb).elim (HLR.out b) (HA.out b)) (Sl.of_owns hown')).mono ?_; rintro e w4 ⟨r4, rfl, hrow4, hF4⟩; replace hF3 := Lib.hid hF3; have hsl4 := hsl3.fr0 hF4)
          | (go_at_call 32; refine (set_calls _ acc _ (by omega) HA.out hsl4).mono ?_; rintro e w5 ⟨rfl, rfl⟩))
        all_goals
          go_ret3
          refine ⟨((hF1.trans hFr).trans' hF3.out (fun k hk h => by have := (hr.lt k h.symm).1; omega)).trans hF4, ?_⟩
          rw [HN.out]
          refine ⟨r4, ?_, ?_⟩
          · rw [HO.out.1, HO.out.2]; rfl
          · exact ownsRow_base hrow4 (by have := hF3.out.size; omega)

/-! ### Shrink -/
theorem shrink_res (xs : List (Int × Int)) (used : Nat) (n : Int) (hu : used < 2 ^ 32) (h : okB (blkSeq (-1) xs) = true) (h0 : 0 ≤ n) (h1 : n ≤ (listF xs).length) :
    shrinkF xs used n = some (joinsL ((listF xs).take n.toNat), dif used (maskN ((listF xs).drop n.toNat))) := by
  rw [shrinkF, if_pos ⟨h, h0, h1⟩, dropL_mask used _ hu (fun b hb => (listF_range xs b (List.mem_of_mem_drop hb)).1)]

set_option maxHeartbeats 800000 in
set_option maxRecDepth 100000 in
theorem rshrink_calls (v : Value) (xs : List (Int × Int)) (used : Nat) (n : Int) (w : World) (hlen : xs.length ≤ 100) (hu : used < 2 ^ 32) (hv : Sl w v xs.length (extCells xs)) (hn1 : -9223372036854775808 ≤ n) (hn2 : n < 9223372036854775808) :
    Calls Try.prog 34 #[v, .int .u32 used, .int .i64 n] w (ShrinkPost w (shrinkF xs used n)) := by
  have HB := Lib.hid (rblocks_calls v xs w hlen hv)
  obtain ⟨a, cap, rfl⟩ := hv.form
  have hll := listF_length xs
  have HLR := Lib.hid (listF_range xs)
  cases hb : blocksOk xs with
  | false =>
    have hres : shrinkF xs used n = none := by rw [shrinkF, if_neg]; rw [blocksOk] at hb; simp [hb]
    rw [hres]
    clear hres hv hn1 hn2
    go_enter Try.func34, Try.ntmps34
    go_wp2_with (go_at_call 24; refine HB.out.mono ?_; rintro e w1 ⟨hF1, r, rfl, hr⟩; rw [hb]; obtain ⟨a2, cap2, rfl⟩ := (Sl.of_owns hr).form)
    go_ret3
    exact ⟨hF1, rfl⟩
  | true =>
    by_cases h0 : 0 ≤ n
    · by_cases h1 : n ≤ (listF xs).length
      · have hres := shrink_res xs used n hu hb h0 h1
        rw [hres]
        obtain ⟨k, rfl⟩ := Int.eq_ofNat_of_zero_le h0
        rw [Int.toNat_natCast]
        obtain ⟨hm1, hm2⟩ := maskL_nat ((listF xs).drop k) (fun b hb => (listF_range xs b (List.mem_of_mem_drop hb)).2)
        have HO := Lib.hid (And.intro hm1 (andNot_u32 used (maskN ((listF xs).drop k))))
        have h1' : k ≤ (listF xs).length := by omega
        clear hres hv hn1 hn2 hm1 hm2
        go_enter Try.func34, Try.ntmps34
        go_wp2_with (go_at_call 24; refine HB.out.mono ?_; rintro e w1 ⟨hF1, r, rfl, hr⟩; rw [hb]; obtain ⟨a2, cap2, rfl⟩ := (Sl.of_owns hr).form)
        have hsl := Sl.of_owns hr
        have hcap := hsl.le
        have hc0 : (k : Int) ≤ (cap2 : Int) := by omega
        have hst := hsl.take h1' 1
        have hsd := hsl.drop h1' (size := 1) (by simp [ints])
        rw [Nat.mul_one] at hst hsd
        rw [show (ints (listF xs)).take k = ints ((listF xs).take k) by simp [ints]] at hst
        rw [show (ints (listF xs)).drop k = ints ((listF xs).drop k) by simp [ints]] at hsd
        have hlt1 : ((listF xs).take k).length = k := by rw [List.length_take]; omega
        have hlt2 : ((listF xs).drop k).length = (listF xs).length - k := List.length_drop
        have HS1 := Lib.hid (fun W (h : Fr No w1 W) => show Sl W (.slice a2 k cap2) ((listF xs).take k).length (ints ((listF xs).take k)) from by rw [hlt1]; exact hst.fr0 h)
        have HS2 := Lib.hid (fun W (h : Fr No w1 W) => hsd.fr0 h)
        have HLL := Lib.hid (And.intro hlt1 hlt2)
        have HT := Lib.hid (fun b (hb : b ∈ (listF xs).take k) => HLR.out b (List.mem_of_mem_take hb))
        have HD := Lib.hid (fun b (hb : b ∈ (listF xs).drop k) => HLR.out b (List.mem_of_mem_drop hb))
        have hl1 : ((listF xs).take k).length ≤ 1000 := by omega
        clear hst hsd hsl hlt1 hlt2
        by_cases hck : cap2 = k
        · subst hck
          have HS3 := Lib.hid (fun W (h : Fr No w1 W) => show Sl W (.slice a2 0 0) ((listF xs).drop cap2).length (ints ((listF xs).drop cap2)) from by
            have := HS2.out W h; rw [if_pos rfl, show (listF xs).length - cap2 = 0 by omega, Nat.sub_self] at this; rw [HLL.out.2, show (listF xs).length - cap2 = 0 by omega]; exact this)
          go_region_with (first | (go_at_call 96; ((with_reducible refine (extents_calls _ ((listF xs).take cap2) _ hl1 HT.out (HS1.out _ (Fr.refl _ _).drew)).mono ?_); rintro e w4 ⟨r4, rfl, hrow4, hF4⟩)) | (go_at_call 32; ((with_reducible refine (set_calls _ ((listF xs).drop cap2) _ (by have := HLL.out.2; omega) HD.out (HS3.out _ ((Fr.refl _ _).drew.trans hF4))).mono ?_); rintro e w5 ⟨rfl, rfl⟩)))
          all_goals
            go_wp2
            go_ret3
            refine ⟨(hF1.trans (Fr.refl _ _).drew).trans hF4, r4, ?_, ?_⟩
            · rw [HO.out.1, HO.out.2]; rfl
            · exact ownsRow_base hrow4 (by have := hF1.size; simpa using this)
        · have HS3 := Lib.hid (fun W (h : Fr No w1 W) => show Sl W (.slice (a2.map (·.add k)) ((listF xs).length - k) (cap2 - k)) ((listF xs).drop k).length (ints ((listF xs).drop k)) from by
            have := HS2.out W h; rw [if_neg hck] at this; rw [HLL.out.2]; exact this)
          go_region_with (first | (go_at_call 96; ((with_reducible refine (extents_calls _ ((listF xs).take k) _ hl1 HT.out (HS1.out _ (Fr.refl _ _).drew)).mono ?_); rintro e w4 ⟨r4, rfl, hrow4, hF4⟩)) | (go_at_call 32; ((with_reducible refine (set_calls _ ((listF xs).drop k) _ (by have := HLL.out.2; omega) HD.out (HS3.out _ ((Fr.refl _ _).drew.trans hF4))).mono ?_); rintro e w5 ⟨rfl, rfl⟩)))
          all_goals
            go_wp2
            go_ret3
            refine ⟨(hF1.trans (Fr.refl _ _).drew).trans hF4, r4, ?_, ?_⟩
            · rw [HO.out.1, HO.out.2]; rfl
            · exact ownsRow_base hrow4 (by have := hF1.size; simpa using this)
      · have hres : shrinkF xs used n = none := by rw [shrinkF, if_neg (by omega)]
        rw [hres]
        have h1' : ((listF xs).length : Int) < n := by omega
        clear hres hv hn1 hn2 h1
        go_enter Try.func34, Try.ntmps34
        go_wp2_with (go_at_call 24; refine HB.out.mono ?_; rintro e w1 ⟨hF1, r, rfl, hr⟩; rw [hb]; obtain ⟨a2, cap2, rfl⟩ := (Sl.of_owns hr).form)
        go_ret3
        exact ⟨hF1, rfl⟩
    · have hres : shrinkF xs used n = none := by rw [shrinkF, if_neg (by omega)]
      rw [hres]
      clear hres hv hn1 hn2
      go_enter Try.func34, Try.ntmps34
      go_wp2_with (go_at_call 24; refine HB.out.mono ?_; rintro e w1 ⟨hF1, r, rfl, hr⟩; rw [hb]; obtain ⟨a2, cap2, rfl⟩ := (Sl.of_owns hr).form)
      go_ret3
      exact ⟨hF1, rfl⟩

end Go.Proofs.Ytckmfagokmpjpaa
