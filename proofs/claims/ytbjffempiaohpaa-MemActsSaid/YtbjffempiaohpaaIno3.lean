/-
  Inodes checked: the reference's Check.
-/
import Derived.Test.YtbjffempiaohpaaIno2
namespace Go.Proofs.Ytbjffempiaohpaa
set_option linter.unusedVariables false
set_option linter.unusedSimpArgs false
open Go.RowKit Go.Shelf

set_option maxHeartbeats 1000000 in
set_option maxRecDepth 1000000 in
theorem rcheck_calls (s : ByteArray) (n : Int) (v : Value) (xs : List (Int × Int)) (w : World) (hs : s.size ≤ 1000000) (h1 : -9223372036854775808 ≤ n) (h2 : n ≤ 9223372036854775807) (hlen : xs.length ≤ 100) (hv : Sl w v xs.length (extCells xs)) :
    Calls Try.prog 63 #[.agg #[.string s, .int .i64 n, v]] w fun e w' => e = .returned (.int .i64 (inoN s n xs)) ∧ Fr No w w' := by
  obtain ⟨a, cap, rfl⟩ := hv.form
  have C1 := Lib.hid (fun w1 (h : Fr No w w1) => rblocks_calls _ xs w1 hlen (hv.fr0 h))
  have C3 := Lib.hid (fun w1 => rname_calls s w1 hs)
  have C4 := Lib.hid (fun w1 => rneed_calls n w1 h1 h2)
  have hll := listF_length xs
  clear hv
  have hcase : (blocksOk xs = false ∧ inoN s n xs = 110) ∨ (blocksOk xs = true ∧ nameF s = false ∧ inoN s n xs = 110) ∨ (blocksOk xs = true ∧ nameF s = true ∧ n < 0 ∧ inoN s n xs = 110) ∨ (blocksOk xs = true ∧ nameF s = true ∧ 0 ≤ n ∧ 1472 < n ∧ inoN s n xs = 110) ∨
      (blocksOk xs = true ∧ nameF s = true ∧ 0 ≤ n ∧ n ≤ 1472 ∧ ((((listF xs).length : Int) != needF n) = false ∧ inoN s n xs = 0 ∨ (((listF xs).length : Int) != needF n) = true ∧ inoN s n xs = 110)) := by
    rw [inoN, inoOk, blocksOk]
    cases okB (blkSeq (-1) xs)
    · simp
    · cases nameF s
      · simp
      · by_cases h0 : 0 ≤ n
        · by_cases h3 : n ≤ 1472
          · by_cases h4 : ((listF xs).length : Int) = needF n
            · simp [h0, h3, h4]
            · simp [h0, h3, h4]
          · simp [h0, h3]; omega
        · simp [h0]; omega
  clear h1 h2
  generalize inoN s n xs = R at *
  go_enter Try.func63, Try.ntmps63
  go_wp2_with fail
  have hF0 : Fr No w (w.alloc (Obj.cells #[.string s, .int .i64 n, .slice a xs.length cap] 26)) := (Fr.refl _ _).alloc _
  have hb0 := heap_new w (Obj.cells #[.string s, .int .i64 n, .slice a xs.length cap] 26)
  generalize w.alloc _ = W at *
  refine (C1.out _ hF0).mono ?_
  rintro e w1 ⟨hF1, r1, rfl, hr1⟩
  obtain ⟨a1, cap1, rfl⟩ := (Sl.of_owns hr1).form
  have c0 := hF1.cell (heap_cell (o := 0) hb0 rfl) (fun h => h)
  have c1 := hF1.cell (heap_cell (o := 1) hb0 rfl) (fun h => h)
  clear hr1 hb0
  rcases hcase with ⟨hb, rfl⟩ | ⟨hb, hn, rfl⟩ | ⟨hb, hn, h0, rfl⟩ | ⟨hb, hn, h0, h3, rfl⟩ | ⟨hb, hn, h0, h3, h4⟩
  · rw [hb]
    go_wp2
    go_ret
    exact ⟨rfl, hF0.trans hF1⟩
  · rw [hb]
    have HN := Lib.hid hn
    clear hn hb
    go_wp2_with (go_at_call 74; ((with_reducible refine (C3.out _).mono ?_); rintro e w2 ⟨rfl, rfl⟩; rw [HN.out]))
    go_ret
    exact ⟨rfl, hF0.trans hF1⟩
  · rw [hb]
    have HN := Lib.hid hn
    clear hn hb
    go_wp2_with (go_at_call 74; ((with_reducible refine (C3.out _).mono ?_); rintro e w2 ⟨rfl, rfl⟩; rw [HN.out]))
    go_ret
    exact ⟨rfl, hF0.trans hF1⟩
  · rw [hb]
    have HN := Lib.hid hn
    clear hn hb
    go_wp2_with (go_at_call 74; ((with_reducible refine (C3.out _).mono ?_); rintro e w2 ⟨rfl, rfl⟩; rw [HN.out]))
    go_ret
    exact ⟨rfl, hF0.trans hF1⟩
  · rw [hb]
    have HN := Lib.hid hn
    clear hn hb
    rcases h4 with ⟨h4, rfl⟩ | ⟨h4, rfl⟩
    all_goals
      go_wp2_with (first | (go_at_call 74; ((with_reducible refine (C3.out _).mono ?_); rintro e w2 ⟨rfl, rfl⟩; rw [HN.out])) | (go_at_call 75; ((with_reducible refine (C4.out _).mono ?_); rintro e w2 ⟨rfl, rfl⟩)))
      go_ret
      exact ⟨rfl, hF0.trans hF1⟩
end Go.Proofs.Ytbjffempiaohpaa
