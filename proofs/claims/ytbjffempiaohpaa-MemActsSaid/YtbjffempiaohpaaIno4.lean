/-
  Inodes checked and written: what each comes to, whatever the inode.
-/
import Derived.Test.YtbjffempiaohpaaEnc2
import Derived.Test.YtbjffempiaohpaaIno3
namespace Go.Proofs.Ytbjffempiaohpaa
set_option linter.unusedVariables false
set_option linter.unusedSimpArgs false
open Go.RowKit Go.Shelf

theorem icheck_calls (s : ByteArray) (n : Int) (v : Value) (xs : List (Int × Int)) (w : World) (hs : s.size ≤ 1000000) (h1 : -9223372036854775808 ≤ n) (h2 : n ≤ 9223372036854775807) (hlen : xs.length ≤ 100) (hv : Sl w v xs.length (extCells xs)) :
    Calls Try.prog 44 #[.agg #[.string s, .int .i64 n, v]] w fun e w' => e = .returned (.int .i64 (inoN s n xs)) ∧ Fr No w w' := by
  obtain ⟨a, cap, rfl⟩ := hv.form
  have C1 := Lib.hid (fun w1 (h : Fr No w w1) => check_calls _ xs w1 hlen (hv.fr0 h))
  have C2 := Lib.hid (fun w1 (h : Fr No w w1) => total_calls _ xs w1 hlen (hv.fr0 h))
  have C3 := Lib.hid (fun w1 => name_calls s w1 hs)
  have C4 := Lib.hid (fun w1 => need_calls n w1 h1 h2)
  cases hn : nameF s
  · rw [show inoN s n xs = 110 by rw [inoN, inoOk, hn]; rfl]
    exact icheck_1 s n a cap xs w C3 (Lib.hid hn)
  · by_cases h0 : n < 0
    · rw [show inoN s n xs = 110 by rw [inoN, inoOk, hn, decide_eq_false (show ¬ 0 ≤ n by omega)]; rfl]
      exact icheck_2 s n a cap xs w C3 (Lib.hid hn) h0
    · by_cases h3 : 1472 < n
      · rw [show inoN s n xs = 110 by rw [inoN, inoOk, hn, decide_eq_false (show ¬ n ≤ 1472 by omega)]; simp]
        exact icheck_3 s n a cap xs w C3 (Lib.hid hn) (decide_eq_false h0) h3
      · cases hc : okB (blkSeq (-1) xs)
        · rw [show inoN s n xs = 110 by rw [inoN, inoOk, hn, hc]; simp]
          exact icheck_4 s n a cap xs w C3 C1 (Lib.hid hn) (Lib.hid (by rw [checkN, hc]; rfl)) (decide_eq_false h0) (decide_eq_false h3)
        · cases hd : (((listF xs).length : Int) != needF n)
          · rw [show inoN s n xs = 0 by rw [inoN, inoOk, hn, hc, decide_eq_true (show 0 ≤ n by omega), decide_eq_true (show n ≤ 1472 by omega), decide_eq_true (show ((listF xs).length : Int) = needF n by simpa using hd)]; rfl]
            exact icheck_5 s n a cap xs w C3 C1 C2 C4 (Lib.hid hn) (Lib.hid (by rw [checkN, hc]; rfl)) (decide_eq_false h0) (decide_eq_false h3) hd
          · rw [show inoN s n xs = 110 by rw [inoN, inoOk, hn, hc, decide_eq_true (show 0 ≤ n by omega), decide_eq_true (show n ≤ 1472 by omega), decide_eq_false (show ¬ ((listF xs).length : Int) = needF n by simpa using hd)]; rfl]
            exact icheck_6 s n a cap xs w C3 C1 C2 C4 (Lib.hid hn) (Lib.hid (by rw [checkN, hc]; rfl)) (decide_eq_false h0) (decide_eq_false h3) hd

/-- An inode that may be: its parts' bounds. -/
theorem inoOk_small {s : ByteArray} {n : Int} {xs : List (Int × Int)} (h : inoOk s n xs = true) : 1 ≤ s.size ∧ s.size ≤ 15 ∧ 0 ≤ n ∧ n ≤ 1472 ∧ xs.length ≤ 23 := by
  simp only [inoOk, nameF, Bool.and_eq_true, decide_eq_true_eq] at h
  obtain ⟨⟨⟨⟨⟨⟨_, h1⟩, h2⟩, h3⟩, h4⟩, h5⟩, h6⟩ := h
  refine ⟨h1, by omega, h3, h4, ?_⟩
  have h7 : (listF xs).length ≤ 23 := by rw [h6 |> fun e => (by omega : (listF xs).length = (needF n).toNat)]; rw [needF]; split <;> omega
  have h8 : xs.length ≤ (listF xs).length := by
    rw [listF, if_pos h5]
    have hp := (of_decide_eq_true h5).1
    clear h5 h6 h7
    have key : ∀ (l : List (Int × Int)) (e : Int), (∀ b ∈ blkSeq e l, 0 ≤ b) → l.length ≤ (blkSeq e l).length := by
      intro l
      induction l with
      | nil => simp
      | cons x l ih =>
        intro e hb
        rw [blkSeq] at hb ⊢
        split at hb
        · have := hb (-1) (by simp); omega
        · rename_i hbad
          rw [if_neg hbad, List.length_append, List.length_cons]
          have := ih (x.1 + x.2) (fun b hb' => hb b (List.mem_append.2 (.inr hb')))
          have hx : 1 ≤ (run x).length := by
            simp only [Bool.not_eq_true, badX, Bool.or_eq_false_iff, decide_eq_false_iff_not] at hbad
            simp [run]; omega
          omega
    exact key xs (-1) hp
  omega

/-- What Encode comes to. -/
def EncPost (w : World) (s : ByteArray) (n : Int) (xs : List (Int × Int)) (e : Ending) (w' : World) : Prop :=
  Fr No w w' ∧ ((inoOk s n xs = true ∧ ∃ r, e = .returned (.tuple #[r, .int .i64 0]) ∧ Sl w' r 64 (bys (encF s n xs))) ∨ (inoOk s n xs = false ∧ e = .returned (.tuple #[.slice none 0 0, .int .i64 110])))

theorem encF_length (s : ByteArray) (n : Int) (xs : List (Int × Int)) (h : s.size ≤ 15) : (encF s n xs).length = 64 := by rw [encF, encN_length, encHead_length s n h]

set_option maxHeartbeats 1000000 in
set_option maxRecDepth 1000000 in
theorem encode_calls (s : ByteArray) (n : Int) (v : Value) (xs : List (Int × Int)) (w : World) (hs : s.size ≤ 1000000) (h1 : -9223372036854775808 ≤ n) (h2 : n ≤ 9223372036854775807) (hlen : xs.length ≤ 100) (hv : Sl w v xs.length (extCells xs)) :
    Calls Try.prog 13 #[.agg #[.string s, .int .i64 n, v]] w (EncPost w s n xs) := by
  obtain ⟨a, cap, rfl⟩ := hv.form
  have CK := fun w1 (h : Fr No w w1) => icheck_calls s n _ xs w1 hs h1 h2 hlen (hv.fr0 h)
  cases ho : inoOk s n xs
  · rw [show inoN s n xs = 110 by rw [inoN, ho]; rfl] at CK
    have CK' := Lib.hid CK
    clear CK hv h1 h2
    have hF0 : Fr No w (w.alloc (Obj.cells #[.string s, .int .i64 n, .slice a xs.length cap] 26)) := (Fr.refl _ _).alloc _
    go_enter Try.func13, Try.ntmps13
    go_wp2_with (go_at_call 44; ((with_reducible refine (CK'.out _ hF0).mono ?_); rintro e w1 ⟨rfl, hF1⟩))
    go_ret2
    exact ⟨hF0.trans hF1, .inr ⟨ho, rfl⟩⟩
  · obtain ⟨g1, g2, g3, g4, g5⟩ := inoOk_small ho
    rw [show inoN s n xs = 0 by rw [inoN, ho]; rfl] at CK
    refine (enc_calls s n a cap xs w g2 g1 g3 g4 g5 hv (Lib.hid CK)).mono ?_
    rintro e w' ⟨b, rfl, hF, hR, hb⟩
    have := hR.sl
    rw [encF_length s n xs g2] at this
    exact ⟨hF, .inl ⟨ho, _, rfl, this⟩⟩

set_option maxHeartbeats 1000000 in
set_option maxRecDepth 1000000 in
theorem rencode_calls (s : ByteArray) (n : Int) (v : Value) (xs : List (Int × Int)) (w : World) (hs : s.size ≤ 1000000) (h1 : -9223372036854775808 ≤ n) (h2 : n ≤ 9223372036854775807) (hlen : xs.length ≤ 100) (hv : Sl w v xs.length (extCells xs)) :
    Calls Try.prog 42 #[.agg #[.string s, .int .i64 n, v]] w (EncPost w s n xs) := by
  obtain ⟨a, cap, rfl⟩ := hv.form
  have CK := fun w1 (h : Fr No w w1) => rcheck_calls s n _ xs w1 hs h1 h2 hlen (hv.fr0 h)
  cases ho : inoOk s n xs
  · rw [show inoN s n xs = 110 by rw [inoN, ho]; rfl] at CK
    have CK' := Lib.hid CK
    clear CK hv h1 h2
    have hF0 : Fr No w (w.alloc (Obj.cells #[.string s, .int .i64 n, .slice a xs.length cap] 26)) := (Fr.refl _ _).alloc _
    go_enter Try.func42, Try.ntmps42
    go_wp2_with (go_at_call 63; ((with_reducible refine (CK'.out _ hF0).mono ?_); rintro e w1 ⟨rfl, hF1⟩))
    go_ret2
    exact ⟨hF0.trans hF1, .inr ⟨ho, rfl⟩⟩
  · obtain ⟨g1, g2, g3, g4, g5⟩ := inoOk_small ho
    rw [show inoN s n xs = 0 by rw [inoN, ho]; rfl] at CK
    refine (renc_calls s n a cap xs w g2 g1 g3 g4 g5 hv (Lib.hid CK)).mono ?_
    rintro e w' ⟨r, rfl, hF, hR⟩
    exact ⟨hF, .inl ⟨ho, _, rfl, Sl.of_owns hR⟩⟩
end Go.Proofs.Ytbjffempiaohpaa
