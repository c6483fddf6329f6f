/-
  The readers' law.
-/
import Derived.Test.YtbjffempiaohpaaDec4
import Derived.Test.YtbjffempiaohpaaIno6
namespace Go.Proofs.Ytbjffempiaohpaa
set_option linter.unusedVariables false
set_option linter.unusedSimpArgs false
open Go.RowKit Go.Shelf

/-- What Decode tells, said once for all bytes. -/
def decS (l : List Int) : ByteArray := if decKind l = 1 then nameOf l else ⟨#[]⟩
def decN (l : List Int) : Int := if decKind l = 1 then sizeOf' l else 0
def decX (l : List Int) : List (Int × Int) := if decKind l = 1 then extsF l 23 0 else []
def decB (l : List Int) : Bool := decide (decKind l = 1)
def decE (l : List Int) : Int := if decKind l = 2 then 110 else 0
theorem decX_length (l : List Int) : (decX l).length ≤ 23 := by
  rw [decX]; split
  · exact extsF_length l 23 0
  · simp
theorem dec_uni {w w' : World} {l : List Int} {e : Ending} (h : DecPost w l e w') :
    Fr No w w' ∧ ∃ r, e = .returned (.tuple #[.agg #[.string (decS l), .int .i64 (decN l), r], .bool (decB l), .int .i64 (decE l)]) ∧ Sl w' r (decX l).length (extCells (decX l)) := by
  obtain ⟨hF, ⟨hk, rfl⟩ | ⟨hk, r, rfl, hr⟩ | ⟨hk, rfl⟩⟩ := h
  · exact ⟨hF, _, by rw [zeroIno, decS, decN, decB, decE, hk]; rfl, by rw [decX, hk]; exact Sl.nil _⟩
  · exact ⟨hF, r, by rw [decS, decN, decB, decE, hk]; rfl, by rw [decX, hk]; exact hr⟩
  · exact ⟨hF, _, by rw [zeroIno, decS, decN, decB, decE, hk]; rfl, by rw [decX, hk]; exact Sl.nil _⟩

set_option maxHeartbeats 1000000 in
set_option maxRecDepth 1000000 in
theorem same11_calls (s : ByteArray) (n : Int) (v1 v2 : Value) (xs : List (Int × Int)) (w : World) (hlen : xs.length ≤ 100) (h1 : Sl w v1 xs.length (extCells xs)) (h2 : Sl w v2 xs.length (extCells xs)) :
    Calls Try.prog 12 #[.agg #[.string s, .int .i64 n, v1], .agg #[.string s, .int .i64 n, v2]] w fun e w' => e = .returned (.bool true) ∧ Fr No w w' := by
  obtain ⟨a1, cap1, rfl⟩ := h1.form
  obtain ⟨a2, cap2, rfl⟩ := h2.form
  have hF0 : Fr No w ((w.alloc (Obj.cells #[.string s, .int .i64 n, .slice a1 xs.length cap1] 26)).alloc (Obj.cells #[.string s, .int .i64 n, .slice a2 xs.length cap2] 26)) := ((Fr.refl _ _).alloc _).alloc _
  have HC := Lib.hid (same_calls _ _ xs xs _ (by omega) (by omega) (h1.fr0 hF0) (h2.fr0 hF0))
  clear h1 h2 hlen
  go_enter Try.func12, Try.ntmps12
  go_wp2_with (go_at_call 43; ((with_reducible refine HC.out.mono ?_); rintro e w1 ⟨rfl, n1, hw1⟩))
  go_ret
  exact ⟨rfl, hF0.drewN _⟩

set_option maxHeartbeats 2000000 in
set_option maxRecDepth 1000000 in
theorem inodeReads_calls (v : Value) (l : List Int) (w : World) (h0 : ∀ b ∈ l, 0 ≤ b ∧ b < 256) (hbig : l.length ≤ 9223372036854775807) (hv : Sl w v l.length (bys l)) :
    Calls Try.prog 3 #[v] w fun e w' => e = .returned (.bool true) ∧ Fr No w w' := by
  obtain ⟨a, cap, rfl⟩ := hv.form
  by_cases hlen : l.length ≤ 1000
  · have C1 := Lib.hid (fun w1 (h : Fr No w w1) => decode_calls _ l w1 hlen h0 (hv.fr0 h))
    have C2 := Lib.hid (fun w1 (h : Fr No w w1) => rdecode_calls _ l w1 hlen h0 (hv.fr0 h))
    have HU := Lib.hid (fun (w w' : World) (e : Ending) (h : DecPost w l e w') => dec_uni h)
    have HX := Lib.hid (decX_length l)
    clear h0 hbig hv
    generalize hs : decS l = s at HU
    generalize hn : decN l = n at HU
    generalize hx : decX l = xs at HU HX
    generalize hk : decB l = k at HU
    generalize he : decE l = f at HU
    clear hs hn hx hk he
    go_enter Try.func3, Try.ntmps3
    go_wp2_with fail
    refine (awake11_calls _).mono ?_
    rintro e w1 ⟨rfl, hF1⟩
    go_wp2_with fail
    refine (C1.out _ hF1).mono ?_
    rintro e w2 hp2
    obtain ⟨hF2, r2, rfl, hr2⟩ := HU.out _ _ _ hp2
    obtain ⟨a2, cap2, rfl⟩ := hr2.form
    have hF02 := hF1.trans hF2
    clear hp2
    go_wp2_with fail
    have hb2 := heap_new w2 (Obj.cells #[.string s, .int .i64 n, .slice a2 xs.length cap2] 26)
    have hFA : Fr No w2 (w2.alloc (Obj.cells #[.string s, .int .i64 n, .slice a2 xs.length cap2] 26)) := (Fr.refl _ _).alloc _
    refine (C2.out _ (hF02.trans hFA)).mono ?_
    rintro e w3 hp3
    obtain ⟨hF3, r3, rfl, hr3⟩ := HU.out _ _ _ hp3
    obtain ⟨a3, cap3, rfl⟩ := hr3.form
    have hb3 := heap_alloc (Obj.cells #[.string s, .int .i64 n, .slice a3 xs.length cap3] 26) (hF3.heap hb2 (fun h => h))
    have hFB : Fr No w3 (w3.alloc (Obj.cells #[.string s, .int .i64 n, .slice a3 xs.length cap3] 26)) := (Fr.refl _ _).alloc _
    have c0 := heap_cell (o := 0) hb3 rfl
    have c1 := heap_cell (o := 1) hb3 rfl
    have c2 := heap_cell (o := 2) hb3 rfl
    have HS := Lib.hid (same11_calls s n _ _ xs (w3.alloc (Obj.cells #[.string s, .int .i64 n, .slice a3 xs.length cap3] 26)) (by have := HX.out; omega) (((hr2.fr0 hFA).fr0 hF3).fr0 hFB) (hr3.fr0 hFB))
    have hF03 := ((hF02.trans hFA).trans hF3).trans hFB
    clear hp3 hb2 hb3 hr2 hr3
    go_wp2_with (go_at_call 12; ((with_reducible refine HS.out.mono ?_); rintro e w4 ⟨rfl, hF4⟩))
    go_ret
    exact ⟨rfl, hF03.trans hF4⟩
  · have hlen' : 1000 < l.length := by omega
    clear h0 hv hlen
    go_enter Try.func3, Try.ntmps3
    go_wp2_with fail
    refine (awake11_calls _).mono ?_
    rintro e w1 ⟨rfl, hF1⟩
    go_wp2
    go_ret
    exact ⟨rfl, hF1⟩

set_option maxHeartbeats 2000000 in
set_option maxRecDepth 1000000 in
theorem inodeBack_calls (s : ByteArray) (n : Int) (u : Value) (xs : List (Int × Int)) (v : Value) (l : List Int) (w : World) (hsz : s.size ≤ 9223372036854775807) (h1 : -9223372036854775808 ≤ n) (h2 : n ≤ 9223372036854775807) (hxs : xs.length ≤ 9223372036854775807) (hu : Sl w u xs.length (extCells xs)) (h0 : ∀ b ∈ l, 0 ≤ b ∧ b < 256) (hbig : l.length ≤ 9223372036854775807) (hv : Sl w v l.length (bys l)) :
    Calls Try.prog 4 #[.agg #[.string s, .int .i64 n, u], v] w fun e w' => e = .returned (.bool true) ∧ Fr No w w' := by
  obtain ⟨a, cap, rfl⟩ := hv.form
  obtain ⟨au, capu, rfl⟩ := hu.form
  have hF0 : Fr No w (w.alloc (Obj.cells #[.string s, .int .i64 n, .slice au xs.length capu] 26)) := (Fr.refl _ _).alloc _
  have hb0 := heap_new w (Obj.cells #[.string s, .int .i64 n, .slice au xs.length capu] 26)
  by_cases hx : xs.length ≤ 100 ∧ s.size ≤ 1000 ∧ l.length ≤ 1000
  · obtain ⟨hx1, hx2, hx3⟩ := hx
    have C1 := Lib.hid (fun w1 (h : Fr No w w1) => encode_calls s n _ xs w1 (by omega) h1 h2 hx1 (hu.fr0 h))
    have C2 := Lib.hid (fun (m : List Int) (hm : m.length ≤ 1000) (hr : ∀ b ∈ m, 0 ≤ b ∧ b < 256) (w1 : World) (x : Value) (hsl : Sl w1 x m.length (bys m)) => decode_calls x m w1 hm hr hsl)
    have HU := Lib.hid hu
    have HV := Lib.hid hv
    have HR := Lib.hid h0
    have HB := Lib.hid hb0
    clear h0 hbig hxs hsz hv hu h1 h2
    go_enter Try.func4, Try.ntmps4
    go_wp2_with fail
    generalize w.alloc _ = W at *
    refine (awake11_calls _).mono ?_
    rintro e w1 ⟨rfl, hF1⟩
    have hb1 := hF1.heap hb0 (fun h => h)
    have c0 := heap_cell (o := 0) hb1 rfl
    have c1 := heap_cell (o := 1) hb1 rfl
    have c2 := heap_cell (o := 2) hb1 rfl
    have hF01 := hF0.trans hF1
    clear hb0
    go_upto_if 37 with (go_at_call 13; ((with_reducible refine (C1.out _ hF01).mono ?_); rintro e w2 hp2; obtain ⟨hF2, r2, rfl, hr2⟩ := enc_uni hp2))
    have hb2 := hF2.heap hb1 (fun h => h)
    have k0 := heap_cell (o := 0) hb2 rfl
    have k1 := heap_cell (o := 1) hb2 rfl
    have k2 := heap_cell (o := 2) hb2 rfl
    have HB2 := Lib.hid hb2
    have HU2 := Lib.hid (HU.out.fr0 (hF01.trans hF2))
    clear hp2 hb1 hb2 c0 c1 c2
    go_cut [] (fun wx => Fr No w wx)
    case first =>
      by_cases ho : inoOk s n xs = true
      · obtain ⟨g1, g2, g3, g4, g5⟩ := inoOk_small ho
        have hN : inoN s n xs = 0 := by rw [inoN, if_pos ho]
        have hE : encL s n xs = encF s n xs := by rw [encL, if_pos ho]
        have hL := encF_length s n xs g2
        rw [hE] at hr2
        obtain ⟨e1, e2, e3, -, -, -⟩ := dec_enc ho
        have hk1 := decKind_enc ho
        have HD := Lib.hid (C2.out (encF s n xs) (by omega) (encF_range _ _ _ g2) w2 r2 hr2)
        have hNb : (inoN s n xs == 0) = true := by rw [hN]; rfl
        clear hr2 hE hL hN
        go_wp2_with fail
        refine HD.out.mono ?_
        rintro e w3 ⟨hF3, ⟨hk, -⟩ | ⟨-, r3, rfl, hr3⟩ | ⟨hk, -⟩⟩
        · omega
        · rw [e1, e2]
          rw [e3] at hr3
          obtain ⟨a3, cap3, rfl⟩ := hr3.form
          have hFB : Fr No w3 (w3.alloc (Obj.cells #[.string s, .int .i64 n, .slice a3 xs.length cap3] 26)) := (Fr.refl _ _).alloc _
          have hb3 := heap_alloc (Obj.cells #[.string s, .int .i64 n, .slice a3 xs.length cap3] 26) (hF3.heap HB2.out (fun h => h))
          have c0 := heap_cell (o := 0) hb3 rfl
          have c1 := heap_cell (o := 1) hb3 rfl
          have c2 := heap_cell (o := 2) hb3 rfl
          have HS := Lib.hid (same11_calls s n _ _ xs (w3.alloc (Obj.cells #[.string s, .int .i64 n, .slice a3 xs.length cap3] 26)) hx1 ((HU2.out.fr0 hF3).fr0 hFB) (hr3.fr0 hFB))
          have hF03 := ((hF01.trans hF2).trans hF3).trans hFB
          clear hb3 hr3 HD e1 e2 e3 hk1 k0 k1 k2
          go_wp2_with (go_at_call 12; ((with_reducible refine HS.out.mono ?_); rintro e w4 ⟨rfl, hF4⟩))
          go_meet
          exact hF03.trans hF4
        · omega
      · have hN : inoN s n xs = 110 := by rw [inoN, if_neg ho]
        have hNb : (inoN s n xs == 0) = false := by rw [hN]; rfl
        clear hN
        go_wp2_with fail
        go_meet
        exact hF01.trans hF2
    case rest =>
      have HD := Lib.hid (C2.out l hx3 HR.out wc (.slice a l.length cap) (HV.out.fr0 hcut))
      go_wp2_with fail
      refine HD.out.mono ?_
      rintro e w5 ⟨hF5, ⟨hk, rfl⟩ | ⟨hk, r5, rfl, hr5⟩ | ⟨hk, rfl⟩⟩
      · rw [zeroIno]
        clear HD
        go_wp2
        go_ret
        exact ⟨rfl, (hcut.trans hF5).alloc _⟩
      · obtain ⟨q1, q2, q3, q4⟩ := decKind_one hk
        obtain ⟨g1, g2, g3, g4, g5⟩ := inoOk_small q3
        obtain ⟨a5, cap5, rfl⟩ := hr5.form
        have hFB : Fr No w5 (w5.alloc (Obj.cells #[.string (nameOf l), .int .i64 (sizeOf' l), .slice a5 (extsF l 23 0).length cap5] 26)) := (Fr.refl _ _).alloc _
        have HE := Lib.hid (encode_calls (nameOf l) (sizeOf' l) _ (extsF l 23 0) (w5.alloc (Obj.cells #[.string (nameOf l), .int .i64 (sizeOf' l), .slice a5 (extsF l 23 0).length cap5] 26)) (by omega) (by omega) (by omega) (by omega) (hr5.fr0 hFB))
        have hF05 := (hcut.trans hF5).trans hFB
        have HQ := Lib.hid q4
        have HI := Lib.hid q3
        clear hr5 HD q1 q2 q3 q4 hk g1 g3 g4 g5
        go_wp2_with fail
        refine HE.out.mono ?_
        rintro e w6 ⟨hF6, ⟨-, r6, rfl, hr6⟩ | ⟨hb, -⟩⟩
        · rw [HQ.out] at hr6
          have h64 : l.length = 64 := by rw [← HQ.out]; exact encF_length _ _ _ g2
          have HS := same01_calls (.slice a l.length cap) r6 l l w6 HR.out HR.out (HV.out.fr0 (hF05.trans hF6)) (by rw [h64]; exact hr6)
          rw [decide_eq_true (rfl : l = l)] at HS
          have HS' := Lib.hid HS
          have hF06 := hF05.trans hF6
          clear HS hr6 h64 HE
          go_wp2_with (go_at_call 14; ((with_reducible refine HS'.out.mono ?_); rintro e w7 ⟨rfl, rfl⟩))
          go_ret
          exact ⟨rfl, hF06⟩
        · rw [HI.out] at hb; cases hb
      · rw [zeroIno]
        clear HD
        go_wp2
        go_ret
        exact ⟨rfl, (hcut.trans hF5).alloc _⟩
  · have hb1 : ∀ w1, Fr No (w.alloc (Obj.cells #[.string s, .int .i64 n, .slice au xs.length capu] 26)) w1 → w1.cell? ⟨w.heap.size, 2, none⟩ = some (.slice au xs.length capu) ∧ w1.cell? ⟨w.heap.size, 0, none⟩ = some (.string s) := fun w1 h => ⟨heap_cell (h.heap hb0 (fun h => h)) rfl, heap_cell (h.heap hb0 (fun h => h)) rfl⟩
    have HB1 := Lib.hid hb1
    have HX := Lib.hid hx
    clear hb1 hu hv h0 h1 h2 hx
    go_enter Try.func4, Try.ntmps4
    go_wp2_with fail
    refine (awake11_calls _).mono ?_
    rintro e w1 ⟨rfl, hF1⟩
    obtain ⟨c2, c0⟩ := HB1.out _ hF1
    clear hb0
    go_upto_if 30 with fail
    all_goals first
      | (exfalso; have := HX.out; omega)
      | (go_wp2
         all_goals first
           | (exfalso; have := HX.out; omega)
           | (go_ret; exact ⟨rfl, hF0.trans hF1⟩))
end Go.Proofs.Ytbjffempiaohpaa
