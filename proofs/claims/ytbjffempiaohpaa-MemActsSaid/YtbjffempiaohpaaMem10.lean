/-
  The memory of chapter 9: both memories side by side; MemKeeps.
-/
import Derived.Test.YtbjffempiaohpaaMem9
namespace Go.Proofs.Ytbjffempiaohpaa
set_option linter.unusedVariables false
set_option linter.unusedSimpArgs false
open Go.RowKit Go.Shelf Go.Maps

theorem RefAt.fr {S : Nat → Prop} {w w' : World} {rb : Nat} {R : Nat → Prop} {F B : List Int} (h : RefAt w rb R F B) (hF : Fr S w w') (hn : ∀ k, S k → ¬ R k) : RefAt w' rb R F B := by
  obtain ⟨g, cap, gw, h⟩ := h.inn; exact (h.fr hF hn).at
theorem RefAt.low {w : World} {rb : Nat} {R : Nat → Prop} {F B : List Int} (h : RefAt w rb R F B) : ∀ j, R j → j < w.heap.size := by
  obtain ⟨g, cap, gw, h⟩ := h.inn; exact h.low
/-- Both memories, in blocks of their own. -/
def Two (w : World) (mb : Nat) (A : Nat → Prop) (rb : Nat) (R : Nat → Prop) (F B B' : List Int) : Prop := MemAt w mb A F B ∧ RefAt w rb R F B' ∧ ∀ k, A k → ¬ R k
theorem Two.mem {w w' : World} {mb rb : Nat} {A A' R : Nat → Prop} {F B B2 B' : List Int} (h : Two w mb A rb R F B B') (hp : Mp w mb A F B2 w' A') : Two w' mb A' rb R F B2 B' :=
  ⟨hp.1, h.2.1.fr hp.2.1 h.2.2, fun k hk hR => by
    rcases hp.2.2 k hk with h1 | h1
    · exact h.2.2 k h1 hR
    · have := h.2.1.low k hR; omega⟩
theorem Two.ref {w w' : World} {mb rb : Nat} {A R R' : Nat → Prop} {F B B' B2 : List Int} (h : Two w mb A rb R F B B') (hp : Rp w rb R F B2 w' R') : Two w' mb A rb R' F B B2 :=
  ⟨h.1.fr hp.2.1 (fun k hR hA => h.2.2 k hA hR), hp.1, fun k hk hR => by
    rcases hp.2.2 k hR with h1 | h1
    · exact h.2.2 k hk h1
    · have := h.1.low k hk; omega⟩
theorem Two.fr {S : Nat → Prop} {w w' : World} {mb rb : Nat} {A R : Nat → Prop} {F B B' : List Int} (h : Two w mb A rb R F B B') (hF : Fr S w w') (h1 : ∀ k, S k → ¬ A k) (h2 : ∀ k, S k → ¬ R k) : Two w' mb A rb R F B B' :=
  ⟨h.1.fr hF h1, h.2.1.fr hF h2, h.2.2⟩
theorem Two.fr0 {w w' : World} {mb rb : Nat} {A R : Nat → Prop} {F B B' : List Int} (h : Two w mb A rb R F B B') (hF : Fr No w w') : Two w' mb A rb R F B B' := h.fr hF (fun _ h => h.elim) (fun _ h => h.elim)
theorem Rp.step {w wi w' : World} {rb : Nat} {R R' : Nat → Prop} {F B : List Int} (h : Rp wi rb R F B w' R') (hF : Fr No w wi) (hR : ∀ j, R j → w.heap.size ≤ j) : Fr No w w' ∧ ∀ j, R' j → w.heap.size ≤ j :=
  ⟨hF.trans' h.2.1 (fun i hi hs => by have := hR i hs; omega), fun j hj => by
    rcases h.2.2 j hj with h1 | h1
    · exact hR j h1
    · exact Nat.le_trans hF.size h1⟩

theorem ref_conv {w : World} {rb g cap gw : Nat} {R : Nat → Prop} {F B : List Int} (h : RefIn w rb g cap gw R F B) :
    w.cell? ⟨rb, 0, none⟩ = some (.slice (some ⟨g, 0, none⟩) 8192 cap) ∧ (convert 22 9 (.slice (some ⟨g, 0, none⟩) 8192 cap)).run Try.prog w = .ok (.string (strOfNums B)) w := by
  refine ⟨heap_cell (o := 0) h.box rfl, ?_⟩
  have h1 := Sl.of_owns h.row
  have h2 := conv_sl (w := w) (a := some ⟨g, 0, none⟩) (cap := cap) (l := B) (by rw [h.blen]; exact h1)
  rw [h.blen] at h2
  exact h2
theorem row_conv {w : World} {b : Nat} {B : List Int} (h : Row w b 5 B) (hB : B.length = 8192) :
    (convert 22 9 (.slice (some ⟨b, 0, none⟩) 8192 8192)).run Try.prog w = .ok (.string (strOfNums B)) w := by
  have h2 := conv_sl (w := w) (a := some ⟨b, 0, none⟩) (cap := 8192) (l := B) (by have := h.sl; rw [hB] at this ⊢; exact this)
  rw [hB] at h2
  exact h2

set_option maxHeartbeats 2000000 in
set_option maxRecDepth 1000000 in
theorem memKeeps_calls (v : Value) (l : List Int) (a n : Int) (w : World) (h0 : ∀ b ∈ l, 0 ≤ b ∧ b < 256) (hbig : l.length ≤ 9223372036854775807) (ha : -9223372036854775808 ≤ a ∧ a ≤ 9223372036854775807) (hn : -9223372036854775808 ≤ n ∧ n ≤ 9223372036854775807) (hv : Sl w v l.length (bys l)) :
    Calls Try.prog 6 #[v, .int .i64 a, .int .i64 n] w fun e w' => e = .returned (.bool true) ∧ Fr No w w' := by
  obtain ⟨av, cap, rfl⟩ := hv.form
  by_cases hlen : l.length ≤ 9000
  · have C1 := Lib.hid (fun w1 (h : Fr No w w1) => flat_calls _ l w1 h0 (hv.fr0 h))
    have C2 := Lib.hid (fun w1 (h : Fr No w w1) => rflat_calls _ l w1 h0 (hv.fr0 h))
    have HFL := Lib.hid (flatF_length l)
    have HA := Lib.hid ha
    have HN := Lib.hid hn
    clear h0 hbig hv ha hn
    generalize flatF l = F at *
    go_enter Try.func6, Try.ntmps6
    go_wp2_with fail
    refine (awake9_calls _).mono ?_
    rintro e w1 ⟨rfl, hF1⟩
    go_wp2_with fail
    refine (C1.out _ hF1).mono ?_
    rintro e w2 ⟨mb, A2, rfl, hM2, hF2, hA2⟩
    have hF02 := hF1.trans hF2
    go_wp2_with fail
    refine (C2.out _ hF02).mono ?_
    rintro e w3 ⟨rb, R3, rfl, hR3, hF3, hR3l⟩
    have hF03 := hF02.trans hF3
    have hA3 : ∀ j, A2 j → w.heap.size ≤ j := fun j hj => Nat.le_trans hF1.size (hA2 j hj)
    have hR3' : ∀ j, R3 j → w.heap.size ≤ j := fun j hj => Nat.le_trans hF02.size (hR3l j hj)
    have hT3 : Two w3 mb A2 rb R3 F F F := ⟨hM2.fr0 hF3, hR3, fun k hk hR => by have := hM2.low k hk; have := hR3l k hR; omega⟩
    clear hM2 hR3 hA2 hR3l
    have HT3 := Lib.hid hT3
    have HA3 := Lib.hid hA3
    have HR3 := Lib.hid hR3'
    clear hT3 hA3 hR3'
    go_wp2_with fail
    refine (putcell_calls HT3.out.1 a n HA.out).mono ?_
    rintro e w4 ⟨A4, rfl, hp4⟩
    go_upto_if 28 with fail
    have hT4 := Lib.hid (HT3.out.mem hp4)
    obtain ⟨hF04, hA4⟩ := hp4.step hF03 HA3.out
    have HA4 := Lib.hid hA4
    clear hp4 hA4
    go_cut [] (fun wx => ∃ A5 R5, Two wx mb A5 rb R5 F (putB F a n) (putB F a n) ∧ Fr No w wx ∧ (∀ j, A5 j → w.heap.size ≤ j))
    case first =>
      by_cases hp : putT a = 0
      · have hpb : (putT a == 0) = true := by simp [hp]
        have hB : putB F a n = setF F a n := by rw [putB, if_pos hp]
        obtain ⟨r1, r2, r3⟩ := putT_range hp
        have HC : Calls Try.prog 23 #[.pointer (some ⟨mb, 0, none⟩), .int .i64 a] w4 fun e w' => ∃ A', e = .returned (.tuple #[.int .i64 n, .int .i64 0]) ∧ Mp w4 mb A4 F (setF F a n) w' A' := by
          have h1 := hT4.out.1
          rw [hB] at h1
          have h2 := cell_calls h1 a HA.out
          rw [putT_zero hp, if_pos rfl, get_set F HFL.out a n r1 r2 HN.out] at h2
          exact h2
        have HC' := Lib.hid HC
        have HB := Lib.hid hB
        clear hp hB HC r1 r2 r3
        go_wp2_with fail
        refine HC'.out.mono ?_
        rintro e w5 ⟨A5, rfl, hp5⟩
        have hT5 := Lib.hid (show Two w5 mb A5 rb R3 F (setF F a n) F from by have := hT4.out; rw [HB.out] at this; exact this.mem hp5)
        obtain ⟨hF05, hA5⟩ := hp5.step hF04 HA4.out
        have HA5 := Lib.hid hA5
        clear hp5 hA5 HC'
        go_wp2_with fail
        refine (rset_calls hT5.out.2.1 a n HA.out).mono ?_
        rintro e w6 ⟨R6, rfl, hp6⟩
        obtain ⟨hF06, hR6⟩ := hp6.step hF05 HR3.out
        have hT6 := Lib.hid (hT5.out.ref hp6)
        clear hp6 hR6
        go_wp2_with fail
        go_meet
        exact ⟨A5, R6, by rw [HB.out]; exact hT6.out, hF06, HA5.out⟩
      · have hpb : (putT a == 0) = false := by simpa using hp
        have hB : putB F a n = F := by rw [putB, if_neg hp]
        have HB := Lib.hid hB
        clear hp hB
        go_wp2_with fail
        go_meet
        exact ⟨A4, R3, by have := hT4.out; rw [HB.out] at this ⊢; exact this, hF04, HA4.out⟩
    case rest =>
    obtain ⟨A5, R5, hT5, hF05, hA5⟩ := hcut
    obtain ⟨g, capg, gw, hI⟩ := hT5.2.1.inn
    have hbl := hT5.1.blen
    generalize putB F a n = B at *
    have HSS := Lib.hid (fun w' (h : Fr A5 wc w') => ref_conv (hI.fr h hT5.2.2))
    have HT5 := Lib.hid hT5
    have hF0 := Fr.refl A5 wc
    have hFd := (Fr.refl A5 wc).drew
    have HBY := Lib.hid (fun (w' : World) (h : Fr No wc w') => bytes_calls (hT5.1.fr0 h))
    have HCV := Lib.hid (fun (w' : World) (b : Nat) (h : Row w' b 5 B) => row_conv h hbl)
    have HA5 := Lib.hid hA5
    clear hT5 hI hbl hA5 hT4 HT3
    generalize strOfNums B = s at *
    go_upto_region 14 with fail
    obtain ⟨e0, e1⟩ := HSS.out _ hFd
    go_region_with (first | (go_at_call 21; ((with_reducible refine (HBY.out wc.drew (Fr.refl _ _).drew).mono ?_); rintro e w7 ⟨b7, A7, rfl, hp7, hr7, -, -⟩; have hFn := hFd.trans hp7.2.1; have hcv := HCV.out w7 b7 hr7; obtain ⟨e2, e3⟩ := HSS.out _ hFn; clear hr7 hp7)) | fail "arm")
    all_goals (
      go_wp2
      go_ret
      exact ⟨rfl, hF05.trans' hFn (fun i hi h => by have := HA5.out i h; omega)⟩)
  · have hlen' : 9000 < l.length := by omega
    clear h0 hv hlen
    go_enter Try.func6, Try.ntmps6
    go_wp2_with fail
    refine (awake9_calls _).mono ?_
    rintro e w1 ⟨rfl, hF1⟩
    go_wp2
    go_ret
    exact ⟨rfl, hF1⟩
end Go.Proofs.Ytbjffempiaohpaa
