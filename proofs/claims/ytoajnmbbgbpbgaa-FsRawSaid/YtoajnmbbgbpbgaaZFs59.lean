/-
  Chapter 12: FsActs, FsRaw. (Printed by wip/tools/fs59.py.)
-/
import Derived.Test.YtoajnmbbgbpbgaaZFs58
namespace Go.Proofs.Ytoajnmbbgbpbgaa
set_option linter.unusedVariables false
set_option linter.unusedSimpArgs false
open Go.RowKit Go.Shelf Go.Maps

theorem wf_i64 {n : Int} (h : (Lit.int .i64 n).wf = true) : -9223372036854775808 ≤ n ∧ n ≤ 9223372036854775807 := by
  simp only [Lit.wf, Bool.and_eq_true, decide_eq_true_eq] at h
  exact ⟨h.1, h.2⟩

set_option maxHeartbeats 8000000 in
set_option maxRecDepth 1000000 in
theorem fsActs_calls (v : Value) (L : List ActF) (w : World) (hlen : L.length ≤ 9223372036854775807) (hv : Sl w v L.length (L.flatMap actFCell)) (hok : ∀ y ∈ L, actFOk w y) :
    Calls Try.prog 7 #[v] w fun e w' => e = .returned (.bool true) ∧ Fr No w w' := by
  obtain ⟨aa, capa, rfl⟩ := hv.form
  have C1 := Lib.hid (fun w1 (h : Fr No w w1) => flat_calls (.slice none 0 0) [] w1 (by simp) (Sl.nil w1))
  have C2 := Lib.hid (fun w1 (h : Fr No w w1) => rflat_calls (.slice none 0 0) [] w1 (by simp) (Sl.nil w1))
  have C3 := Lib.hid (fun w1 (h : Fr No w w1) => few12_calls (.slice none 0 0) _ [] L w1 hlen (Sl.nil w1) (hv.fr0 h))
  have HFF := Lib.hid (flatF_length [])
  have HV := Lib.hid hv
  have HOK := Lib.hid hok
  have HLEN := Lib.hid hlen
  clear hv hok
  generalize flatF [] = F at *
  go_enter Try.func7, Try.ntmps7
  go_wp2_with fail
  refine (awake12_calls _).mono ?_
  rintro e w1 ⟨rfl, hF1⟩
  go_wp2_with fail
  refine (C3.out _ hF1).mono ?_
  rintro e wf ⟨bf, rfl, hFf⟩
  have hF01 := hF1.trans hFf
  cases bf
  · go_wp2
    go_ret
    exact ⟨rfl, hF01⟩
  go_wp2_with fail
  refine (C1.out _ hF01).mono ?_
  rintro e w2 ⟨mb, A2, rfl, hM2, hF2, hA2⟩
  have hF02 := hF01.trans hF2
  go_wp2_with fail
  refine (C2.out _ hF02).mono ?_
  rintro e w3 ⟨rb, R3, rfl, hR3, hF3, hR3l⟩
  have HF03 := Lib.hid (hF02.trans hF3)
  have HA3 := Lib.hid (show ∀ j, A2 j → w.heap.size ≤ j from fun j hj => Nat.le_trans hF01.size (hA2 j hj))
  have HR3 := Lib.hid (show ∀ j, R3 j → w.heap.size ≤ j from fun j hj => Nat.le_trans hF02.size (hR3l j hj))
  have HT3 := Lib.hid (show Two w3 mb A2 rb R3 F F F from ⟨hM2.fr0 hF3, hR3, fun k hk hR => by have := hM2.low k hk; have := hR3l k hR; omega⟩)
  clear hM2 hR3 hA2 hR3l C1 C2 C3 hF3 hF02 hF2 hF01 hFf hF1
  go_wp2_with fail
  refine (fformat_calls HT3.out.1).mono ?_
  rintro e w4 ⟨A4, rfl, hp4⟩
  have HT4 := Lib.hid (HT3.out.mem hp4)
  obtain ⟨hF04, hA4⟩ := hp4.step HF03.out HA3.out
  have HF04 := Lib.hid hF04
  have HA4 := Lib.hid hA4
  clear hp4 hA4 hF04
  go_wp2_with fail
  refine (rformat_calls HT4.out.2.1).mono ?_
  rintro e w5 ⟨rfl, hp5⟩
  have HT5 := Lib.hid (HT4.out.ref hp5)
  obtain ⟨hF05, hR5⟩ := hp5.step HF04.out HR3.out
  have HF05 := Lib.hid hF05
  clear hp5 hR5 hF05
  have HS := Lib.hid (HasT.format HFF.out)
  generalize formatF F = B0 at *
  go_wp2_with fail
  go_loopw [22] (fun i wr => ∃ j : Nat, j ≤ L.length ∧ i = .int .i64 j ∧ ∃ A R B, HasT B ∧ Two wr mb A rb R F B B ∧ Fr No w wr ∧ (∀ k, A k → w.heap.size ≤ k) ∧ (∀ k, R k → w.heap.size ≤ k)) (fun i _ => L.length - (intOf i).toNat)
  case atStart => exact ⟨0, Nat.zero_le _, rfl, A4, R3, B0, HS.out, HT5.out, HF05.out, HA4.out, HR3.out⟩
  case round =>
    obtain ⟨j, hj, rfl, A, R, B, hS, hT, hF, hA, hR⟩ := hrel
    by_cases hlt : j < L.length
    · have g0 := flat_get12 actFCell 7 (fun _ => rfl) L j 0 hlt (by omega)
      have g1 := flat_get12 actFCell 7 (fun _ => rfl) L j 1 hlt (by omega)
      have g2 := flat_get12 actFCell 7 (fun _ => rfl) L j 2 hlt (by omega)
      have g3 := flat_get12 actFCell 7 (fun _ => rfl) L j 3 hlt (by omega)
      have g4 := flat_get12 actFCell 7 (fun _ => rfl) L j 4 hlt (by omega)
      have g5 := flat_get12 actFCell 7 (fun _ => rfl) L j 5 hlt (by omega)
      have g6 := flat_get12 actFCell 7 (fun _ => rfl) L j 6 hlt (by omega)
      have hyk := HOK.out _ (List.getElem_mem hlt)
      revert g0 g1 g2 g3 g4 g5 g6 hyk
      generalize L[j] = y
      obtain ⟨d, nm, tn, nd, at_, n, ab, lb, cb⟩ := y
      intro g0 g1 g2 g3 g4 g5 g6 hyk
      simp only [actFCell, List.getElem?_cons_zero, List.getElem?_cons_succ] at g0 g1 g2 g3 g4 g5 g6
      obtain ⟨k1, k2, k3, k4, k5, k6, xs, hsl, hx1, hx2⟩ := hyk
      dsimp only at k1 k2 k3 k4 k5 k6 hsl
      obtain rfl : lb = xs.length := by obtain ⟨_, _, e, -⟩ := hsl; injection e
      obtain ⟨b, off, rfl, hb, hc⟩ := HV.out.at (by intro e; rw [e] at g0; simp at g0)
      have c0 := hF.cell (hc _ _ g0) (fun h => h)
      have c1 := hF.cell (hc _ _ g1) (fun h => h)
      have c2 := hF.cell (hc _ _ g2) (fun h => h)
      have c3 := hF.cell (hc _ _ g3) (fun h => h)
      have c4 := hF.cell (hc _ _ g4) (fun h => h)
      have c5 := hF.cell (hc _ _ g5) (fun h => h)
      have c6 := hF.cell (hc _ _ g6) (fun h => h)
      simp only [← Nat.add_assoc, Nat.add_zero] at c0 c1 c2 c3 c4 c5 c6
      have hFa : Fr No wr (wr.alloc (Obj.cells #[.int .i64 d, .string nm, .string tn, .int .i64 nd, .int .i64 at_, .int .i64 n, .slice ab xs.length cb] 41)) := (Fr.refl _ _).alloc _
      have HFA := Lib.hid hFa
      have HACT := Lib.hid (fact12_calls (d := d) (nm := nm) (tn := tn) (nd := nd) (at_ := at_) (n := n) (cb := cb) (hT.fr0 hFa) (by have := k2; unfold reachBytes at this; omega) (by have := k3; unfold reachBytes at this; omega) (wf_i64 k5) (wf_i64 k6) (hsl.fr0 (hF.trans hFa)) (fun k e hne => by
        have h1 := hsl.lt e (fun e2 => hne (by cases xs with | nil => rfl | cons _ _ => simp [bys] at e2))
        exact ⟨fun hA' => by have := hA k hA'; omega, fun hR' => by have := hR k hR'; omega⟩) hx2 (by have := hx1; unfold reachBytes at this; omega))
      have HF := Lib.hid (hF.trans hFa)
      have HA := Lib.hid hA
      have HR := Lib.hid hR
      have HHS := Lib.hid hS
      clear hS
      clear g0 g1 g2 g3 g4 g5 g6 hc hFa hF hA hR hT k1 k2 k3 k4 k5 k6 hsl hx1 hx2
      go_wp2_with fail
      refine HACT.out.mono ?_
      rintro e w6 ⟨rfl, B2, hB2, hz⟩
      obtain ⟨A', R', q1, q2, q3, q4⟩ := hz.step HF.out HA.out HR.out
      have HQ := Lib.hid (show Two w6 mb A' rb R' F B2 B2 ∧ Fr No w w6 ∧ (∀ k, A' k → w.heap.size ≤ k) ∧ (∀ k, R' k → w.heap.size ≤ k) from ⟨q1, q2, q3, q4⟩)
      have HHB := Lib.hid (hB2 HHS.out)
      clear q1 q2 q3 q4 hz hB2
      go_wp2_with fail
      go_roundw
      case rel => exact ⟨j + 1, by omega, by go_num, A', R', B2, HHB.out, HQ.out⟩
      case measure => simp [intOf]; omega
    · obtain rfl : j = L.length := by omega
      have HT := Lib.hid hT
      have HF := Lib.hid hF
      have HA := Lib.hid hA
      have HR := Lib.hid hR
      have HCE := Lib.hid hS.check
      clear hS
      clear hT hF hA hR
      go_wp2_with fail
      refine (lsame12_calls HT.out).mono ?_
      rintro e w7 ⟨rfl, hz⟩
      obtain ⟨A', R', q1, q2, q3, q4⟩ := hz.step HF.out HA.out HR.out
      have HC := Lib.hid (by
        have := fcheck_calls q1.1
        rw [HCE.out] at this; exact this)
      have HQ2 := Lib.hid q2
      have HQ3 := Lib.hid q3
      clear q1 q2 q3 q4 hz
      go_wp2_with fail
      refine HC.out.mono ?_
      rintro e w8 ⟨A8, rfl, hp8⟩
      obtain ⟨hF8, -⟩ := hp8.step HQ2.out HQ3.out
      go_wp2
      go_ret
      exact ⟨rfl, hF8⟩

set_option maxHeartbeats 8000000 in
set_option maxRecDepth 1000000 in
theorem fsRaw_calls (vb : Value) (l : List Int) (v : Value) (L : List ActF) (w : World) (h0 : ∀ b ∈ l, 0 ≤ b ∧ b < 256) (hvb : Sl w vb l.length (bys l)) (hlen : L.length ≤ 9223372036854775807) (hv : Sl w v L.length (L.flatMap actFCell)) (hok : ∀ y ∈ L, actFOk w y) :
    Calls Try.prog 8 #[vb, v] w fun e w' => e = .returned (.bool true) ∧ Fr No w w' := by
  obtain ⟨av, capb, rfl⟩ := hvb.form
  obtain ⟨aa, capa, rfl⟩ := hv.form
  have C1 := Lib.hid (fun w1 (h : Fr No w w1) => flat_calls (.slice av l.length capb) l w1 h0 (hvb.fr0 h))
  have C2 := Lib.hid (fun w1 (h : Fr No w w1) => rflat_calls (.slice av l.length capb) l w1 h0 (hvb.fr0 h))
  have C3 := Lib.hid (fun w1 (h : Fr No w w1) => few12_calls (.slice av l.length capb) _ l L w1 hlen (hvb.fr0 h) (hv.fr0 h))
  have HFF := Lib.hid (flatF_length l)
  have HV := Lib.hid hv
  have HOK := Lib.hid hok
  have HLEN := Lib.hid hlen
  clear hv hok h0 hvb
  generalize flatF l = F at *
  go_enter Try.func8, Try.ntmps8
  go_wp2_with fail
  refine (awake12_calls _).mono ?_
  rintro e w1 ⟨rfl, hF1⟩
  go_wp2_with fail
  refine (C3.out _ hF1).mono ?_
  rintro e wf ⟨bf, rfl, hFf⟩
  have hF01 := hF1.trans hFf
  cases bf
  · go_wp2
    go_ret
    exact ⟨rfl, hF01⟩
  go_wp2_with fail
  refine (C1.out _ hF01).mono ?_
  rintro e w2 ⟨mb, A2, rfl, hM2, hF2, hA2⟩
  have hF02 := hF01.trans hF2
  go_wp2_with fail
  refine (C2.out _ hF02).mono ?_
  rintro e w3 ⟨rb, R3, rfl, hR3, hF3, hR3l⟩
  have HF03 := Lib.hid (hF02.trans hF3)
  have HA3 := Lib.hid (show ∀ j, A2 j → w.heap.size ≤ j from fun j hj => Nat.le_trans hF01.size (hA2 j hj))
  have HR3 := Lib.hid (show ∀ j, R3 j → w.heap.size ≤ j from fun j hj => Nat.le_trans hF02.size (hR3l j hj))
  have HT3 := Lib.hid (show Two w3 mb A2 rb R3 F F F from ⟨hM2.fr0 hF3, hR3, fun k hk hR => by have := hM2.low k hk; have := hR3l k hR; omega⟩)
  clear hM2 hR3 hA2 hR3l C1 C2 C3 hF3 hF02 hF2 hF01 hFf hF1
  go_wp2_with fail
  go_loopw [23] (fun i wr => ∃ j : Nat, j ≤ L.length ∧ i = .int .i64 j ∧ ∃ A R B, Two wr mb A rb R F B B ∧ Fr No w wr ∧ (∀ k, A k → w.heap.size ≤ k) ∧ (∀ k, R k → w.heap.size ≤ k)) (fun i _ => L.length - (intOf i).toNat)
  case atStart => exact ⟨0, Nat.zero_le _, rfl, A2, R3, F, HT3.out, HF03.out, HA3.out, HR3.out⟩
  case round =>
    obtain ⟨j, hj, rfl, A, R, B, hT, hF, hA, hR⟩ := hrel
    by_cases hlt : j < L.length
    · have g0 := flat_get12 actFCell 7 (fun _ => rfl) L j 0 hlt (by omega)
      have g1 := flat_get12 actFCell 7 (fun _ => rfl) L j 1 hlt (by omega)
      have g2 := flat_get12 actFCell 7 (fun _ => rfl) L j 2 hlt (by omega)
      have g3 := flat_get12 actFCell 7 (fun _ => rfl) L j 3 hlt (by omega)
      have g4 := flat_get12 actFCell 7 (fun _ => rfl) L j 4 hlt (by omega)
      have g5 := flat_get12 actFCell 7 (fun _ => rfl) L j 5 hlt (by omega)
      have g6 := flat_get12 actFCell 7 (fun _ => rfl) L j 6 hlt (by omega)
      have hyk := HOK.out _ (List.getElem_mem hlt)
      revert g0 g1 g2 g3 g4 g5 g6 hyk
      generalize L[j] = y
      obtain ⟨d, nm, tn, nd, at_, n, ab, lb, cb⟩ := y
      intro g0 g1 g2 g3 g4 g5 g6 hyk
      simp only [actFCell, List.getElem?_cons_zero, List.getElem?_cons_succ] at g0 g1 g2 g3 g4 g5 g6
      obtain ⟨k1, k2, k3, k4, k5, k6, xs, hsl, hx1, hx2⟩ := hyk
      dsimp only at k1 k2 k3 k4 k5 k6 hsl
      obtain rfl : lb = xs.length := by obtain ⟨_, _, e, -⟩ := hsl; injection e
      obtain ⟨b, off, rfl, hb, hc⟩ := HV.out.at (by intro e; rw [e] at g0; simp at g0)
      have c0 := hF.cell (hc _ _ g0) (fun h => h)
      have c1 := hF.cell (hc _ _ g1) (fun h => h)
      have c2 := hF.cell (hc _ _ g2) (fun h => h)
      have c3 := hF.cell (hc _ _ g3) (fun h => h)
      have c4 := hF.cell (hc _ _ g4) (fun h => h)
      have c5 := hF.cell (hc _ _ g5) (fun h => h)
      have c6 := hF.cell (hc _ _ g6) (fun h => h)
      simp only [← Nat.add_assoc, Nat.add_zero] at c0 c1 c2 c3 c4 c5 c6
      have hFa : Fr No wr (wr.alloc (Obj.cells #[.int .i64 d, .string nm, .string tn, .int .i64 nd, .int .i64 at_, .int .i64 n, .slice ab xs.length cb] 41)) := (Fr.refl _ _).alloc _
      have HFA := Lib.hid hFa
      have HACT := Lib.hid (fact12_calls (d := d) (nm := nm) (tn := tn) (nd := nd) (at_ := at_) (n := n) (cb := cb) (hT.fr0 hFa) (by have := k2; unfold reachBytes at this; omega) (by have := k3; unfold reachBytes at this; omega) (wf_i64 k5) (wf_i64 k6) (hsl.fr0 (hF.trans hFa)) (fun k e hne => by
        have h1 := hsl.lt e (fun e2 => hne (by cases xs with | nil => rfl | cons _ _ => simp [bys] at e2))
        exact ⟨fun hA' => by have := hA k hA'; omega, fun hR' => by have := hR k hR'; omega⟩) hx2 (by have := hx1; unfold reachBytes at this; omega))
      have HF := Lib.hid (hF.trans hFa)
      have HA := Lib.hid hA
      have HR := Lib.hid hR
      clear g0 g1 g2 g3 g4 g5 g6 hc hFa hF hA hR hT k1 k2 k3 k4 k5 k6 hsl hx1 hx2
      go_wp2_with fail
      refine HACT.out.mono ?_
      rintro e w6 ⟨rfl, B2, hB2, hz⟩
      obtain ⟨A', R', q1, q2, q3, q4⟩ := hz.step HF.out HA.out HR.out
      have HQ := Lib.hid (show Two w6 mb A' rb R' F B2 B2 ∧ Fr No w w6 ∧ (∀ k, A' k → w.heap.size ≤ k) ∧ (∀ k, R' k → w.heap.size ≤ k) from ⟨q1, q2, q3, q4⟩)
      clear q1 q2 q3 q4 hz hB2
      go_wp2_with fail
      go_roundw
      case rel => exact ⟨j + 1, by omega, by go_num, A', R', B2, HQ.out⟩
      case measure => simp [intOf]; omega
    · obtain rfl : j = L.length := by omega
      have HT := Lib.hid hT
      have HF := Lib.hid hF
      have HA := Lib.hid hA
      have HR := Lib.hid hR
      clear hT hF hA hR
      go_wp2_with fail
      refine (lsame12_calls HT.out).mono ?_
      rintro e w7 ⟨rfl, hz⟩
      obtain ⟨A', R', q1, q2, q3, q4⟩ := hz.step HF.out HA.out HR.out
      go_wp2
      go_ret
      exact ⟨rfl, q2⟩

end Go.Proofs.Ytoajnmbbgbpbgaa
