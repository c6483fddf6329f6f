/-
  Chapter 13: HandleActs, HandlePlaces. (Printed by wip/tools/hd20.py.)
-/
import Derived.Test.YtoajnmbbgbpbgaaGreatZOpen8
import Derived.Test.YtoajnmbbgbpbgaaGreatZHd10
import Derived.Test.YtoajnmbbgbpbgaaGreatZHd17
import Derived.Test.YtoajnmbbgbpbgaaGreatZHd18
import Derived.Test.YtoajnmbbgbpbgaaGreatZHd19
import Derived.Test.YtoajnmbbgbpbgaaGreatZFs31
import Derived.Test.YtoajnmbbgbpbgaaGreatZFs35
namespace Go.Proofs.YtoajnmbbgbpbgaaGreat
set_option linter.unusedVariables false
set_option linter.unusedSimpArgs false
open Go.RowKit Go.Shelf Go.Maps

theorem hact13_calls {mb rb : Nat} {A R : Nat → Prop} {F B : List Int} {d : Int} {nm tn : ByteArray} {q n : Int} {ab : Option Addr} {cb : Nat} {l : List Int} {w : World} (hT : Two w mb A rb R F B B) (hnm : nm.size ≤ 140737488355328) (hto : tn.size ≤ 140737488355328) (hn : -9223372036854775808 ≤ n ∧ n ≤ 9223372036854775807)
    (hu : Sl w (.slice ab l.length cb) l.length (bys l)) (huA : ∀ k, (Value.slice ab l.length cb).ownBlock = some k → l ≠ [] → ¬ A k ∧ ¬ R k) (h0 : ∀ b ∈ l, 0 ≤ b ∧ b < 256) (hlen : l.length ≤ 140737488355328) :
    Calls Tryz.prog 9 #[.pointer (some ⟨mb, 0, none⟩), .pointer (some ⟨rb, 0, none⟩), .agg #[.int .i64 d, .string nm, .string tn, .int .i64 q, .int .i64 n, .slice ab l.length cb]] w fun e w' => e = .returned (.bool true) ∧ ∃ B2, Tz w mb A rb R F B2 w' := by
  by_cases h0' : d = 0
  · exact (hactk0_calls hT hnm hto hn hu huA h0 hlen h0').mono (fun e w' h => ⟨h.1, _, h.2⟩)
  by_cases h1' : d = 1
  · exact (hactk1_calls hT hnm hto hn hu huA h0 hlen h1').mono (fun e w' h => ⟨h.1, _, h.2⟩)
  by_cases h2' : d = 2
  · exact (hactk2_calls hT hnm hto hn hu huA h0 hlen h2').mono (fun e w' h => ⟨h.1, _, h.2⟩)
  by_cases h3' : d = 3
  · exact (hactk3_calls hT hnm hto hn hu huA h0 hlen h3').mono (fun e w' h => ⟨h.1, _, h.2⟩)
  by_cases h4' : d = 4
  · exact (hactk4_calls hT hnm hto hn hu huA h0 hlen h4').mono (fun e w' h => ⟨h.1, _, h.2⟩)
  by_cases h5' : d = 5
  · exact (hactk5_calls hT hnm hto hn hu huA h0 hlen h5').mono (fun e w' h => ⟨h.1, _, h.2⟩)
  by_cases h6' : d = 6
  · exact (hactk6_calls hT hnm hto hn hu huA h0 hlen h6').mono (fun e w' h => ⟨h.1, _, h.2⟩)
  by_cases h7' : d = 7
  · exact (hactk7_calls hT hnm hto hn hu huA h0 hlen h7').mono (fun e w' h => ⟨h.1, _, h.2⟩)
  by_cases h8' : d = 8
  · exact (hactk8_calls hT hnm hto hn hu huA h0 hlen h8').mono (fun e w' h => ⟨h.1, _, h.2⟩)
  by_cases h9' : d = 9
  · exact (hactk9_calls hT hnm hto hn hu huA h0 hlen h9').mono (fun e w' h => ⟨h.1, _, h.2⟩)
  · exact (hactk10_calls hT hnm hto hn hu huA h0 hlen ⟨h0', h1', h2', h3', h4', h5', h6', h7', h8', h9'⟩).mono (fun e w' h => ⟨h.1, _, h.2⟩)

set_option maxHeartbeats 400000 in
set_option maxRecDepth 1000000 in
theorem few13_calls (u v : Value) (l : List Int) (L : List ActH) (w : World) (hlen : L.length ≤ 9223372036854775807) (hu : Sl w u l.length (bys l)) (hv : Sl w v L.length (L.flatMap actHCell)) :
    Calls Tryz.prog 6 #[u, v] w fun e w' => ∃ b, e = .returned (.bool b) ∧ Fr No w w' := by
  obtain ⟨av, cap, rfl⟩ := hv.form
  obtain ⟨bu, capu, rfl⟩ := hu.form
  clear hu
  go_enter Tryz.func6, Tryz.ntmps6
  go_wp2
  go_loopw [5, 12] (fun s i wr => ∃ (j : Nat) (x : Int), j ≤ L.length ∧ i = .int .i64 j ∧ s = .int .i64 x ∧ Fr No w wr) (fun _ i _ => L.length - (intOf i).toNat)
  case atStart => exact ⟨0, l.length, Nat.zero_le _, rfl, rfl, Fr.refl _ _⟩
  case round =>
    obtain ⟨j, x, hj, rfl, rfl, hF⟩ := hrel
    by_cases hlt : j < L.length
    · have g0 := flat_get12 actHCell 6 (fun _ => rfl) L j 0 hlt (by omega)
      have g1 := flat_get12 actHCell 6 (fun _ => rfl) L j 1 hlt (by omega)
      have g2 := flat_get12 actHCell 6 (fun _ => rfl) L j 2 hlt (by omega)
      have g3 := flat_get12 actHCell 6 (fun _ => rfl) L j 3 hlt (by omega)
      have g4 := flat_get12 actHCell 6 (fun _ => rfl) L j 4 hlt (by omega)
      have g5 := flat_get12 actHCell 6 (fun _ => rfl) L j 5 hlt (by omega)
      revert g0 g1 g2 g3 g4 g5
      generalize L[j] = y
      obtain ⟨d, s, t, q, n, au, lu, cu⟩ := y
      intro g0 g1 g2 g3 g4 g5
      simp only [actHCell, List.getElem?_cons_zero, List.getElem?_cons_succ] at g0 g1 g2 g3 g4 g5
      obtain ⟨b, off, rfl, hb, hc⟩ := hv.at (by intro e; rw [e] at g0; simp at g0)
      have c0 := hF.cell (hc _ _ g0) (fun h => h)
      have c1 := hF.cell (hc _ _ g1) (fun h => h)
      have c2 := hF.cell (hc _ _ g2) (fun h => h)
      have c3 := hF.cell (hc _ _ g3) (fun h => h)
      have c4 := hF.cell (hc _ _ g4) (fun h => h)
      have c5 := hF.cell (hc _ _ g5) (fun h => h)
      simp only [← Nat.add_assoc, Nat.add_zero] at c0 c1 c2 c3 c4 c5
      have HF := Lib.hid hF
      clear hc hv g0 g1 g2 g3 g4 g5 hF
      go_wp2
      all_goals exact ⟨⟨j + 1, _, by omega, by go_num, rfl, HF.out.alloc _⟩, by simp [intOf]; omega⟩
    · have HF := Lib.hid hF
      clear hF hv
      go_wp2
      go_ret
      exact ⟨_, rfl, HF.out⟩

set_option maxHeartbeats 8000000 in
set_option maxRecDepth 1000000 in
theorem handleActs_calls (v : Value) (L : List ActH) (w : World) (hlen : L.length ≤ 9223372036854775807) (hv : Sl w v L.length (L.flatMap actHCell)) (hok : ∀ y ∈ L, actHOk w y) :
    Calls Tryz.prog 4 #[v] w fun e w' => e = .returned (.bool true) ∧ Fr No w w' := by
  obtain ⟨aa, capa, rfl⟩ := hv.form
  have C1 := Lib.hid (fun w1 (h : Fr No w w1) => flat_calls (.slice none 0 0) [] w1 (by simp) (Sl.nil w1))
  have C2 := Lib.hid (fun w1 (h : Fr No w w1) => rflat_calls (.slice none 0 0) [] w1 (by simp) (Sl.nil w1))
  have C3 := Lib.hid (fun w1 (h : Fr No w w1) => few13_calls (.slice none 0 0) _ [] L w1 hlen (Sl.nil w1) (hv.fr0 h))
  have HFF := Lib.hid (flatF_length [])
  have HV := Lib.hid hv
  have HOK := Lib.hid hok
  have HLEN := Lib.hid hlen
  clear hv hok
  generalize flatF [] = F at *
  go_enter Tryz.func4, Tryz.ntmps4
  go_wp2_with fail
  refine (awake13_calls _).mono ?_
  rintro e w1 ⟨rfl, hF1⟩
  go_wp2_with fail
  refine (C3.out _ hF1).mono ?_
  rintro e wf ⟨bf, rfl, hFf⟩
  have hF01 := hF1.trans hFf
  cases bf
  · go_wp2
    go_ret
    exact ⟨rfl, hF01⟩
  go_wp2_with fail
  refine (C1.out _ hF01).mono ?_
  rintro e w2 ⟨mb, A2, rfl, hM2, hF2, hA2⟩
  have hF02 := hF01.trans hF2
  go_wp2_with fail
  refine (C2.out _ hF02).mono ?_
  rintro e w3 ⟨rb, R3, rfl, hR3, hF3, hR3l⟩
  have HF03 := Lib.hid (hF02.trans hF3)
  have HA3 := Lib.hid (show ∀ j, A2 j → w.heap.size ≤ j from fun j hj => Nat.le_trans hF01.size (hA2 j hj))
  have HR3 := Lib.hid (show ∀ j, R3 j → w.heap.size ≤ j from fun j hj => Nat.le_trans hF02.size (hR3l j hj))
  have HT3 := Lib.hid (show Two w3 mb A2 rb R3 F F F from ⟨hM2.fr0 hF3, hR3, fun k hk hR => by have := hM2.low k hk; have := hR3l k hR; omega⟩)
  clear hM2 hR3 hA2 hR3l C1 C2 C3 hF3 hF02 hF2 hF01 hFf hF1
  go_wp2_with fail
  refine (fformat_calls HT3.out.1).mono ?_
  rintro e w4 ⟨A4, rfl, hp4⟩
  have HT4 := Lib.hid (HT3.out.mem hp4)
  obtain ⟨hF04, hA4⟩ := hp4.step HF03.out HA3.out
  have HF04 := Lib.hid hF04
  have HA4 := Lib.hid hA4
  clear hp4 hA4 hF04
  go_wp2_with fail
  refine (rformat_calls HT4.out.2.1).mono ?_
  rintro e w5 ⟨rfl, hp5⟩
  have HT5 := Lib.hid (HT4.out.ref hp5)
  obtain ⟨hF05, hR5⟩ := hp5.step HF04.out HR3.out
  have HF05 := Lib.hid hF05
  clear hp5 hR5 hF05
  generalize formatF F = B0 at *
  go_wp2_with fail
  go_loopw [22] (fun i wr => ∃ j : Nat, j ≤ L.length ∧ i = .int .i64 j ∧ ∃ A R B, Two wr mb A rb R F B B ∧ Fr No w wr ∧ (∀ k, A k → w.heap.size ≤ k) ∧ (∀ k, R k → w.heap.size ≤ k)) (fun i _ => L.length - (intOf i).toNat)
  case atStart => exact ⟨0, Nat.zero_le _, rfl, A4, R3, B0, HT5.out, HF05.out, HA4.out, HR3.out⟩
  case round =>
    obtain ⟨j, hj, rfl, A, R, B, hT, hF, hA, hR⟩ := hrel
    by_cases hlt : j < L.length
    · have g0 := flat_get12 actHCell 6 (fun _ => rfl) L j 0 hlt (by omega)
      have g1 := flat_get12 actHCell 6 (fun _ => rfl) L j 1 hlt (by omega)
      have g2 := flat_get12 actHCell 6 (fun _ => rfl) L j 2 hlt (by omega)
      have g3 := flat_get12 actHCell 6 (fun _ => rfl) L j 3 hlt (by omega)
      have g4 := flat_get12 actHCell 6 (fun _ => rfl) L j 4 hlt (by omega)
      have g5 := flat_get12 actHCell 6 (fun _ => rfl) L j 5 hlt (by omega)
      have hyk := HOK.out _ (List.getElem_mem hlt)
      revert g0 g1 g2 g3 g4 g5 hyk
      generalize L[j] = y
      obtain ⟨d, nm, tn, q, n, ab, lb, cb⟩ := y
      intro g0 g1 g2 g3 g4 g5 hyk
      simp only [actHCell, List.getElem?_cons_zero, List.getElem?_cons_succ] at g0 g1 g2 g3 g4 g5
      obtain ⟨k1, k2, k3, k4, xs, hsl, hx1, hx2⟩ := hyk
      dsimp only at k1 k2 k3 k4 hsl
      obtain rfl : lb = xs.length := by obtain ⟨_, _, e, -⟩ := hsl; injection e
      obtain ⟨b, off, rfl, hb, hc⟩ := HV.out.at (by intro e; rw [e] at g0; simp at g0)
      have c0 := hF.cell (hc _ _ g0) (fun h => h)
      have c1 := hF.cell (hc _ _ g1) (fun h => h)
      have c2 := hF.cell (hc _ _ g2) (fun h => h)
      have c3 := hF.cell (hc _ _ g3) (fun h => h)
      have c4 := hF.cell (hc _ _ g4) (fun h => h)
      have c5 := hF.cell (hc _ _ g5) (fun h => h)
      simp only [← Nat.add_assoc, Nat.add_zero] at c0 c1 c2 c3 c4 c5
      have hFa : Fr No wr (wr.alloc (Obj.cells #[.int .i64 d, .string nm, .string tn, .int .i64 q, .int .i64 n, .slice ab xs.length cb] 31)) := (Fr.refl _ _).alloc _
      have HFA := Lib.hid hFa
      have HACT := Lib.hid (hact13_calls (d := d) (nm := nm) (tn := tn) (q := q) (n := n) (cb := cb) (hT.fr0 hFa) (by have := k2; unfold reachBytes at this; omega) (by have := k3; unfold reachBytes at this; omega) (wf13_i64 k4) (hsl.fr0 (hF.trans hFa)) (fun k e hne => by
        have h1 := hsl.lt e (fun e2 => hne (by cases xs with | nil => rfl | cons _ _ => simp [bys] at e2))
        exact ⟨fun hA' => by have := hA k hA'; omega, fun hR' => by have := hR k hR'; omega⟩) hx2 (by have := hx1; unfold reachBytes at this; omega))
      have HF := Lib.hid (hF.trans hFa)
      have HA := Lib.hid hA
      have HR := Lib.hid hR
      clear g0 g1 g2 g3 g4 g5 hc hFa hF hA hR hT k1 k2 k3 k4 hsl hx1 hx2
      go_wp2_with fail
      refine HACT.out.mono ?_
      rintro e w6 ⟨rfl, B2, hz⟩
      obtain ⟨A', R', q1, q2, q3, q4⟩ := hz.step HF.out HA.out HR.out
      have HT6 := Lib.hid q1
      have HF6 := Lib.hid q2
      have HA6 := Lib.hid q3
      have HR6 := Lib.hid q4
      clear q1 q2 q3 q4 hz
      go_wp2_with fail
      refine (lopened_calls HT6.out).mono ?_
      rintro e w7 ⟨rfl, hz⟩
      obtain ⟨A7, R7, q1, q2, q3, q4⟩ := hz.step HF6.out HA6.out HR6.out
      have HQ := Lib.hid (show Two w7 mb A7 rb R7 F B2 B2 ∧ Fr No w w7 ∧ (∀ k, A7 k → w.heap.size ≤ k) ∧ (∀ k, R7 k → w.heap.size ≤ k) from ⟨q1, q2, q3, q4⟩)
      clear q1 q2 q3 q4 hz
      go_wp2_with fail
      go_roundw
      case rel => exact ⟨j + 1, by omega, by go_num, A7, R7, B2, HQ.out⟩
      case measure => simp [intOf]; omega
    · obtain rfl : j = L.length := by omega
      have HT := Lib.hid hT
      have HF := Lib.hid hF
      have HA := Lib.hid hA
      have HBY := Lib.hid (fun (w' : World) (h : Fr No wr w') => bytes_calls (hT.1.fr0 h))
      have HBL := Lib.hid hT.1.blen
      have HCV := Lib.hid (fun (w' : World) (b : Nat) (h : Row w' b 5 B) => row_conv h HBL.out)
      obtain ⟨g, capg, gw, hI⟩ := hT.2.1.inn
      have HSS := Lib.hid (fun w' (h : Fr A wr w') => ref_conv (hI.fr h hT.2.2))
      clear hI hT hF hA hR
      generalize strOfNums B = s at *
      go_upto_region 16 with fail
      have HFD : RowKit.Hid (Fr No wr wr.drew) := Lib.hid (Fr.refl _ _).drew
      have e1 := HSS.out _ HFD.out.no
      refine wp_region_held_drew (S := (fun w' => w'.cell? ⟨rb, 0, none⟩ = some (.slice (some ⟨g, 0, none⟩) 8192 capg) ∧ (convert 22 9 (.slice (some ⟨g, 0, none⟩) 8192 capg)).run Tryz.prog w' = .ok (.string s) w')) (by kernel_rfl) e1 (fun hS0 => ?_)
      refine take_at (i := 0) (d := some 38) (v := ?_) rfl rfl (by kernel_rfl) (by kernel_rfl) (by kernel_rfl) (fun _ _ _ h => h) (Or.inl ⟨by rfl, ?_⟩) (by assumption) ?_
      rotate_left
      · intro w hSw; go_simp; try (with_reducible rfl)
      try simp only [Act.put, List.setIfInBounds_toArray, List.set_cons_zero, List.set_cons_succ]
      refine take_at (i := 3) (d := some 41) (v := ?_) rfl rfl (by kernel_rfl) (by kernel_rfl) (by kernel_rfl) (fun _ _ _ h => h) (Or.inl ⟨by rfl, ?_⟩) (by assumption) ?_
      rotate_left
      · intro w hSw; go_simp; try (with_reducible rfl)
      try simp only [Act.put, List.setIfInBounds_toArray, List.set_cons_zero, List.set_cons_succ]
      refine take_at (i := 4) (d := some 42) (v := ?_) rfl rfl (by kernel_rfl) (by kernel_rfl) (by kernel_rfl) (fun _ _ _ h => h) (Or.inl ⟨by rfl, ?_⟩) (by assumption) ?_
      rotate_left
      · intro w hSw; go_simp; try (with_reducible rfl)
      try simp only [Act.put, List.setIfInBounds_toArray, List.set_cons_zero, List.set_cons_succ]
      refine take_at (i := 5) (d := some 43) (v := ?_) rfl rfl (by kernel_rfl) (by kernel_rfl) (by kernel_rfl) (fun _ _ _ h => h) (Or.inl ⟨by rfl, ?_⟩) (by assumption) ?_
      rotate_left
      · intro w hSw; go_simp; try (with_reducible rfl)
      try simp only [Act.put, List.setIfInBounds_toArray, List.set_cons_zero, List.set_cons_succ]
      refine take_at (i := 6) (d := some 44) (v := ?_) rfl rfl (by kernel_rfl) (by kernel_rfl) (by kernel_rfl) (fun _ _ _ h => h) (Or.inl ⟨by rfl, ?_⟩) (by assumption) ?_
      rotate_left
      · intro w hSw; go_simp; try (with_reducible rfl)
      try simp only [Act.put, List.setIfInBounds_toArray, List.set_cons_zero, List.set_cons_succ]
      refine take_at (i := 7) (d := some 45) (v := ?_) rfl rfl (by kernel_rfl) (by kernel_rfl) (by kernel_rfl) (fun _ _ _ h => h) (Or.inl ⟨by rfl, ?_⟩) (by assumption) ?_
      rotate_left
      · intro w hSw; go_simp; try (with_reducible rfl)
      try simp only [Act.put, List.setIfInBounds_toArray, List.set_cons_zero, List.set_cons_succ]
      refine wpAnyH_ready (rs := [1]) (by kernel_rfl) (by simp) ?_
      refine AllReadyH.cons rfl (fun K hK => ?_) AllReadyH.nil
      go_simp
      go_wp2_with (go_at_call 16; ((with_reducible refine (HBY.out _ HFD.out).mono ?_); rintro e w4 ⟨b4, A4', rfl, hp4, hr4, -, -⟩; have hcv := HCV.out w4 b4 hr4; have HP4 := Lib.hid hp4; have e4 := HSS.out _ (HFD.out.no.trans hp4.2.1); clear hr4 hp4))
      refine hK.out _ _ e4 (fun hHeld => ?_)
      clear hK K
      try simp only [Act.put, List.setIfInBounds_toArray, List.set_cons_zero, List.set_cons_succ]
      refine wpAnyH_ready (rs := [2]) (by kernel_rfl) (by simp) ?_
      refine AllReadyH.cons rfl (fun K hK => ?_) AllReadyH.nil
      go_simp
      refine hK.out _ _ e4 (fun hHeld => ?_)
      clear hK K
      try simp only [Act.put, List.setIfInBounds_toArray, List.set_cons_zero, List.set_cons_succ]
      refine take_at (i := 8) (d := some 46) (v := ?_) rfl rfl (by kernel_rfl) (by kernel_rfl) (by kernel_rfl) (fun _ _ _ h => h) (Or.inl ⟨by rfl, ?_⟩) (by assumption) ?_
      rotate_left
      · intro w hSw; go_simp; try (with_reducible rfl)
      try simp only [Act.put, List.setIfInBounds_toArray, List.set_cons_zero, List.set_cons_succ]
      refine take_at (i := 9) (d := some 2) (v := ?_) rfl rfl (by kernel_rfl) (by kernel_rfl) (by kernel_rfl) (fun _ _ _ h => h) (Or.inl ⟨by rfl, ?_⟩) (by assumption) ?_
      rotate_left
      · intro w hSw; go_simp; try (with_reducible rfl)
      try simp only [Act.put, List.setIfInBounds_toArray, List.set_cons_zero, List.set_cons_succ]
      refine wpAnyH_done (by kernel_rfl) ?_ _
      go_wp2
      go_ret
      exact ⟨rfl, (HP4.out.step (HF.out.trans HFD.out) HA.out).1⟩

set_option maxHeartbeats 8000000 in
set_option maxRecDepth 1000000 in
theorem handlePlaces_calls (vb : Value) (l : List Int) (v : Value) (L : List ActH) (w : World) (h0 : ∀ b ∈ l, 0 ≤ b ∧ b < 256) (hvb : Sl w vb l.length (bys l)) (hlen : L.length ≤ 9223372036854775807) (hv : Sl w v L.length (L.flatMap actHCell)) (hok : ∀ y ∈ L, actHOk w y) :
    Calls Tryz.prog 3 #[vb, v] w fun e w' => e = .returned (.bool true) ∧ Fr No w w' := by
  obtain ⟨av, capb, rfl⟩ := hvb.form
  obtain ⟨aa, capa, rfl⟩ := hv.form
  have C1 := Lib.hid (fun w1 (h : Fr No w w1) => flat_calls (.slice av l.length capb) l w1 h0 (hvb.fr0 h))
  have C2 := Lib.hid (fun w1 (h : Fr No w w1) => rflat_calls (.slice av l.length capb) l w1 h0 (hvb.fr0 h))
  have C3 := Lib.hid (fun w1 (h : Fr No w w1) => few13_calls (.slice av l.length capb) _ l L w1 hlen (hvb.fr0 h) (hv.fr0 h))
  have HFF := Lib.hid (flatF_length l)
  have HV := Lib.hid hv
  have HOK := Lib.hid hok
  have HLEN := Lib.hid hlen
  clear hv hok h0 hvb
  generalize flatF l = F at *
  go_enter Tryz.func3, Tryz.ntmps3
  go_wp2_with fail
  refine (awake13_calls _).mono ?_
  rintro e w1 ⟨rfl, hF1⟩
  go_wp2_with fail
  refine (C3.out _ hF1).mono ?_
  rintro e wf ⟨bf, rfl, hFf⟩
  have hF01 := hF1.trans hFf
  cases bf
  · go_wp2
    go_ret
    exact ⟨rfl, hF01⟩
  go_wp2_with fail
  refine (C1.out _ hF01).mono ?_
  rintro e w2 ⟨mb, A2, rfl, hM2, hF2, hA2⟩
  have hF02 := hF01.trans hF2
  go_wp2_with fail
  refine (C2.out _ hF02).mono ?_
  rintro e w3 ⟨rb, R3, rfl, hR3, hF3, hR3l⟩
  have HF03 := Lib.hid (hF02.trans hF3)
  have HA3 := Lib.hid (show ∀ j, A2 j → w.heap.size ≤ j from fun j hj => Nat.le_trans hF01.size (hA2 j hj))
  have HR3 := Lib.hid (show ∀ j, R3 j → w.heap.size ≤ j from fun j hj => Nat.le_trans hF02.size (hR3l j hj))
  have HT3 := Lib.hid (show Two w3 mb A2 rb R3 F F F from ⟨hM2.fr0 hF3, hR3, fun k hk hR => by have := hM2.low k hk; have := hR3l k hR; omega⟩)
  clear hM2 hR3 hA2 hR3l C1 C2 C3 hF3 hF02 hF2 hF01 hFf hF1
  go_wp2_with fail
  go_loopw [29] (fun i wr => ∃ j : Nat, j ≤ L.length ∧ i = .int .i64 j ∧ ∃ A R B, Two wr mb A rb R F B B ∧ Fr No w wr ∧ (∀ k, A k → w.heap.size ≤ k) ∧ (∀ k, R k → w.heap.size ≤ k)) (fun i _ => L.length - (intOf i).toNat)
  case atStart => exact ⟨0, Nat.zero_le _, rfl, A2, R3, F, HT3.out, HF03.out, HA3.out, HR3.out⟩
  case round =>
    obtain ⟨j, hj, rfl, A, R, B, hT, hF, hA, hR⟩ := hrel
    by_cases hlt : j < L.length
    · have g0 := flat_get12 actHCell 6 (fun _ => rfl) L j 0 hlt (by omega)
      have g1 := flat_get12 actHCell 6 (fun _ => rfl) L j 1 hlt (by omega)
      have g2 := flat_get12 actHCell 6 (fun _ => rfl) L j 2 hlt (by omega)
      have g3 := flat_get12 actHCell 6 (fun _ => rfl) L j 3 hlt (by omega)
      have g4 := flat_get12 actHCell 6 (fun _ => rfl) L j 4 hlt (by omega)
      have g5 := flat_get12 actHCell 6 (fun _ => rfl) L j 5 hlt (by omega)
      have hyk := HOK.out _ (List.getElem_mem hlt)
      revert g0 g1 g2 g3 g4 g5 hyk
      generalize L[j] = y
      obtain ⟨d, nm, tn, q, n, ab, lb, cb⟩ := y
      intro g0 g1 g2 g3 g4 g5 hyk
      simp only [actHCell, List.getElem?_cons_zero, List.getElem?_cons_succ] at g0 g1 g2 g3 g4 g5
      obtain ⟨k1, k2, k3, k4, xs, hsl, hx1, hx2⟩ := hyk
      dsimp only at k1 k2 k3 k4 hsl
      obtain rfl : lb = xs.length := by obtain ⟨_, _, e, -⟩ := hsl; injection e
      obtain ⟨b, off, rfl, hb, hc⟩ := HV.out.at (by intro e; rw [e] at g0; simp at g0)
      have c0 := hF.cell (hc _ _ g0) (fun h => h)
      have c1 := hF.cell (hc _ _ g1) (fun h => h)
      have c2 := hF.cell (hc _ _ g2) (fun h => h)
      have c3 := hF.cell (hc _ _ g3) (fun h => h)
      have c4 := hF.cell (hc _ _ g4) (fun h => h)
      have c5 := hF.cell (hc _ _ g5) (fun h => h)
      simp only [← Nat.add_assoc, Nat.add_zero] at c0 c1 c2 c3 c4 c5
      have hFa : Fr No wr (wr.alloc (Obj.cells #[.int .i64 d, .string nm, .string tn, .int .i64 q, .int .i64 n, .slice ab xs.length cb] 31)) := (Fr.refl _ _).alloc _
      have HFA := Lib.hid hFa
      have HACT := Lib.hid (hact13_calls (d := d) (nm := nm) (tn := tn) (q := q) (n := n) (cb := cb) (hT.fr0 hFa) (by have := k2; unfold reachBytes at this; omega) (by have := k3; unfold reachBytes at this; omega) (wf13_i64 k4) (hsl.fr0 (hF.trans hFa)) (fun k e hne => by
        have h1 := hsl.lt e (fun e2 => hne (by cases xs with | nil => rfl | cons _ _ => simp [bys] at e2))
        exact ⟨fun hA' => by have := hA k hA'; omega, fun hR' => by have := hR k hR'; omega⟩) hx2 (by have := hx1; unfold reachBytes at this; omega))
      have HF := Lib.hid (hF.trans hFa)
      have HA := Lib.hid hA
      have HR := Lib.hid hR
      clear g0 g1 g2 g3 g4 g5 hc hFa hF hA hR hT k1 k2 k3 k4 hsl hx1 hx2
      go_wp2_with fail
      refine HACT.out.mono ?_
      rintro e w6 ⟨rfl, B2, hz⟩
      obtain ⟨A', R', q1, q2, q3, q4⟩ := hz.step HF.out HA.out HR.out
      have HT6 := Lib.hid q1
      have HF6 := Lib.hid q2
      have HA6 := Lib.hid q3
      have HR6 := Lib.hid q4
      clear q1 q2 q3 q4 hz
      have HOP := Lib.hid (hopened_calls HT6.out.1)
      unfold HdO at HOP
      have h5 : (openedF B2).length ≤ 5 := openedN_len B2 5
      have HMEM := Lib.hid (show ∀ h ∈ openedF B2, ∃ p, lookF B2 h = some p from fun h hm => openedN_mem hm)
      generalize openedF B2 = O at *
      go_wp2_with fail
      refine HOP.out.mono ?_
      rintro e w7 ⟨A7, r7, rfl, hp7, hown, hno⟩
      have HP7 := Lib.hid hp7
      have HOW := Lib.hid hown
      have HNO := Lib.hid hno
      obtain ⟨a7, c7, rfl⟩ := (Sl.of_owns hown).form
      clear hp7 hown hno
      go_wp2_with fail
      go_loopw [40] (fun i wx => ∃ (k : Nat) (A' : Nat → Prop), k ≤ O.length ∧ i = .int .i64 k ∧ Mp w7 mb A7 F B2 wx A') (fun i _ => O.length - (intOf i).toNat)
      case atStart => exact ⟨0, A7, Nat.zero_le _, rfl, Mp.refl HP7.out.1⟩
      case round =>
        obtain ⟨k, A8, hk, rfl, hp⟩ := hrel
        by_cases hkt : k < O.length
        · have hg : (ints O)[k]? = some (.int .i64 O[k]) := by rw [ints, List.getElem?_map, List.getElem?_eq_getElem hkt]; rfl
          obtain ⟨vb, off, rfl, -, hc⟩ := ((Sl.of_owns HOW.out).fr hp.2.1 (fun k e _ => HNO.out k e)).at (by intro e; rw [e] at hg; simp at hg)
          have x1 := hc _ _ hg
          obtain ⟨⟨nd, sz, pl⟩, hl⟩ := HMEM.out _ (List.getElem_mem hkt)
          generalize O[k] = h at *
          obtain ⟨l1, -, -, -, l2, l3, -⟩ := look_facts hl
          have HPL := Lib.hid (fun w9 A9 (hM9 : MemAt w9 mb A9 F B2) => (by have := hplace_calls hM9 h; rw [hplaceR, hl] at this; exact this))
          have HSI := Lib.hid (fun w9 A9 (hM9 : MemAt w9 mb A9 F B2) => (by have := hsize_calls hM9 h; rw [hsizeR, hl] at this; exact this))
          have d1 : decide (pl < 0) = false := decide_eq_false (by omega)
          have d2 : decide (sz < pl) = false := decide_eq_false (by omega)
          have d3 : decide (h < 1) = false := decide_eq_false (by omega)
          have d4 : decide (4 < h) = false := decide_eq_false (by omega)
          have HP := Lib.hid hp
          clear hg hc hl l1 l2 l3 hp
          dsimp only at HPL HSI
          go_wp2_with fail
          refine (HPL.out _ _ HP.out.1).mono ?_
          rintro e w9 ⟨A9, rfl, hp9⟩
          have HP9 := Lib.hid (HP.out.trans hp9)
          clear hp9
          go_wp2_with fail
          refine (HSI.out _ _ HP9.out.1).mono ?_
          rintro e w10 ⟨A10, rfl, hp10⟩
          have HP10 := Lib.hid (HP9.out.trans hp10)
          clear hp10
          go_wp2
          go_roundw
          case rel => exact ⟨k + 1, A10, by omega, by go_num, HP10.out⟩
          case measure => simp [intOf]; omega
        · obtain rfl : k = O.length := by omega
          have HP := Lib.hid hp
          clear hp hkt
          have HPQ := Lib.hid (HP7.out.trans HP.out)
          go_wp2
          go_roundw
          case rel =>
            obtain ⟨q1, q2⟩ := HPQ.out.step HF6.out HA6.out
            exact ⟨j + 1, by omega, by go_num, A8, R', B2, HT6.out.mem HPQ.out, q1, q2, HR6.out⟩
          case measure => simp [intOf]; omega
    · obtain rfl : j = L.length := by omega
      have HF := Lib.hid hF
      clear hT hF hA hR
      go_wp2
      go_ret
      exact ⟨rfl, HF.out⟩

end Go.Proofs.YtoajnmbbgbpbgaaGreat
