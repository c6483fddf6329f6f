/-
  Chapter 12: FsFormats.
-/
import Derived.Test.YtoajnmbbgbpbgaaZK
import Derived.Test.YtoajnmbbgbpbgaaZFs31
import Derived.Test.YtoajnmbbgbpbgaaZC
namespace Go.Proofs.Ytoajnmbbgbpbgaa
set_option linter.unusedVariables false
set_option linter.unusedSimpArgs false
open Go.RowKit Go.Shelf Go.Maps

theorem formatF_length (B : List Int) : (formatF B).length = B.length := by rw [formatF, layF_length, layF_length]

set_option maxHeartbeats 2000000 in
set_option maxRecDepth 1000000 in
theorem fsFormats_calls (v : Value) (l : List Int) (w : World) (h0 : ∀ b ∈ l, 0 ≤ b ∧ b < 256) (hbig : l.length ≤ 9223372036854775807) (hv : Sl w v l.length (bys l)) :
    Calls Try.prog 3 #[v] w fun e w' => e = .returned (.bool true) ∧ Fr No w w' := by
  obtain ⟨av, cap, rfl⟩ := hv.form
  by_cases hlen : l.length ≤ 9000
  · have C1 := Lib.hid (fun w1 (h : Fr No w w1) => flat_calls _ l w1 h0 (hv.fr0 h))
    have C2 := Lib.hid (fun w1 (h : Fr No w w1) => rflat_calls _ l w1 h0 (hv.fr0 h))
    have HFL := Lib.hid (flatF_length l)
    clear h0 hbig hv
    generalize flatF l = F at *
    go_enter Try.func3, Try.ntmps3
    go_wp2_with fail
    refine (awake12_calls _).mono ?_
    rintro e w1 ⟨rfl, hF1⟩
    go_wp2_with fail
    refine (C1.out _ hF1).mono ?_
    rintro e w2 ⟨mb, A2, rfl, hM2, hF2, hA2⟩
    have hF02 := hF1.trans hF2
    go_wp2_with fail
    refine (C2.out _ hF02).mono ?_
    rintro e w3 ⟨rb, R3, rfl, hR3, hF3, hR3l⟩
    have hF03 := hF02.trans hF3
    have hA3 : ∀ j, A2 j → w.heap.size ≤ j := fun j hj => Nat.le_trans hF1.size (hA2 j hj)
    have hR3' : ∀ j, R3 j → w.heap.size ≤ j := fun j hj => Nat.le_trans hF02.size (hR3l j hj)
    have hT3 : Two w3 mb A2 rb R3 F F F := ⟨hM2.fr0 hF3, hR3, fun k hk hR => by have := hM2.low k hk; have := hR3l k hR; omega⟩
    clear hM2 hR3 hA2 hR3l
    have HT3 := Lib.hid hT3
    have HA3 := Lib.hid hA3
    have HR3 := Lib.hid hR3'
    clear hT3 hA3 hR3'
    go_wp2_with fail
    refine (fformat_calls HT3.out.1).mono ?_
    rintro e w4 ⟨A4, rfl, hp4⟩
    have HT4 := Lib.hid (HT3.out.mem hp4)
    obtain ⟨hF04, hA4⟩ := hp4.step hF03 HA3.out
    have HA4 := Lib.hid hA4
    clear hp4 hA4
    go_wp2_with fail
    refine (rformat_calls HT4.out.2.1).mono ?_
    rintro e w5 ⟨rfl, hp5⟩
    have HT5 := Lib.hid (HT4.out.ref hp5)
    obtain ⟨hF05, hR5⟩ := hp5.step hF04 HR3.out
    clear hp5 hR5 HT4 HT3
    have HFI := Lib.hid (fun (w1 : World) (A : Nat → Prop) (h : MemAt w1 mb A F (formatF F)) => (by have := ffiles_calls h; rw [format_files F HFL.out] at this; exact this :
      Calls Try.prog 15 #[.pointer (some ⟨mb, 0, none⟩)] w1 fun e w' => ∃ A' r vs, e = .returned (.tuple #[r, .int .i64 0]) ∧ Mp w1 mb A F (formatF F) w' A' ∧
        w'.ownsRow w1.heap.size 45 2 r 0 (fileCells vs) ∧ (∀ k, r.ownBlock = some k → ¬ A' k) ∧ FilesV [] vs w' A'))
    have hbl : (formatF F).length = 8192 := by rw [formatF_length]; exact HFL.out
    generalize formatF F = B at *
    go_wp2_with fail
    refine (HFI.out _ _ HT5.out.1).mono ?_
    rintro e w6 ⟨A6, r, vs, rfl, hp6, hr6, -, -⟩
    have HT6 := Lib.hid (HT5.out.mem hp6)
    obtain ⟨hF06, hA6⟩ := hp6.step hF05 HA4.out
    have HA6 := Lib.hid hA6
    obtain ⟨ar, cr, rfl⟩ := (Sl.of_owns hr6).form
    clear hp6 hA6 hr6
    obtain ⟨g, capg, gw, hI⟩ := HT6.out.2.1.inn
    have HSS := Lib.hid (fun w' (h : Fr A6 w6 w') => ref_conv (hI.fr h HT6.out.2.2))
    have hF0 := Fr.refl A6 w6
    have hFd := (Fr.refl A6 w6).drew
    have HBY := Lib.hid (fun (w' : World) (h : Fr No w6 w') => bytes_calls (HT6.out.1.fr0 h))
    have HCV := Lib.hid (fun (w' : World) (b : Nat) (h : Row w' b 5 B) => row_conv h hbl)
    clear hI hbl
    generalize strOfNums B = s at *
    go_upto_region 11 with fail
    have e1 := HSS.out _ hFd
    refine wp_region_held_drew (S := (fun w' => w'.cell? ⟨rb, 0, none⟩ = some (.slice (some ⟨g, 0, none⟩) 8192 capg) ∧ (convert 22 9 (.slice (some ⟨g, 0, none⟩) 8192 capg)).run Try.prog w' = .ok (.string s) w')) (by kernel_rfl) e1 (fun hS0 => ?_)
    refine take_at (i := 0) (d := some 27) (v := ?_) rfl rfl (by kernel_rfl) (by kernel_rfl) (by kernel_rfl) (fun _ _ _ h => h) (Or.inl ⟨by rfl, ?_⟩) (by assumption) ?_
    rotate_left
    · intro w hSw; go_simp; try (with_reducible rfl)
    try simp only [Act.put, List.setIfInBounds_toArray, List.set_cons_zero, List.set_cons_succ]
    refine take_at (i := 1) (d := some 28) (v := ?_) rfl rfl (by kernel_rfl) (by kernel_rfl) (by kernel_rfl) (fun _ _ _ h => h) (Or.inl ⟨by rfl, ?_⟩) (by assumption) ?_
    rotate_left
    · intro w hSw; go_simp; try (with_reducible rfl)
    try simp only [Act.put, List.setIfInBounds_toArray, List.set_cons_zero, List.set_cons_succ]
    refine take_at (i := 2) (d := some 29) (v := ?_) rfl rfl (by kernel_rfl) (by kernel_rfl) (by kernel_rfl) (fun _ _ _ h => h) (Or.inl ⟨by rfl, ?_⟩) (by assumption) ?_
    rotate_left
    · intro w hSw; go_simp; try (with_reducible rfl)
    try simp only [Act.put, List.setIfInBounds_toArray, List.set_cons_zero, List.set_cons_succ]
    refine take_at (i := 3) (d := some 30) (v := ?_) rfl rfl (by kernel_rfl) (by kernel_rfl) (by kernel_rfl) (fun _ _ _ h => h) (Or.inl ⟨by rfl, ?_⟩) (by assumption) ?_
    rotate_left
    · intro w hSw; go_simp; try (with_reducible rfl)
    try simp only [Act.put, List.setIfInBounds_toArray, List.set_cons_zero, List.set_cons_succ]
    refine take_at (i := 4) (d := some 31) (v := ?_) rfl rfl (by kernel_rfl) (by kernel_rfl) (by kernel_rfl) (fun _ _ _ h => h) (Or.inl ⟨by rfl, ?_⟩) (by assumption) ?_
    rotate_left
    · intro w hSw; go_simp; try (with_reducible rfl)
    try simp only [Act.put, List.setIfInBounds_toArray, List.set_cons_zero, List.set_cons_succ]
    refine take_at (i := 5) (d := some 32) (v := ?_) rfl rfl (by kernel_rfl) (by kernel_rfl) (by kernel_rfl) (fun _ _ _ h => h) (Or.inl ⟨by rfl, ?_⟩) (by assumption) ?_
    rotate_left
    · intro w hSw; go_simp; try (with_reducible rfl)
    try simp only [Act.put, List.setIfInBounds_toArray, List.set_cons_zero, List.set_cons_succ]
    refine take_at (i := 6) (d := some 33) (v := ?_) rfl rfl (by kernel_rfl) (by kernel_rfl) (by kernel_rfl) (fun _ _ _ h => h) (Or.inl ⟨by rfl, ?_⟩) (by assumption) ?_
    rotate_left
    · intro w hSw; go_simp; try (with_reducible rfl)
    try simp only [Act.put, List.setIfInBounds_toArray, List.set_cons_zero, List.set_cons_succ]
    refine take_at (i := 7) (d := some 34) (v := ?_) rfl rfl (by kernel_rfl) (by kernel_rfl) (by kernel_rfl) (fun _ _ _ h => h) (Or.inl ⟨by rfl, ?_⟩) (by assumption) ?_
    rotate_left
    · intro w hSw; go_simp; try (with_reducible rfl)
    try simp only [Act.put, List.setIfInBounds_toArray, List.set_cons_zero, List.set_cons_succ]
    refine take_at (i := 8) (d := some 35) (v := ?_) rfl rfl (by kernel_rfl) (by kernel_rfl) (by kernel_rfl) (fun _ _ _ h => h) (Or.inl ⟨by rfl, ?_⟩) (by assumption) ?_
    rotate_left
    · intro w hSw; go_simp; try (with_reducible rfl)
    try simp only [Act.put, List.setIfInBounds_toArray, List.set_cons_zero, List.set_cons_succ]
    refine take_at (i := 11) (d := some 38) (v := ?_) rfl rfl (by kernel_rfl) (by kernel_rfl) (by kernel_rfl) (fun _ _ _ h => h) (Or.inl ⟨by rfl, ?_⟩) (by assumption) ?_
    rotate_left
    · intro w hSw; go_simp; try (with_reducible rfl)
    try simp only [Act.put, List.setIfInBounds_toArray, List.set_cons_zero, List.set_cons_succ]
    refine take_at (i := 12) (d := some 39) (v := ?_) rfl rfl (by kernel_rfl) (by kernel_rfl) (by kernel_rfl) (fun _ _ _ h => h) (Or.inl ⟨by rfl, ?_⟩) (by assumption) ?_
    rotate_left
    · intro w hSw; go_simp; try (with_reducible rfl)
    try simp only [Act.put, List.setIfInBounds_toArray, List.set_cons_zero, List.set_cons_succ]
    refine take_at (i := 13) (d := some 40) (v := ?_) rfl rfl (by kernel_rfl) (by kernel_rfl) (by kernel_rfl) (fun _ _ _ h => h) (Or.inl ⟨by rfl, ?_⟩) (by assumption) ?_
    rotate_left
    · intro w hSw; go_simp; try (with_reducible rfl)
    try simp only [Act.put, List.setIfInBounds_toArray, List.set_cons_zero, List.set_cons_succ]
    refine take_at (i := 14) (d := some 41) (v := ?_) rfl rfl (by kernel_rfl) (by kernel_rfl) (by kernel_rfl) (fun _ _ _ h => h) (Or.inl ⟨by rfl, ?_⟩) (by assumption) ?_
    rotate_left
    · intro w hSw; go_simp; try (with_reducible rfl)
    try simp only [Act.put, List.setIfInBounds_toArray, List.set_cons_zero, List.set_cons_succ]
    refine take_at (i := 15) (d := some 42) (v := ?_) rfl rfl (by kernel_rfl) (by kernel_rfl) (by kernel_rfl) (fun _ _ _ h => h) (Or.inl ⟨by rfl, ?_⟩) (by assumption) ?_
    rotate_left
    · intro w hSw; go_simp; try (with_reducible rfl)
    try simp only [Act.put, List.setIfInBounds_toArray, List.set_cons_zero, List.set_cons_succ]
    refine wpAnyH_ready (rs := [9]) (by kernel_rfl) (by simp) ?_
    refine AllReadyH.cons rfl (fun K hK => ?_) AllReadyH.nil
    go_simp
    go_wp2_with (go_at_call 16; ((with_reducible refine (HBY.out w6.drew (Fr.refl _ _).drew).mono ?_); rintro e w7 ⟨b7, A7, rfl, hp7, hr7, -, -⟩; have hFn := hFd.trans hp7.2.1; have hcv := HCV.out w7 b7 hr7; have e2 := HSS.out _ hFn; clear hr7 hp7))
    refine hK.out _ _ e2 (fun hHeld => ?_)
    clear hK K
    try simp only [Act.put, List.setIfInBounds_toArray, List.set_cons_zero, List.set_cons_succ]
    refine wpAnyH_ready (rs := [10]) (by kernel_rfl) (by simp) ?_
    refine AllReadyH.cons rfl (fun K hK => ?_) AllReadyH.nil
    go_simp
    refine hK.out _ _ e2 (fun hHeld => ?_)
    clear hK K
    try simp only [Act.put, List.setIfInBounds_toArray, List.set_cons_zero, List.set_cons_succ]
    refine take_at (i := 16) (d := some 43) (v := ?_) rfl rfl (by kernel_rfl) (by kernel_rfl) (by kernel_rfl) (fun _ _ _ h => h) (Or.inl ⟨by rfl, ?_⟩) (by assumption) ?_
    rotate_left
    · intro w hSw; go_simp; try (with_reducible rfl)
    try simp only [Act.put, List.setIfInBounds_toArray, List.set_cons_zero, List.set_cons_succ]
    refine take_at (i := 17) (d := some 44) (v := ?_) rfl rfl (by kernel_rfl) (by kernel_rfl) (by kernel_rfl) (fun _ _ _ h => h) (Or.inl ⟨by rfl, ?_⟩) (by assumption) ?_
    rotate_left
    · intro w hSw; go_simp; try (with_reducible rfl)
    try simp only [Act.put, List.setIfInBounds_toArray, List.set_cons_zero, List.set_cons_succ]
    refine take_at (i := 18) (d := some 2) (v := ?_) rfl rfl (by kernel_rfl) (by kernel_rfl) (by kernel_rfl) (fun _ _ _ h => h) (Or.inl ⟨by rfl, ?_⟩) (by assumption) ?_
    rotate_left
    · intro w hSw; go_simp; try (with_reducible rfl)
    try simp only [Act.put, List.setIfInBounds_toArray, List.set_cons_zero, List.set_cons_succ]
    refine wpAnyH_done (by kernel_rfl) ?_ _
    go_wp2
    go_ret
    exact ⟨rfl, hF06.trans' hFn (fun i hi h => by have := HA6.out i h; omega)⟩
  · have hlen' : 9000 < l.length := by omega
    clear h0 hv hlen
    go_enter Try.func3, Try.ntmps3
    go_wp2_with fail
    refine (awake12_calls _).mono ?_
    rintro e w1 ⟨rfl, hF1⟩
    go_wp2
    go_ret
    exact ⟨rfl, hF1⟩
end Go.Proofs.Ytoajnmbbgbpbgaa
