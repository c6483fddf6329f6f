/-
  Chapter 12: both memories and their files alike.
-/
import Derived.Test.YtoajnmbbgbpbgaaZFs54
import Derived.Test.YtoajnmbbgbpbgaaZFs55
import Derived.Test.YtoajnmbbgbpbgaaZFs56
namespace Go.Proofs.Ytoajnmbbgbpbgaa
set_option linter.unusedVariables false
set_option linter.unusedSimpArgs false
open Go.RowKit Go.Shelf Go.Maps

theorem fact12_calls {mb rb : Nat} {A R : Nat → Prop} {F B : List Int} {d : Int} {nm tn : ByteArray} {nd at_ n : Int} {ab : Option Addr} {cb : Nat} {l : List Int} {w : World} (hT : Two w mb A rb R F B B) (hnm : nm.size ≤ 140737488355328) (hto : tn.size ≤ 140737488355328) (hat : -9223372036854775808 ≤ at_ ∧ at_ ≤ 9223372036854775807) (hn : -9223372036854775808 ≤ n ∧ n ≤ 9223372036854775807)
    (hu : Sl w (.slice ab l.length cb) l.length (bys l)) (huA : ∀ k, (Value.slice ab l.length cb).ownBlock = some k → l ≠ [] → ¬ A k ∧ ¬ R k) (h0 : ∀ b ∈ l, 0 ≤ b ∧ b < 256) (hlen : l.length ≤ 140737488355328) :
    Calls Try.prog 30 #[.pointer (some ⟨mb, 0, none⟩), .pointer (some ⟨rb, 0, none⟩), .agg #[.int .i64 d, .string nm, .string tn, .int .i64 nd, .int .i64 at_, .int .i64 n, .slice ab l.length cb]] w fun e w' => e = .returned (.bool true) ∧ ∃ B2, (HasT B → HasT B2) ∧ Tz w mb A rb R F B2 w' := by
  by_cases h0' : d = 0
  · exact (factk0_calls hT hnm hto hat hn hu huA h0 hlen h0').mono (fun e w' h => ⟨h.1, _, fun t => t.create nm, h.2⟩)
  by_cases h1' : d = 1
  · exact (factk1_calls hT hnm hto hat hn hu huA h0 hlen h1').mono (fun e w' h => ⟨h.1, _, fun t => t.delete nm, h.2⟩)
  by_cases h2' : d = 2
  · exact (factk2_calls hT hnm hto hat hn hu huA h0 hlen h2').mono (fun e w' h => ⟨h.1, _, fun t => t.rename nm tn, h.2⟩)
  by_cases h3' : d = 3
  · exact (factk3_calls hT hnm hto hat hn hu huA h0 hlen h3').mono (fun e w' h => ⟨h.1, _, fun t => t.resize nd n, h.2⟩)
  by_cases h4' : d = 4
  · exact (factk4_calls hT hnm hto hat hn hu huA h0 hlen h4').mono (fun e w' h => ⟨h.1, _, fun t => t.write nd at_ l, h.2⟩)
  by_cases h5' : d = 5
  · exact (factk5_calls hT hnm hto hat hn hu huA h0 hlen h5').mono (fun e w' h => ⟨h.1, _, fun t => t, h.2⟩)
  by_cases h6' : d = 6
  · exact (factk6_calls hT hnm hto hat hn hu huA h0 hlen h6').mono (fun e w' h => ⟨h.1, _, fun t => t, h.2⟩)
  by_cases h7' : d = 7
  · exact (factk7_calls hT hnm hto hat hn hu huA h0 hlen h7').mono (fun e w' h => ⟨h.1, _, fun t => t, h.2⟩)
  · exact (factk8_calls hT hnm hto hat hn hu huA h0 hlen ⟨h0', h1', h2', h3', h4', h5', h6', h7'⟩).mono (fun e w' h => ⟨h.1, _, fun t => t, h.2⟩)

theorem filesR_len (B : List Int) : (filesR B).1.length ≤ 8 := by
  cases ht : tableF B with
  | none => rw [filesR_no ht]; exact Nat.zero_le _
  | some p =>
    obtain ⟨L, u⟩ := p
    have htab := (tableF_iff _ _ _).1 ht
    rw [filesR_tab' htab]
    have := filesL_len B L
    rw [htab.len] at this; exact this

set_option maxHeartbeats 8000000 in
set_option maxRecDepth 1000000 in
theorem lsame12_calls {mb rb : Nat} {A R : Nat → Prop} {F B : List Int} {w : World} (hT : Two w mb A rb R F B B) :
    Calls Try.prog 31 #[.pointer (some ⟨mb, 0, none⟩), .pointer (some ⟨rb, 0, none⟩)] w fun e w' => e = .returned (.bool true) ∧ Tz w mb A rb R F B w' := by
  have HT := Lib.hid hT
  have HFI := Lib.hid (ffiles_calls hT.1)
  have HRF := Lib.hid (fun (w1 : World) (h : RefAt w1 rb R F B) => rfiles12_calls h)
  have hfl := filesR_len B
  have HBL := Lib.hid hT.1.blen
  generalize filesR B = p at *
  obtain ⟨fs, x⟩ := p
  dsimp only at HFI HRF hfl
  have HFL := Lib.hid hfl
  clear hT hfl
  go_enter Try.func31, Try.ntmps31
  go_wp2_with fail
  refine HFI.out.mono ?_
  rintro e w1 ⟨A1, r, vs, rfl, hp1, hr1, -, hv1⟩
  have HP1 := Lib.hid hp1
  have HT1 := Lib.hid (HT.out.mem hp1)
  have HR1 := Lib.hid (Sl.of_owns hr1)
  have HV1 := Lib.hid hv1
  obtain ⟨a1, c1, rfl⟩ := (Sl.of_owns hr1).form
  clear hp1 hr1 hv1
  go_wp2_with fail
  refine (HRF.out _ HT1.out.2.1).mono ?_
  rintro e w2 ⟨r2, vs2, rfl, hF2, hr2, hv2⟩
  have HT2 := Lib.hid (HT1.out.fr0 hF2)
  have HF2 := Lib.hid hF2
  have HSA := Lib.hid (fun (w' : World) (hF : Fr No w2 w') => rsame12_calls fs vs vs2 (.slice a1 fs.length c1) r2 w' A1 No (HR1.out.fr0 (hF2.trans hF)) ((Sl.of_owns hr2).fr0 hF) (HV1.out.fr0 (hF2.trans hF)) (hv2.fr0 hF) (by have := HFL.out; omega))
  obtain ⟨a2, c2, rfl⟩ := (Sl.of_owns hr2).form
  clear hF2 hr2 hv2
  obtain ⟨g, capg, gw, hI⟩ := HT2.out.2.1.inn
  have HSS := Lib.hid (fun w' (h : Fr A1 w2 w') => ref_conv (hI.fr h HT2.out.2.2))
  have HBY := Lib.hid (fun (w' : World) (h : Fr No w2 w') => bytes_calls (HT2.out.1.fr0 h))
  have HCV := Lib.hid (fun (w' : World) (b : Nat) (h : Row w' b 5 B) => row_conv h HBL.out)
  clear hI
  generalize strOfNums B = s at *
  generalize fs.length = n at *
  go_upto_region 3 with fail
  have HFD : RowKit.Hid (Fr No w2 w2.drew) := Lib.hid (Fr.refl _ _).drew
  have e1 := HSS.out _ HFD.out.no
  refine wp_region_held_drew (S := (fun w' => w'.cell? ⟨rb, 0, none⟩ = some (.slice (some ⟨g, 0, none⟩) 8192 capg) ∧ (convert 22 9 (.slice (some ⟨g, 0, none⟩) 8192 capg)).run Try.prog w' = .ok (.string s) w')) (by kernel_rfl) e1 (fun hS0 => ?_)
  refine take_at (i := 0) (d := some 19) (v := ?_) rfl rfl (by kernel_rfl) (by kernel_rfl) (by kernel_rfl) (fun _ _ _ h => h) (Or.inl ⟨by rfl, ?_⟩) (by assumption) ?_
  rotate_left
  · intro w hSw; go_simp; try (with_reducible rfl)
  try simp only [Act.put, List.setIfInBounds_toArray, List.set_cons_zero, List.set_cons_succ]
  refine take_at (i := 1) (d := some 20) (v := ?_) rfl rfl (by kernel_rfl) (by kernel_rfl) (by kernel_rfl) (fun _ _ _ h => h) (Or.inl ⟨by rfl, ?_⟩) (by assumption) ?_
  rotate_left
  · intro w hSw; go_simp; try (with_reducible rfl)
  try simp only [Act.put, List.setIfInBounds_toArray, List.set_cons_zero, List.set_cons_succ]
  refine take_at (i := 2) (d := some 21) (v := ?_) rfl rfl (by kernel_rfl) (by kernel_rfl) (by kernel_rfl) (fun _ _ _ h => h) (Or.inl ⟨by rfl, ?_⟩) (by assumption) ?_
  rotate_left
  · intro w hSw; go_simp; try (with_reducible rfl)
  try simp only [Act.put, List.setIfInBounds_toArray, List.set_cons_zero, List.set_cons_succ]
  refine take_at (i := 3) (d := some 22) (v := ?_) rfl rfl (by kernel_rfl) (by kernel_rfl) (by kernel_rfl) (fun _ _ _ h => h) (Or.inl ⟨by rfl, ?_⟩) (by assumption) ?_
  rotate_left
  · intro w hSw; go_simp; try (with_reducible rfl)
  try simp only [Act.put, List.setIfInBounds_toArray, List.set_cons_zero, List.set_cons_succ]
  refine take_at (i := 4) (d := some 23) (v := ?_) rfl rfl (by kernel_rfl) (by kernel_rfl) (by kernel_rfl) (fun _ _ _ h => h) (Or.inl ⟨by rfl, ?_⟩) (by assumption) ?_
  rotate_left
  · intro w hSw; go_simp; try (with_reducible rfl)
  try simp only [Act.put, List.setIfInBounds_toArray, List.set_cons_zero, List.set_cons_succ]
  refine take_at (i := 5) (d := some 24) (v := ?_) rfl rfl (by kernel_rfl) (by kernel_rfl) (by kernel_rfl) (fun _ _ _ h => h) (Or.inl ⟨by rfl, ?_⟩) (by assumption) ?_
  rotate_left
  · intro w hSw; go_simp; try (with_reducible rfl)
  try simp only [Act.put, List.setIfInBounds_toArray, List.set_cons_zero, List.set_cons_succ]
  refine wpAnyH_ready (rs := [6]) (by kernel_rfl) (by simp) ?_
  refine AllReadyH.cons rfl (fun K hK => ?_) AllReadyH.nil
  go_simp
  go_wp2_with (go_at_call 65; ((with_reducible refine (HSA.out _ HFD.out).mono ?_); rintro e w3 ⟨rfl, hF3⟩; have HF3 := Lib.hid (HFD.out.trans hF3); have e3 := HSS.out _ HF3.out.no; clear hF3))
  refine hK.out _ _ e3 (fun hHeld => ?_)
  clear hK K
  try simp only [Act.put, List.setIfInBounds_toArray, List.set_cons_zero, List.set_cons_succ]
  refine take_at (i := 7) (d := some 26) (v := ?_) rfl rfl (by kernel_rfl) (by kernel_rfl) (by kernel_rfl) (fun _ _ _ h => h) (Or.inl ⟨by rfl, ?_⟩) (by assumption) ?_
  rotate_left
  · intro w hSw; go_simp; try (with_reducible rfl)
  try simp only [Act.put, List.setIfInBounds_toArray, List.set_cons_zero, List.set_cons_succ]
  refine take_at (i := 8) (d := some 27) (v := ?_) rfl rfl (by kernel_rfl) (by kernel_rfl) (by kernel_rfl) (fun _ _ _ h => h) (Or.inl ⟨by rfl, ?_⟩) (by assumption) ?_
  rotate_left
  · intro w hSw; go_simp; try (with_reducible rfl)
  try simp only [Act.put, List.setIfInBounds_toArray, List.set_cons_zero, List.set_cons_succ]
  refine take_at (i := 9) (d := some 28) (v := ?_) rfl rfl (by kernel_rfl) (by kernel_rfl) (by kernel_rfl) (fun _ _ _ h => h) (Or.inl ⟨by rfl, ?_⟩) (by assumption) ?_
  rotate_left
  · intro w hSw; go_simp; try (with_reducible rfl)
  try simp only [Act.put, List.setIfInBounds_toArray, List.set_cons_zero, List.set_cons_succ]
  refine take_at (i := 12) (d := some 31) (v := ?_) rfl rfl (by kernel_rfl) (by kernel_rfl) (by kernel_rfl) (fun _ _ _ h => h) (Or.inl ⟨by rfl, ?_⟩) (by assumption) ?_
  rotate_left
  · intro w hSw; go_simp; try (with_reducible rfl)
  try simp only [Act.put, List.setIfInBounds_toArray, List.set_cons_zero, List.set_cons_succ]
  refine take_at (i := 13) (d := some 32) (v := ?_) rfl rfl (by kernel_rfl) (by kernel_rfl) (by kernel_rfl) (fun _ _ _ h => h) (Or.inl ⟨by rfl, ?_⟩) (by assumption) ?_
  rotate_left
  · intro w hSw; go_simp; try (with_reducible rfl)
  try simp only [Act.put, List.setIfInBounds_toArray, List.set_cons_zero, List.set_cons_succ]
  refine take_at (i := 14) (d := some 33) (v := ?_) rfl rfl (by kernel_rfl) (by kernel_rfl) (by kernel_rfl) (fun _ _ _ h => h) (Or.inl ⟨by rfl, ?_⟩) (by assumption) ?_
  rotate_left
  · intro w hSw; go_simp; try (with_reducible rfl)
  try simp only [Act.put, List.setIfInBounds_toArray, List.set_cons_zero, List.set_cons_succ]
  refine take_at (i := 15) (d := some 34) (v := ?_) rfl rfl (by kernel_rfl) (by kernel_rfl) (by kernel_rfl) (fun _ _ _ h => h) (Or.inl ⟨by rfl, ?_⟩) (by assumption) ?_
  rotate_left
  · intro w hSw; go_simp; try (with_reducible rfl)
  try simp only [Act.put, List.setIfInBounds_toArray, List.set_cons_zero, List.set_cons_succ]
  refine take_at (i := 16) (d := some 35) (v := ?_) rfl rfl (by kernel_rfl) (by kernel_rfl) (by kernel_rfl) (fun _ _ _ h => h) (Or.inl ⟨by rfl, ?_⟩) (by assumption) ?_
  rotate_left
  · intro w hSw; go_simp; try (with_reducible rfl)
  try simp only [Act.put, List.setIfInBounds_toArray, List.set_cons_zero, List.set_cons_succ]
  refine wpAnyH_ready (rs := [10]) (by kernel_rfl) (by simp) ?_
  refine AllReadyH.cons rfl (fun K hK => ?_) AllReadyH.nil
  go_simp
  go_wp2_with (go_at_call 16; ((with_reducible refine (HBY.out _ HF3.out).mono ?_); rintro e w4 ⟨b4, A4, rfl, hp4, hr4, -, -⟩; have hcv := HCV.out w4 b4 hr4; have HP4 := Lib.hid hp4; have e4 := HSS.out _ (HF3.out.no.trans hp4.2.1); clear hr4 hp4))
  refine hK.out _ _ e4 (fun hHeld => ?_)
  clear hK K
  try simp only [Act.put, List.setIfInBounds_toArray, List.set_cons_zero, List.set_cons_succ]
  refine wpAnyH_ready (rs := [11]) (by kernel_rfl) (by simp) ?_
  refine AllReadyH.cons rfl (fun K hK => ?_) AllReadyH.nil
  go_simp
  refine hK.out _ _ e4 (fun hHeld => ?_)
  clear hK K
  try simp only [Act.put, List.setIfInBounds_toArray, List.set_cons_zero, List.set_cons_succ]
  refine take_at (i := 17) (d := some 36) (v := ?_) rfl rfl (by kernel_rfl) (by kernel_rfl) (by kernel_rfl) (fun _ _ _ h => h) (Or.inl ⟨by rfl, ?_⟩) (by assumption) ?_
  rotate_left
  · intro w hSw; go_simp; try (with_reducible rfl)
  try simp only [Act.put, List.setIfInBounds_toArray, List.set_cons_zero, List.set_cons_succ]
  refine take_at (i := 18) (d := some 37) (v := ?_) rfl rfl (by kernel_rfl) (by kernel_rfl) (by kernel_rfl) (fun _ _ _ h => h) (Or.inl ⟨by rfl, ?_⟩) (by assumption) ?_
  rotate_left
  · intro w hSw; go_simp; try (with_reducible rfl)
  try simp only [Act.put, List.setIfInBounds_toArray, List.set_cons_zero, List.set_cons_succ]
  refine take_at (i := 19) (d := some 4) (v := ?_) rfl rfl (by kernel_rfl) (by kernel_rfl) (by kernel_rfl) (fun _ _ _ h => h) (Or.inl ⟨by rfl, ?_⟩) (by assumption) ?_
  rotate_left
  · intro w hSw; go_simp; try (with_reducible rfl)
  try simp only [Act.put, List.setIfInBounds_toArray, List.set_cons_zero, List.set_cons_succ]
  refine wpAnyH_done (by kernel_rfl) ?_ _
  go_wp2
  go_ret
  refine ⟨rfl, ?_⟩
  have hpA : Mp w mb A F B w4 A4 := HP1.out.trans (Mp.pre (HF2.out.trans HF3.out) HP4.out)
  refine ⟨A4, R, (HT2.out.fr0 HF3.out).mem HP4.out, hpA.2.1.mono (fun i _ h => .inl h), hpA.2.2, Gr.refl _ _⟩
end Go.Proofs.Ytoajnmbbgbpbgaa
