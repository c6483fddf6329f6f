/-
  Chapter 7: Cost of any changes to any tree.
-/
import Derived.Test.YtpcikbloflpahaaDoorZGp3
import Derived.Test.YtpcikbloflpahaaDoorZSh15
namespace Go.Proofs.YtpcikbloflpahaaDoor
set_option linter.unusedVariables false
set_option linter.unusedSimpArgs false
open Go.RowKit Go.Shelf Go.Maps

attribute [local irreducible] nd0 rdN ndB decN
set_option maxHeartbeats 1000000 in
set_option maxRecDepth 1000000 in
theorem emptyg_calls {w : World} {pb lm : Nat} {pv : Value} {tn : List Int} {old : Int} {sm : Bool} (hb : w.heap[pb]? = some (.cells (PlC pv tn lm old sm).toArray 129 (0, 0))) (hl : tn.length = 32) : Calls Tryd.prog 61 #[.pointer (some ⟨pb, 0, none⟩)] w fun e w' => e = .returned (.bool (decide (tn = nd0))) ∧ w = w' := by
  have HN := Lib.hid (plan_nd hb hl)
  obtain ⟨b, hbb⟩ : ∃ b, decide (tn = nd0) = b := ⟨_, rfl⟩
  have HB := Lib.hid hbb
  rw [hbb]
  clear hb hbb
  go_enter Tryd.func61, Tryd.ntmps61
  go_wp2_with (first
    | (refine load_nd rfl _ rfl pb 1 tn rfl HN.out ?_)
    | (refine build_nd rfl rfl ?_)
    | (refine eql_ndw rfl _ _ _ rfl tn nd0 hl nd0_len rfl rfl _ HB.out ?_; simp only [Act.put, List.setIfInBounds_toArray, List.set_cons_zero, List.set_cons_succ])
    | fail "arm")
  go_ret
  exact ⟨rfl, rfl⟩
/-- What a plan costs. -/
def costP (F : LfF) (tn : List Int) (sm : Bool) (ps : List Chg) : Int := ps.length + cnt4 F + (if sm = false ∧ tn ≠ nd0 then 1 else 0)
set_option maxHeartbeats 2000000 in
set_option maxRecDepth 1000000 in
theorem costg_calls {n : Nat} {w : World} {pb lm : Nat} {tn : List Int} {F : LfF} {old : Int} {sm : Bool} {ps : List Chg} (h : PlG n w pb lm tn F old sm ps) (hps : ps.length ≤ 128) : Calls Tryd.prog 37 #[.pointer (some ⟨pb, 0, none⟩)] w fun e w' => e = .returned (.int .i64 (costP F tn sm ps)) ∧ Fr No w w' := by
  obtain ⟨⟨pv, vs, hb, how, hcv⟩, hmp, hn1, hn2, hlen⟩ := h
  obtain ⟨pa, pc, rfl⟩ := (Sl.of_owns how).form
  have HE := Lib.hid (emptyg_calls (w := w.drew) (show w.drew.heap[pb]? = _ from hb) hlen)
  have HM := Lib.hid hmp
  have k0 : w.drew.cell? ⟨pb, 0, none⟩ = some (.slice pa ps.length pc) := heap_cell (w := w) (o := 0) hb rfl
  have k33 : w.drew.cell? ⟨pb, 33, none⟩ = some (.map (some lm)) := plan33g (w := w.drew) (show w.drew.heap[pb]? = _ from hb) hlen
  have k35 : w.drew.cell? ⟨pb, 35, none⟩ = some (.bool sm) := plan35g (w := w.drew) (show w.drew.heap[pb]? = _ from hb) hlen
  have K35 := Lib.hid k35
  have hc4 := cnt4_le F
  obtain ⟨x, hx⟩ : ∃ x, decide (tn = nd0) = x := ⟨_, rfl⟩
  rw [hx] at HE
  have HX := Lib.hid hx
  have hz : costP F tn sm ps = ps.length + cnt4 F + (if sm = false ∧ x = false then 1 else 0) := by
    unfold costP
    congr 1
    subst hx
    simp
  obtain ⟨r, hr⟩ : ∃ r, costP F tn sm ps = r := ⟨_, rfl⟩
  rw [hr] at hz ⊢
  have HR := Lib.hid hz
  clear hr
  clear how hcv hb hmp hx hz k35
  generalize cnt4 F = c at *
  generalize ps.length = m at *
  have hw1 : IntKind.i64.wrap ((m : Int) + (c : Int)) = (m : Int) + (c : Int) := IntWalk.i64_in _ (by omega)
  have hw2 : IntKind.i64.wrap ((m : Int) + (c : Int) + 1) = (m : Int) + (c : Int) + 1 := IntWalk.i64_in _ (by omega)
  go_enter Tryd.func37, Tryd.ntmps37
  go_upto_region 1 with fail
  refine wp_region_held_drew (S := (fun w' => w'.cell? ⟨pb, 0, none⟩ = some (.slice pa m pc) ∧ w'.cell? ⟨pb, 33, none⟩ = some (.map (some lm)) ∧ MapAt Tryd.prog 3 w' lm c (mpF F))) (by kernel_rfl) ⟨k0, k33, HM.out.fr (Fr.refl No w).drew (fun h => h)⟩ (fun hS0 => ?_)
  refine take_at7 (i := 0) (d := some 4) (v := ?_) rfl rfl (by kernel_rfl) (by kernel_rfl) (by kernel_rfl) (fun _ _ _ h => h) (Or.inl ⟨by rfl, ?_⟩) (by assumption) ?_
  (rotate_left; (intro w hSw; go_simp; try (with_reducible rfl)); (try simp only [Act.put, List.setIfInBounds_toArray, List.set_cons_zero, List.set_cons_succ]))
  refine take_at7 (i := 1) (d := some 5) (v := ?_) rfl rfl (by kernel_rfl) (by kernel_rfl) (by kernel_rfl) (fun _ _ _ h => h) (Or.inl ⟨by rfl, ?_⟩) (by assumption) ?_
  (rotate_left; (intro w hSw; go_simp; try (with_reducible rfl)); (try simp only [Act.put, List.setIfInBounds_toArray, List.set_cons_zero, List.set_cons_succ]))
  refine take_at7 (i := 2) (d := some 6) (v := ?_) rfl rfl (by kernel_rfl) (by kernel_rfl) (by kernel_rfl) (fun _ _ _ h => h) (Or.inl ⟨by rfl, ?_⟩) (by assumption) ?_
  (rotate_left; (intro w hSw; go_simp; try (with_reducible rfl)); (try simp only [Act.put, List.setIfInBounds_toArray, List.set_cons_zero, List.set_cons_succ]))
  refine take_at7 (i := 3) (d := some 7) (v := ?_) rfl rfl (by kernel_rfl) (by kernel_rfl) (by kernel_rfl) (fun _ _ _ h => h) (Or.inl ⟨by rfl, ?_⟩) (by assumption) ?_
  (rotate_left; (intro w hSw; go_simp; try (with_reducible rfl)); (try simp only [Act.put, List.setIfInBounds_toArray, List.set_cons_zero, List.set_cons_succ]))
  refine take_at7 (i := 4) (d := some 8) (v := ?_) rfl rfl (by kernel_rfl) (by kernel_rfl) (by kernel_rfl) (fun _ _ _ h => h) (Or.inl ⟨by rfl, ?_⟩) (by assumption) ?_
  (rotate_left; (intro w hSw; go_simp; try (with_reducible rfl)); (try simp only [Act.put, List.setIfInBounds_toArray, List.set_cons_zero, List.set_cons_succ]))
  refine take_at7 (i := 5) (d := some 9) (v := ?_) rfl rfl (by kernel_rfl) (by kernel_rfl) (by kernel_rfl) (fun _ _ _ h => h) (Or.inl ⟨by rfl, ?_⟩) (by assumption) ?_
  (rotate_left; (intro w hSw; go_simp; try (with_reducible rfl)); (try simp only [Act.put, List.setIfInBounds_toArray, List.set_cons_zero, List.set_cons_succ]))
  refine take_at7 (i := 6) (d := some 10) (v := ?_) rfl rfl (by kernel_rfl) (by kernel_rfl) (by kernel_rfl) (fun _ _ _ h => h) (Or.inl ⟨by rfl, ?_⟩) (by assumption) ?_
  (rotate_left; (intro w hSw; go_simp; try (with_reducible rfl)); (try simp only [Act.put, List.setIfInBounds_toArray, List.set_cons_zero, List.set_cons_succ]))
  refine take_at7 (i := 7) (d := some 11) (v := ?_) rfl rfl (by kernel_rfl) (by kernel_rfl) (by kernel_rfl) (fun _ _ _ h => h) (Or.inl ⟨by rfl, ?_⟩) (by assumption) ?_
  (rotate_left; (intro w hSw; go_simp; try (with_reducible rfl)); (try simp only [Act.put, List.setIfInBounds_toArray, List.set_cons_zero, List.set_cons_succ]))
  refine take_at7 (i := 8) (d := some 12) (v := ?_) rfl rfl (by kernel_rfl) (by kernel_rfl) (by kernel_rfl) (fun _ _ _ h => h) (Or.inl ⟨by rfl, ?_⟩) (by assumption) ?_
  (rotate_left; (intro w hSw; go_simp; try (with_reducible rfl)); (try simp only [Act.put, List.setIfInBounds_toArray, List.set_cons_zero, List.set_cons_succ]))
  refine take_at7 (i := 9) (d := some 13) (v := .int .i64 (c : Nat)) rfl rfl (by kernel_rfl) (by kernel_rfl) (by kernel_rfl) (fun _ _ _ h => h) (yields_len_map (by rfl) _ 127 rfl rfl (fun _ h => h.2.2) Tryd.underlying127) (by assumption) ?_
  try simp only [Act.put, List.setIfInBounds_toArray, List.set_cons_zero, List.set_cons_succ]
  refine take_at7 (i := 10) (d := some 14) (v := .int .i64 ((m : Int) + (c : Int))) rfl rfl (by kernel_rfl) (by kernel_rfl) (by kernel_rfl) (fun _ _ _ h => h) (Or.inl ⟨by rfl, ?_⟩) (by assumption) ?_
  · intro w hSw; go_simp; try (with_reducible rfl)
  try simp only [Act.put, List.setIfInBounds_toArray, List.set_cons_zero, List.set_cons_succ]
  refine take_at7 (i := 11) (d := some 3) (v := ?_) rfl rfl (by kernel_rfl) (by kernel_rfl) (by kernel_rfl) (fun _ _ _ h => h) (Or.inl ⟨by rfl, ?_⟩) (by assumption) ?_
  (rotate_left; (intro w hSw; go_simp; try (with_reducible rfl)); (try simp only [Act.put, List.setIfInBounds_toArray, List.set_cons_zero, List.set_cons_succ]))
  refine wpAnyH_done (by kernel_rfl) ?_ _
  clear hS0
  have k35 := K35.out
  clear k0 k33 hn1 hn2
  cases sm
  · go_wp2_with fail
    refine HE.out.mono ?_
    rintro e w1 ⟨rfl, rfl⟩
    cases x
    · go_wp2_with fail
      go_ret
      exact ⟨by rw [HR.out]; simp, (Fr.refl No w).drew⟩
    · go_wp2_with fail
      go_ret
      exact ⟨by rw [HR.out]; simp, (Fr.refl No w).drew⟩
  · go_wp2_with fail
    go_ret
    exact ⟨by rw [HR.out]; simp, (Fr.refl No w).drew⟩
end Go.Proofs.YtpcikbloflpahaaDoor
