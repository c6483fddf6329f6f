/-
  The iterator over a list's blocks.
-/
import Derived.Test.YtbjffempiaohpaaProg
import Derived.Test.YtbjffempiaohpaaIter
import Derived.Test.YtbjffempiaohpaaExt0
namespace Go.Proofs.Ytbjffempiaohpaa
set_option linter.unusedVariables false
set_option linter.unusedSimpArgs false
open Go.RowKit Go.Shelf
attribute [local go_sem] Oper.semAt_some wide_depth inRound_depth wide_fn inRound_fn

def extCells (xs : List (Int × Int)) : List Value := xs.flatMap fun x => [.int .i64 x.1, .int .i64 x.2]

theorem extCells_get (xs : List (Int × Int)) (k : Nat) (h : k < xs.length) : (extCells xs)[k * 2]? = some (.int .i64 xs[k].1) ∧ (extCells xs)[k * 2 + 1]? = some (.int .i64 xs[k].2) := by
  induction xs generalizing k with
  | nil => simp at h
  | cons x xs ih =>
    cases k with
    | zero => simp [extCells]
    | succ k =>
      have := ih k (by simpa using h)
      simp only [extCells, List.flatMap_cons, Nat.succ_mul] at this ⊢
      simpa using this

theorem run_len (x : Int × Int) : (run x).length = x.2.toNat := by simp [run]

set_option maxHeartbeats 2000000 in
theorem blocks1_iter (Bn : Nat) (v : Value) (xs : List (Int × Int)) (W0 : World) (hlen : xs.length ≤ 100) (T : Nat → Prop) (hTB : ¬ T Bn) (hTv : ∀ k, v.ownBlock = some k → extCells xs ≠ [] → ¬ T k)
    (hBn : W0.cell? ⟨Bn, 0, none⟩ = some v) (hv : Sl W0 v xs.length (extCells xs)) :
    Iter Fence.wide Try.prog 91 #[.pointer (some ⟨Bn, 0, none⟩)] (fun x => #[.int .i64 x]) (Fr T W0) (blkSeq (-1) xs) := by
  intro l J E W hK hJ hY hE h0
  obtain ⟨a, cap, rfl⟩ := hv.form
  have hBn' := hK.cell hBn hTB
  have hE' := Lib.hid hE
  clear hE
  refine callsIn_of_wp Try.func91 rfl trivial ?_ rfl
  simp only [Try.ntmps91, List.size_toArray, List.length_cons, List.length_nil, Nat.reduceAdd, Nat.reduceSub, Array.replicate_succ, Array.replicate_zero, List.push_toArray, List.append_toArray, List.nil_append, List.cons_append]
  gi_wp2
  gi_loopw [3, 9] (fun en i wr => ∃ (k : Nat) (e0 : Int) (pre : List Int), k ≤ xs.length ∧ i = .int .i64 k ∧ en = .int .i64 e0 ∧ blkSeq (-1) xs = pre ++ blkSeq e0 (xs.drop k) ∧ J pre wr ∧ Fr T W0 wr)
    (fun _ i _ => xs.length - (intOf i).toNat)
  case atStart => exact ⟨0, -1, [], by omega, rfl, rfl, by simp, h0, hK⟩
  case round =>
    obtain ⟨k, e0, pre, hk, rfl, rfl, hys, hJs, hKr⟩ := hrel
    by_cases hlt : k < xs.length
    · have hne : extCells xs ≠ [] := by intro e; have := extCells_get xs k hlt; rw [e] at this; simp at this
      obtain ⟨b, off, rfl, hb, hc⟩ := hv.at hne
      have hc1 := hKr.cell (hc _ _ (extCells_get xs k hlt).1) (hTv b rfl hne)
      have hc2 := hKr.cell (hc _ _ (extCells_get xs k hlt).2) (hTv b rfl hne)
      rw [List.drop_eq_getElem_cons hlt] at hys
      revert hys hc1 hc2
      generalize xs[k] = x
      obtain ⟨x1, x2⟩ := x
      dsimp only
      rw [← Nat.add_assoc]
      intro hys hc1 hc2
      have hW1 : wr.grownBy (wr.alloc (.cells #[.int .i64 x1, .int .i64 x2] 73)) none := World.grownBy_alloc _ _ _
      have hJ1 := hJ _ _ _ hJs hW1
      have hK1 : Fr T W0 (wr.alloc (.cells #[.int .i64 x1, .int .i64 x2] 73)) := hKr.alloc _
      clear hW1 hc hne
      by_cases hbad : badX e0 (x1, x2) = true
      · have hys' : blkSeq (-1) xs = pre ++ [-1] := by rw [hys, blkSeq, if_pos hbad]
        obtain ⟨fn, tmps, assign, body, hy, hR⟩ := hY pre (-1) _ (by rw [hys']; exact List.prefix_refl _) hJ1 hK1
        have HY := Lib.hid hys'
        have hbad' : x1 < 9 ∨ (9 ≤ x1 ∧ 32 < x1) ∨ (9 ≤ x1 ∧ x1 ≤ 32 ∧ x2 < 1) ∨ (9 ≤ x1 ∧ x1 ≤ 32 ∧ 1 ≤ x2 ∧ 32 - x1 < x2) ∨ (9 ≤ x1 ∧ x1 ≤ 32 ∧ 1 ≤ x2 ∧ x2 ≤ 32 - x1 ∧ (x1 == e0) = true) := by
          simp only [badX, Bool.or_eq_true, decide_eq_true_eq] at hbad; rw [beq_iff_eq]; omega
        clear hys hys' hv hbad
        rcases hbad' with q1 | ⟨q1, q2⟩ | ⟨q1, q2, q3⟩ | ⟨q1, q2, q3, q4⟩ | ⟨q1, q2, q3, q4, q5⟩
        all_goals
          gi_wp2
          refine hR.mono ?_
          rintro e W3 (⟨rfl, hJ3, hk3⟩ | ⟨rfl, hJx3⟩)
          · gi_wp2
            refine bodyPost_ret (results_none rfl _ _ _) rfl ?_
            exact ⟨⟨_, rfl⟩, hE'.out _ (by rw [HY.out]; exact hJ3) hk3⟩
          · gi_wp2
            refine bodyPost_ret (results_none rfl _ _ _) rfl ?_
            exact ⟨⟨_, rfl⟩, hJx3⟩
      · have hys' : blkSeq (-1) xs = pre ++ run (x1, x2) ++ blkSeq (x1 + x2) (xs.drop (k + 1)) := by rw [hys, blkSeq, if_neg hbad]; simp
        simp only [badX, Bool.not_eq_true, Bool.or_eq_false_iff, decide_eq_false_iff_not] at hbad
        obtain ⟨⟨⟨⟨g1, g2⟩, g3⟩, g4⟩, g5⟩ := hbad
        have g5' : (x1 == e0) = false := by simpa using g5
        have HY := Lib.hid hys'
        clear hys hys' hv g5
        gi_wp2
        obtain ⟨wo, rfl⟩ : ∃ wo : World, wo = wr := ⟨_, rfl⟩
        gi_loopw [6] (fun i ws => ∃ (m : Nat), (m : Int) ≤ x2 ∧ i = .int .i64 (x1 + m) ∧ J (pre ++ (run (x1, x2)).take m) ws ∧ Fr T W0 ws)
          (fun i _ => (x1 + x2 - intOf i).toNat)
        case atStart => exact ⟨0, by omega, by simp, by simpa using hJ1, hK1⟩
        case round =>
          obtain ⟨m, hm, rfl, hJm, hKm⟩ := hrel
          by_cases hlt2 : (m : Int) < x2
          · have hrun : (run (x1, x2)).take (m + 1) = (run (x1, x2)).take m ++ [x1 + (m : Int)] := by
              rw [List.take_succ_eq_append_getElem (by rw [run_len]; omega)]; simp [run]
            obtain ⟨fn, tmps, assign, body, hy, hR⟩ := hY (pre ++ (run (x1, x2)).take m) (x1 + (m : Int)) wr (by
              rw [HY.out, List.append_assoc, List.append_assoc]; refine (List.prefix_append_right_inj _).2 ?_
              rw [← hrun]; exact (List.take_prefix _ _).trans (List.prefix_append _ _)) hJm hKm
            have HR := Lib.hid hrun
            clear hrun
            gi_wp2
            refine hR.mono ?_
            rintro e W3 (⟨rfl, hJ3, hk3⟩ | ⟨rfl, hJx3⟩)
            · gi_wp2
              go_roundw
              case rel => exact ⟨m + 1, by omega, by go_num, by rw [HR.out, ← List.append_assoc]; exact hJ3, hk3⟩
              case measure => simp [intOf]; omega
            · gi_wp2
              refine bodyPost_ret (results_none rfl _ _ _) rfl ?_
              exact ⟨⟨_, rfl⟩, hJx3⟩
          · gi_wp2
            go_roundw
            case rel => exact ⟨k + 1, _, pre ++ run (x1, x2), by omega, by go_num, rfl, HY.out, by rw [List.take_of_length_le (by rw [run_len]; simp; omega)] at hJm; exact hJm, hKm⟩
            case measure => simp [intOf]; omega
    · have hk' : k = xs.length := by omega
      rw [List.drop_of_length_le (by omega)] at hys
      have HY := Lib.hid hys
      clear hys hk' hv
      gi_wp2
      go_end0
      exact ⟨⟨_, rfl⟩, hE'.out _ (by rw [HY.out]; simpa [blkSeq] using hJs) hKr⟩

end Go.Proofs.Ytbjffempiaohpaa
