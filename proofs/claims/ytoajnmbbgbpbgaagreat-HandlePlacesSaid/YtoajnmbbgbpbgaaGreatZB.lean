/-
  The reference's lists of blocks.
-/
import Derived.Test.YtoajnmbbgbpbgaaGreatZA
import Derived.Laws.StructEq
import Derived.Deep.RegionWith
import Derived.Test.YtoajnmbbgbpbgaaGreatProg
import Derived.Lib.Hide
import Derived.Deep.QuietTactic
import Derived.BigQuiet
import Derived.WalkSmall
import Derived.WalkSpells
import Derived.Deep.AppendLies
import Derived.Laws.OwnMore
import Derived.Lib.BufferWrite
import Derived.Laws.CopyRow
import Derived.Laws.MakeOwn
import Derived.Deep.MidRow
import Derived.Laws.BytesString
import Derived.Laws.BytesArg
namespace Go.Proofs.YtoajnmbbgbpbgaaGreat
set_option linter.unusedVariables false
set_option linter.unusedSimpArgs false
open Go.RowKit Go.Shelf

def blocksOk (xs : List (Int × Int)) : Bool := okB (blkSeq (-1) xs)
def RBlocksPost (w : World) (xs : List (Int × Int)) (e : Ending) (w' : World) : Prop :=
  Fr No w w' ∧ ∃ r, e = .returned (.tuple #[r, .bool (blocksOk xs)]) ∧ w'.ownsRow w.heap.size 3 1 r (listF xs).length (ints (listF xs))

theorem rblocks_bad {w w' : World} {xs : List (Int × Int)} (hF : Fr No w w') (h : okB (blkSeq (-1) xs) = false) : RBlocksPost w xs (.returned (.tuple #[.slice none 0 0, .bool false])) w' := by
  refine ⟨hF, _, by rw [blocksOk, h], ?_⟩
  rw [listF, if_neg (by rw [h]; simp)]; exact World.ownsRow_nil _ _ _ _

theorem okB_false_of {l m : List Int} (h : l <+: m) (hl : okB l = false) : okB m = false := by
  cases hm : okB m with
  | false => rfl
  | true => rw [okB_prefix h hm] at hl; cases hl

set_option maxHeartbeats 4000000 in
set_option maxRecDepth 100000 in
theorem rblocks_calls (v : Value) (xs : List (Int × Int)) (w : World) (hlen : xs.length ≤ 100) (hv : Sl w v xs.length (extCells xs)) :
    Calls Tryz.prog 99 #[v] w (RBlocksPost w xs) := by
  obtain ⟨a, cap, rfl⟩ := hv.form
  go_enter Tryz.func99, Tryz.ntmps99
  go_wp2
  go_loopw [4, 12] (fun o i wr => ∃ (k : Nat) (e0 : Int) (pre : List Int), k ≤ xs.length ∧ i = .int .i64 k ∧ blkSeq (-1) xs = pre ++ blkSeq e0 (xs.drop k) ∧ okB pre = true ∧
      (k = 0 → e0 = -1) ∧ (∀ j x, k = j + 1 → xs[j]? = some x → e0 = x.1 + x.2 ∧ 0 ≤ x.1 ∧ 0 ≤ x.2 ∧ x.1 + x.2 ≤ 32) ∧
      wr.ownsRow w.heap.size 3 1 o pre.length (ints pre) ∧ Fr No w wr)
    (fun _ i _ => xs.length - (intOf i).toNat)
  case atStart => exact ⟨0, -1, [], by omega, rfl, by simp, rfl, fun _ => rfl, fun j x e => by omega, World.ownsRow_nil _ _ _ _, Fr.refl _ _⟩
  case round =>
    obtain ⟨k, e0, pre, hk, rfl, hys, hok, hz, hp, hrow, hF⟩ := hrel
    by_cases hlt : k < xs.length
    · have hne : extCells xs ≠ [] := by intro e; have := extCells_get xs k hlt; rw [e] at this; simp at this
      obtain ⟨b, off, rfl, hb, hc⟩ := hv.at hne
      have hc1 := hF.cell (hc _ _ (extCells_get xs k hlt).1) (fun h => h)
      have hc2 := hF.cell (hc _ _ (extCells_get xs k hlt).2) (fun h => h)
      rw [List.drop_eq_getElem_cons hlt] at hys
      have hgk : xs[k]? = some xs[k] := List.getElem?_eq_getElem hlt
      revert hys hc1 hc2 hgk
      generalize xs[k] = x
      obtain ⟨x1, x2⟩ := x
      dsimp only
      rw [← Nat.add_assoc]
      intro hys hc1 hc2 hgk
      have hplen := okB_length hok (fun b hb => blkSeq_range xs (-1) b (by rw [hys]; simp [hb]))
      have hgood : badX e0 (x1, x2) = false → blkSeq (-1) xs = pre ++ (run (x1, x2) ++ blkSeq (x1 + x2) (xs.drop (k + 1))) := fun h => by rw [hys, blkSeq, if_neg (by rw [h]; simp)]
      have hbadF : badX e0 (x1, x2) = true → okB (blkSeq (-1) xs) = false := fun h => by rw [hys, blkSeq, if_pos h, okB_snoc]; simp
      clear hys hc
      by_cases hbr : x1 < 9 ∨ 32 ≤ x1 ∨ x2 < 1 ∨ 32 - x1 < x2
      · have hfalse := hbadF (by simp only [badX, Bool.or_eq_true, decide_eq_true_eq]; omega)
        have HB := Lib.hid (fun w' h => rblocks_bad (w' := w') (w := w) h hfalse)
        clear hfalse hgood hbadF hv hz hp hgk
        have hbr' : x1 < 9 ∨ (9 ≤ x1 ∧ 32 ≤ x1) ∨ (9 ≤ x1 ∧ x1 < 32 ∧ x2 < 1) ∨ (9 ≤ x1 ∧ x1 < 32 ∧ 1 ≤ x2 ∧ 32 - x1 < x2) := by omega
        clear hbr
        rcases hbr' with q1 | ⟨q1, q2⟩ | ⟨q1, q2, q3⟩ | ⟨q1, q2, q3, q4⟩
        all_goals
          go_wp2
          go_ret2
          exact HB.out _ (hF.alloc _)
      · obtain ⟨g1, g2, g3, g4⟩ : 9 ≤ x1 ∧ x1 < 32 ∧ 1 ≤ x2 ∧ x2 ≤ 32 - x1 := by omega
        clear hbr
        by_cases hadj : x1 = e0
        · have hfalse := hbadF (by simp only [badX, Bool.or_eq_true, decide_eq_true_eq]; omega)
          have HB := Lib.hid (fun w' h => rblocks_bad (w' := w') (w := w) h hfalse)
          cases k with
          | zero => have := hz rfl; omega
          | succ j =>
            have hj : j < xs.length := by omega
            obtain ⟨he, p1, p2, p3⟩ := hp j xs[j] rfl (List.getElem?_eq_getElem hj)
            obtain ⟨b', off', e', hb', hc'⟩ := hv.at hne
            cases e'
            have hp1 := hF.cell (hc' _ _ (extCells_get xs j hj).1) (fun h => h)
            have hp2 := hF.cell (hc' _ _ (extCells_get xs j hj).2) (fun h => h)
            rw [← Nat.add_assoc] at hp2
            have hx : (x1 == xs[j].1 + xs[j].2) = true := by rw [beq_iff_eq]; omega
            revert hp1 hp2 hx p1 p2 p3
            generalize xs[j] = y
            obtain ⟨y1, y2⟩ := y
            dsimp only
            intro p1 p2 p3 hp1 hp2 hx
            clear hfalse hgood hbadF hv hz hp hgk hc' he hadj hne
            have hj0 : 0 ≤ (j : Int) := by omega
            have hbw := cell_lt hp1
            have hp1a : (wr.alloc (.cells #[.int .i64 x1, .int .i64 x2] 139)).cell? ⟨b, off + j * 2, none⟩ = some (.int .i64 y1) := (World.cell?_alloc_past _ _ _ hbw).trans hp1
            have hp2a : (wr.alloc (.cells #[.int .i64 x1, .int .i64 x2] 139)).cell? ⟨b, off + j * 2 + 1, none⟩ = some (.int .i64 y2) := (World.cell?_alloc_past _ _ _ hbw).trans hp2
            have hj1 : (j : Int) < (xs.length : Int) := by omega
            have hw1 : IntKind.i64.wrap ((j : Int) + 1 - 1) = (j : Int) := by rw [show (j : Int) + 1 - 1 = j by omega]; exact IntWalk.i64_in _ (by omega)
            have hw3 : IntKind.i64.wrap (j : Int) = (j : Int) := IntWalk.i64_in _ (by omega)
            have hw2 : IntKind.i64.wrap (y1 + y2) = y1 + y2 := IntWalk.i64_in _ (by omega)
            go_wp2
            go_quiet (fail)
            go_wp2
            go_ret2
            exact HB.out _ ((hF.alloc _).drewN _)
        · have hnb : badX e0 (x1, x2) = false := by simp only [badX, Bool.or_eq_false_iff, decide_eq_false_iff_not]; exact ⟨⟨⟨⟨by omega, by omega⟩, by omega⟩, by omega⟩, hadj⟩
          have hseq := Lib.hid (hgood hnb)
          clear hgood hbadF hnb
          cases k with
          | zero =>
            clear hz hp hv hne
            simp only [Nat.zero_mul, Nat.add_zero] at hc1 hc2
            go_wp2
            go_quiet (fail)
            go_wp2
            obtain ⟨wo, rfl⟩ : ∃ wo : World, wo = wr := ⟨_, rfl⟩
            have hbx : ((wo.alloc (.cells #[.int .i64 x1, .int .i64 x2] 139)).drewN nq).heap[wo.heap.size]? = some (.cells #[.int .i64 x1, .int .i64 x2] 139 (0, 0)) := heap_new _ _
            have hF1 : Fr No w ((wo.alloc (.cells #[.int .i64 x1, .int .i64 x2] 139)).drewN nq) := (hF.alloc _).drewN _
            have hrow1 : ((wo.alloc (.cells #[.int .i64 x1, .int .i64 x2] 139)).drewN nq).ownsRow w.heap.size 3 1 u4 pre.length (ints pre) := hrow.alloc _
            go_loopw [4, 7] (fun o mv wm => ∃ m : Nat, mv = .int .i64 m ∧ (m : Int) ≤ x2 ∧ okB (pre ++ (run (x1, x2)).take m) = true ∧ wm.ownsRow w.heap.size 3 1 o (pre ++ (run (x1, x2)).take m).length (ints (pre ++ (run (x1, x2)).take m)) ∧ Fr No w wm ∧
                wm.heap[wo.heap.size]? = some (.cells #[.int .i64 x1, .int .i64 x2] 139 (0, 0)))
              (fun _ mv _ => (x2 - intOf mv).toNat)
            case atStart => exact ⟨0, rfl, by omega, by simpa using hok, by simpa using hrow1, hF1, hbx⟩
            case round =>
              obtain ⟨m, rfl, hm, hokm, hrowm, hFm, hbm⟩ := hrel
              have cx1 : wr.cell? ⟨wo.heap.size, 0, none⟩ = some (.int .i64 x1) := heap_cell (o := 0) hbm rfl
              have cx2 : wr.cell? ⟨wo.heap.size, 1, none⟩ = some (.int .i64 x2) := heap_cell (o := 1) hbm rfl
              have hlm : (pre ++ (run (x1, x2)).take m).length ≤ 33 := okB_length hokm (fun b hb => blkSeq_range xs (-1) b (by
                rw [hseq.out]; rcases List.mem_append.1 hb with h | h
                · exact List.mem_append.2 (.inl h)
                · exact List.mem_append.2 (.inr (List.mem_append.2 (.inl (List.mem_of_mem_take h))))))
              by_cases hlt2 : (m : Int) < x2
              · have hrun : (run (x1, x2)).take (m + 1) = (run (x1, x2)).take m ++ [x1 + (m : Int)] := by
                  rw [List.take_succ_eq_append_getElem (by rw [run_len]; simp; omega)]; simp [run]
                have hbadm : x1 + (m : Int) ∈ pre ++ (run (x1, x2)).take m → okB (blkSeq (-1) xs) = false := fun hin => by
                  refine okB_false_of (l := pre ++ (run (x1, x2)).take m ++ [x1 + (m : Int)]) ?_ (by rw [okB_snoc]; simp only [hin]; simp)
                  rw [hseq.out, List.append_assoc, ← hrun]
                  exact (List.prefix_append_right_inj _).2 ((List.take_prefix _ _).trans (List.prefix_append _ _))
                have hokn : x1 + (m : Int) ∉ pre ++ (run (x1, x2)).take m → okB (pre ++ (run (x1, x2)).take (m + 1)) = true := fun hin => by
                  rw [hrun, ← List.append_assoc, okB_snoc, hokm]; simp only [hin]; simp; omega
                have HR := Lib.hid (show pre ++ (run (x1, x2)).take (m + 1) = pre ++ (run (x1, x2)).take m ++ [x1 + (m : Int)] by rw [hrun, List.append_assoc])
                have HBM := Lib.hid hbadm
                have HON := Lib.hid hokn
                clear hrun hbadm hokn hokm
                revert hrowm hlm HR HBM HON
                generalize pre ++ (run (x1, x2)).take m = cur
                generalize hnx : pre ++ (run (x1, x2)).take (m + 1) = nxt
                have HNX := Lib.hid hnx
                clear hnx
                intro hrowm hlm HR HBM HON
                have hsl := Sl.of_owns hrowm
                obtain ⟨a4, cap4, rfl⟩ := hsl.form
                go_wp2
                obtain ⟨wp, rfl⟩ : ∃ wp : World, wp = wr := ⟨_, rfl⟩
                go_loop [66] (fun i => ∃ j : Nat, j ≤ cur.length ∧ i = .int .i64 j ∧ x1 + (m : Int) ∉ cur.take j) (fun i => cur.length - (intOf i).toNat)
                case atStart => exact ⟨0, by omega, rfl, by simp⟩
                case round =>
                  obtain ⟨j2, hj2, rfl, hnin⟩ := hrel
                  by_cases hlt3 : j2 < cur.length
                  · obtain ⟨b4, off4, rfl, hb4, hc4⟩ := hsl.at (ints_ne _ j2 hlt3)
                    have hcc := hc4 _ _ (ints_get _ j2 hlt3)
                    have htk : cur.take (j2 + 1) = cur.take j2 ++ [cur[j2]] := List.take_succ_eq_append_getElem hlt3
                    have hmem : cur[j2] ∈ cur := List.getElem_mem hlt3
                    revert hcc htk hmem
                    generalize cur[j2] = y4
                    intro hcc htk hmem
                    by_cases hy : y4 = x1 + (m : Int)
                    · have hy' : (y4 == x1 + (m : Int)) = true := by simpa using hy
                      have HB := Lib.hid (HBM.out (by rw [← hy]; exact hmem))
                      clear hy htk hmem hnin hc4 hsl
                      go_wp2
                      go_ret2
                      exact rblocks_bad hFm HB.out
                    · have hy' : (y4 == x1 + (m : Int)) = false := by simpa using hy
                      have HT := Lib.hid (show x1 + (m : Int) ∉ cur.take (j2 + 1) by rw [htk]; simp [hnin, Ne.symm hy])
                      clear hy htk hmem hnin hc4 hsl
                      go_wp2
                      go_round
                      case rel => exact ⟨j2 + 1, by omega, by go_num, HT.out⟩
                      case measure => simp [intOf]; omega
                  · have hnin' : x1 + (m : Int) ∉ cur := by rw [List.take_of_length_le (by omega)] at hnin; exact hnin
                    have HN := Lib.hid (HON.out hnin')
                    clear hnin hnin' hsl
                    go_wp2_with (at_builtin; refine append_out el_int rfl _ _ rfl w.heap.size (.slice a4 cur.length cap4) _ _ rfl (hrowm.alloc _) ⟨wp.heap.size, 0, none⟩ 1 1 [.int .i64 (x1 + (m : Int))] rfl rfl (cell_one_new _ _ _) (by simp [Value.oneCell']) (by unfold maxLen; omega) (by omega) (by have := hFm.size; simp; omega) ?_; intro v' w3 hown' hgrow _)
                    go_roundw
                    case rel => exact ⟨m + 1, by go_num, by omega, by rw [HNX.out]; exact HN.out, by rw [HNX.out, HR.out, List.length_append]; simpa [ints] using hown', (hFm.alloc _).grown hgrow (fun k e hk => by have := (hrowm.lt k e).1; omega), (hgrow.block _ (heap_lt (heap_alloc _ hbm)) (not_row (heap_alloc (.cells #[.int .i64 (x1 + (m : Int))] 3) hbm) (by decide) (hrowm.alloc _))).trans (heap_alloc _ hbm)⟩
                    case measure => simp [intOf]; omega
              · have hm2 : m = x2.toNat := by omega
                have hall : (run (x1, x2)).take m = run (x1, x2) := List.take_of_length_le (by rw [run_len]; simp; omega)
                rw [hall] at hokm hrowm
                have HLAST := Lib.hid (show ∀ j' x, 0 + 1 = j' + 1 → xs[j']? = some x → x1 + x2 = x.1 + x.2 ∧ 0 ≤ x.1 ∧ 0 ≤ x.2 ∧ x.1 + x.2 ≤ 32 from fun j' x e hx => by
                  have e' : j' = 0 := by omega
                  subst e'
                  rw [hgk] at hx
                  cases hx
                  simp; omega)
                have HK := Lib.hid (And.intro hokm hgk)
                clear hall hm2 hlm hokm hgk  -- 
                go_wp2
                go_roundw
                case rel => exact ⟨0 + 1, x1 + x2, pre ++ run (x1, x2), by omega, by go_num, by rw [hseq.out, List.append_assoc], HK.out.1, by omega, HLAST.out, hrowm, hFm⟩
                case measure => simp [intOf]; omega
          | succ j =>
            have hj : j < xs.length := by omega
            obtain ⟨he, p1, p2, p3⟩ := hp j xs[j] rfl (List.getElem?_eq_getElem hj)
            obtain ⟨b', off', e', hb', hc'⟩ := hv.at hne
            cases e'
            have hp1 := hF.cell (hc' _ _ (extCells_get xs j hj).1) (fun h => h)
            have hp2 := hF.cell (hc' _ _ (extCells_get xs j hj).2) (fun h => h)
            rw [← Nat.add_assoc] at hp2
            have hx : (x1 == xs[j].1 + xs[j].2) = false := by rw [beq_eq_false_iff_ne]; omega
            revert hp1 hp2 hx p1 p2 p3
            generalize xs[j] = y
            obtain ⟨y1, y2⟩ := y
            dsimp only
            intro p1 p2 p3 hp1 hp2 hx
            clear hv hz hp hc' he hne
            have hj0 : 0 ≤ (j : Int) := by omega
            have hbw := cell_lt hp1
            have hp1a : (wr.alloc (.cells #[.int .i64 x1, .int .i64 x2] 139)).cell? ⟨b, off + j * 2, none⟩ = some (.int .i64 y1) := (World.cell?_alloc_past _ _ _ hbw).trans hp1
            have hp2a : (wr.alloc (.cells #[.int .i64 x1, .int .i64 x2] 139)).cell? ⟨b, off + j * 2 + 1, none⟩ = some (.int .i64 y2) := (World.cell?_alloc_past _ _ _ hbw).trans hp2
            have hj1 : (j : Int) < (xs.length : Int) := by omega
            have hw1 : IntKind.i64.wrap ((j : Int) + 1 - 1) = (j : Int) := by rw [show (j : Int) + 1 - 1 = j by omega]; exact IntWalk.i64_in _ (by omega)
            have hw3 : IntKind.i64.wrap (j : Int) = (j : Int) := IntWalk.i64_in _ (by omega)
            have hw2 : IntKind.i64.wrap (y1 + y2) = y1 + y2 := IntWalk.i64_in _ (by omega)
            go_wp2
            go_quiet (fail)
            go_wp2
            obtain ⟨wo, rfl⟩ : ∃ wo : World, wo = wr := ⟨_, rfl⟩
            have hbx : ((wo.alloc (.cells #[.int .i64 x1, .int .i64 x2] 139)).drewN nq).heap[wo.heap.size]? = some (.cells #[.int .i64 x1, .int .i64 x2] 139 (0, 0)) := heap_new _ _
            have hF1 : Fr No w ((wo.alloc (.cells #[.int .i64 x1, .int .i64 x2] 139)).drewN nq) := (hF.alloc _).drewN _
            have hrow1 : ((wo.alloc (.cells #[.int .i64 x1, .int .i64 x2] 139)).drewN nq).ownsRow w.heap.size 3 1 u4 pre.length (ints pre) := hrow.alloc _
            go_loopw [4, 7] (fun o mv wm => ∃ m : Nat, mv = .int .i64 m ∧ (m : Int) ≤ x2 ∧ okB (pre ++ (run (x1, x2)).take m) = true ∧ wm.ownsRow w.heap.size 3 1 o (pre ++ (run (x1, x2)).take m).length (ints (pre ++ (run (x1, x2)).take m)) ∧ Fr No w wm ∧
                wm.heap[wo.heap.size]? = some (.cells #[.int .i64 x1, .int .i64 x2] 139 (0, 0)))
              (fun _ mv _ => (x2 - intOf mv).toNat)
            case atStart => exact ⟨0, rfl, by omega, by simpa using hok, by simpa using hrow1, hF1, hbx⟩
            case round =>
              obtain ⟨m, rfl, hm, hokm, hrowm, hFm, hbm⟩ := hrel
              have cx1 : wr.cell? ⟨wo.heap.size, 0, none⟩ = some (.int .i64 x1) := heap_cell (o := 0) hbm rfl
              have cx2 : wr.cell? ⟨wo.heap.size, 1, none⟩ = some (.int .i64 x2) := heap_cell (o := 1) hbm rfl
              have hlm : (pre ++ (run (x1, x2)).take m).length ≤ 33 := okB_length hokm (fun b hb => blkSeq_range xs (-1) b (by
                rw [hseq.out]; rcases List.mem_append.1 hb with h | h
                · exact List.mem_append.2 (.inl h)
                · exact List.mem_append.2 (.inr (List.mem_append.2 (.inl (List.mem_of_mem_take h))))))
              by_cases hlt2 : (m : Int) < x2
              · have hrun : (run (x1, x2)).take (m + 1) = (run (x1, x2)).take m ++ [x1 + (m : Int)] := by
                  rw [List.take_succ_eq_append_getElem (by rw [run_len]; simp; omega)]; simp [run]
                have hbadm : x1 + (m : Int) ∈ pre ++ (run (x1, x2)).take m → okB (blkSeq (-1) xs) = false := fun hin => by
                  refine okB_false_of (l := pre ++ (run (x1, x2)).take m ++ [x1 + (m : Int)]) ?_ (by rw [okB_snoc]; simp only [hin]; simp)
                  rw [hseq.out, List.append_assoc, ← hrun]
                  exact (List.prefix_append_right_inj _).2 ((List.take_prefix _ _).trans (List.prefix_append _ _))
                have hokn : x1 + (m : Int) ∉ pre ++ (run (x1, x2)).take m → okB (pre ++ (run (x1, x2)).take (m + 1)) = true := fun hin => by
                  rw [hrun, ← List.append_assoc, okB_snoc, hokm]; simp only [hin]; simp; omega
                have HR := Lib.hid (show pre ++ (run (x1, x2)).take (m + 1) = pre ++ (run (x1, x2)).take m ++ [x1 + (m : Int)] by rw [hrun, List.append_assoc])
                have HBM := Lib.hid hbadm
                have HON := Lib.hid hokn
                clear hrun hbadm hokn hokm
                revert hrowm hlm HR HBM HON
                generalize pre ++ (run (x1, x2)).take m = cur
                generalize hnx : pre ++ (run (x1, x2)).take (m + 1) = nxt
                have HNX := Lib.hid hnx
                clear hnx
                intro hrowm hlm HR HBM HON
                have hsl := Sl.of_owns hrowm
                obtain ⟨a4, cap4, rfl⟩ := hsl.form
                go_wp2
                obtain ⟨wp, rfl⟩ : ∃ wp : World, wp = wr := ⟨_, rfl⟩
                go_loop [66] (fun i => ∃ j : Nat, j ≤ cur.length ∧ i = .int .i64 j ∧ x1 + (m : Int) ∉ cur.take j) (fun i => cur.length - (intOf i).toNat)
                case atStart => exact ⟨0, by omega, rfl, by simp⟩
                case round =>
                  obtain ⟨j2, hj2, rfl, hnin⟩ := hrel
                  by_cases hlt3 : j2 < cur.length
                  · obtain ⟨b4, off4, rfl, hb4, hc4⟩ := hsl.at (ints_ne _ j2 hlt3)
                    have hcc := hc4 _ _ (ints_get _ j2 hlt3)
                    have htk : cur.take (j2 + 1) = cur.take j2 ++ [cur[j2]] := List.take_succ_eq_append_getElem hlt3
                    have hmem : cur[j2] ∈ cur := List.getElem_mem hlt3
                    revert hcc htk hmem
                    generalize cur[j2] = y4
                    intro hcc htk hmem
                    by_cases hy : y4 = x1 + (m : Int)
                    · have hy' : (y4 == x1 + (m : Int)) = true := by simpa using hy
                      have HB := Lib.hid (HBM.out (by rw [← hy]; exact hmem))
                      clear hy htk hmem hnin hc4 hsl
                      go_wp2
                      go_ret2
                      exact rblocks_bad hFm HB.out
                    · have hy' : (y4 == x1 + (m : Int)) = false := by simpa using hy
                      have HT := Lib.hid (show x1 + (m : Int) ∉ cur.take (j2 + 1) by rw [htk]; simp [hnin, Ne.symm hy])
                      clear hy htk hmem hnin hc4 hsl
                      go_wp2
                      go_round
                      case rel => exact ⟨j2 + 1, by omega, by go_num, HT.out⟩
                      case measure => simp [intOf]; omega
                  · have hnin' : x1 + (m : Int) ∉ cur := by rw [List.take_of_length_le (by omega)] at hnin; exact hnin
                    have HN := Lib.hid (HON.out hnin')
                    clear hnin hnin' hsl
                    go_wp2_with (at_builtin; refine append_out el_int rfl _ _ rfl w.heap.size (.slice a4 cur.length cap4) _ _ rfl (hrowm.alloc _) ⟨wp.heap.size, 0, none⟩ 1 1 [.int .i64 (x1 + (m : Int))] rfl rfl (cell_one_new _ _ _) (by simp [Value.oneCell']) (by unfold maxLen; omega) (by omega) (by have := hFm.size; simp; omega) ?_; intro v' w3 hown' hgrow _)
                    go_roundw
                    case rel => exact ⟨m + 1, by go_num, by omega, by rw [HNX.out]; exact HN.out, by rw [HNX.out, HR.out, List.length_append]; simpa [ints] using hown', (hFm.alloc _).grown hgrow (fun k e hk => by have := (hrowm.lt k e).1; omega), (hgrow.block _ (heap_lt (heap_alloc _ hbm)) (not_row (heap_alloc (.cells #[.int .i64 (x1 + (m : Int))] 3) hbm) (by decide) (hrowm.alloc _))).trans (heap_alloc _ hbm)⟩
                    case measure => simp [intOf]; omega
              · have hm2 : m = x2.toNat := by omega
                have hall : (run (x1, x2)).take m = run (x1, x2) := List.take_of_length_le (by rw [run_len]; simp; omega)
                rw [hall] at hokm hrowm
                have HLAST := Lib.hid (show ∀ j' x, j + 1 + 1 = j' + 1 → xs[j']? = some x → x1 + x2 = x.1 + x.2 ∧ 0 ≤ x.1 ∧ 0 ≤ x.2 ∧ x.1 + x.2 ≤ 32 from fun j' x e hx => by
                  have e' : j' = j + 1 := by omega
                  subst e'
                  rw [hgk] at hx
                  cases hx
                  simp; omega)
                have HK := Lib.hid (And.intro hokm hgk)
                clear hall hm2 hlm hokm hgk  -- 
                go_wp2
                go_roundw
                case rel => exact ⟨j + 1 + 1, x1 + x2, pre ++ run (x1, x2), by omega, by go_num, by rw [hseq.out, List.append_assoc], HK.out.1, by omega, HLAST.out, hrowm, hFm⟩
                case measure => simp [intOf]; omega
    · have hkl : k = xs.length := by omega
      have hall : blkSeq (-1) xs = pre := by rw [hys, List.drop_of_length_le (by omega)]; simp [blkSeq]
      have hres : RBlocksPost w xs (.returned (.tuple #[u4, .bool true])) wr := by
        refine ⟨hF, u4, by rw [blocksOk, hall, hok], ?_⟩
        rw [listF, hall, hok]; exact hrow
      have HR := Lib.hid hres
      clear hres hall hkl hv hys hz hp
      go_wp2
      go_ret2
      exact HR.out

end Go.Proofs.YtoajnmbbgbpbgaaGreat
namespace Go.Proofs.YtoajnmbbgbpbgaaGreat
set_option linter.unusedVariables false
set_option linter.unusedSimpArgs false
open Go.RowKit Go.Shelf

set_option maxHeartbeats 4000000 in
set_option maxRecDepth 100000 in
theorem extents_calls (v : Value) (l : List Int) (w : World) (hl : l.length ≤ 1000) (h0 : ∀ b ∈ l, 0 ≤ b ∧ b < 32) (hv : Sl w v l.length (ints l)) :
    Calls Tryz.prog 125 #[v] w fun e w' => ∃ r, e = .returned r ∧ w'.ownsRow w.heap.size 139 2 r (joinsL l).length (extCells (joinsL l)) ∧ Fr No w w' := by
  obtain ⟨a, cap, rfl⟩ := hv.form
  have HR := Lib.hid h0
  clear h0
  go_enter Tryz.func125, Tryz.ntmps125
  go_wp2
  go_loopw [3, 9] (fun o i wr => ∃ k : Nat, k ≤ l.length ∧ i = .int .i64 k ∧ wr.ownsRow w.heap.size 139 2 o (joinsL (l.take k)).length (extCells (joinsL (l.take k))) ∧ Fr No w wr)
    (fun _ i _ => l.length - (intOf i).toNat)
  case atStart => exact ⟨0, Nat.zero_le _, rfl, World.ownsRow_nil _ _ _ _, Fr.refl _ _⟩
  case round =>
    obtain ⟨k, hk, rfl, hrow, hF⟩ := hrel
    by_cases hlt : k < l.length
    · obtain ⟨b, off, rfl, hb, hc⟩ := hv.at (ints_ne _ k hlt)
      have hc1 := hF.cell (hc _ _ (ints_get _ k hlt)) (fun h => h)
      obtain ⟨hx0, hx1⟩ := HR.out _ (List.getElem_mem hlt)
      have hs : joinsL (l.take (k + 1)) = joinF (joinsL (l.take k)) l[k] := by rw [List.take_succ_eq_append_getElem hlt, joinsL_snoc]
      have hfi := joinsL_fine (l.take k) (fun b hb => HR.out b (List.mem_of_mem_take hb))
      have htl : (l.take k).length ≤ 1000 := by rw [List.length_take]; omega
      have hcl := hfi.2
      revert hrow hc1 hx0 hx1 hs hfi hcl
      generalize l[k] = x
      generalize joinsL (l.take k) = cur
      intro hrow hc1 hx0 hx1 hs hfi hcl
      have HS := Lib.hid hs
      have hfi1 := hfi.1
      clear hs hc hfi
      rcases List.eq_nil_or_concat cur with rfl | ⟨cur', ⟨x1, x2⟩, rfl⟩
      · have hv3 : ∃ a3 cap3, u3 = .slice a3 0 cap3 := (Sl.of_owns hrow).form
        obtain ⟨a3, cap3, rfl⟩ := hv3
        clear hv hfi1
        go_wp2
        go_quiet (fail)
        go_wp2_with (at_builtin; refine append_out el_ext rfl _ _ rfl w.heap.size (.slice a3 0 cap3) _ _ rfl (World.ownsRow.alloc (w := wr.drewN _) hrow _) ⟨wr.heap.size, 0, none⟩ 1 1 [.int .i64 x, .int .i64 1] rfl rfl (cell_two_new _ _ _ _) (by simp [Value.oneCell']) (by unfold maxLen; simp) (by simp) (by have := hF.size; simp; omega) ?_; intro v' w3 hown' hgrow _)
        exact ⟨⟨k + 1, by omega, by go_num, by rw [HS.out]; exact hown', hF.grown (grownBy_drewN_alloc hgrow) (fun k e hk => by have := (hrow.lt k e).1; omega)⟩, by simp [intOf]; omega⟩
      · rw [List.concat_eq_append] at *
        have hx := hfi1 (x1, x2) (by simp)
        obtain ⟨r1, r3, r4⟩ := hx
        dsimp only at r1 r3 r4
        rw [List.length_append, List.length_singleton] at hrow hcl
        obtain ⟨g, cap3, rfl⟩ := ownsRow_succ hrow
        have e1 : (extCells (cur' ++ [(x1, x2)]))[cur'.length * 2]? = some (.int .i64 x1) := by have := (extCells_get (cur' ++ [(x1, x2)]) cur'.length (by simp)).1; simpa using this
        have e2 : (extCells (cur' ++ [(x1, x2)]))[cur'.length * 2 + 1]? = some (.int .i64 x2) := by have := (extCells_get (cur' ++ [(x1, x2)]) cur'.length (by simp)).2; simpa using this
        have c1 := (hrow.cellAt (cur'.length * 2) (by omega)).trans e1
        have c2 := (hrow.cellAt (cur'.length * 2 + 1) (by omega)).trans e2
        have f2 := hrow.frozenAt (cur'.length * 2 + 1)
        have hw1 : IntKind.i64.wrap (cur'.length : Int) = (cur'.length : Int) := IntWalk.i64_in _ (by omega)
        have hw2 : IntKind.i64.wrap (x1 + x2) = x1 + x2 := IntWalk.i64_in _ (by omega)
        have hp0 : 0 ≤ (cur'.length : Int) := by omega
        clear e1 e2 hfi1 hv
        by_cases hxb : x1 + x2 = x
        · have hxb' : (x1 + x2 == x) = true := by simpa using hxb
          have hst := hrow.stored (cur'.length * 2 + 1) (.int .i64 (x2 + 1))
          rw [extCells_set] at hst
          have hj := joinF_hit cur' _ _ _ hxb
          have HST := Lib.hid hst
          have HJ := Lib.hid hj
          clear hst hxb hj
          go_wp2
          go_quiet (fail)
          go_wp2
          obtain ⟨q1, q2⟩ := HST.out
          exact ⟨⟨k + 1, by omega, by go_num, by rw [HS.out, HJ.out, List.length_append, List.length_singleton]; exact q1, (hF.drewN _).setCell (fun hk => by have := (hrow.lt g rfl).1; simp at hk; omega) _⟩, by simp [intOf]; omega⟩
        · have hxb' : (x1 + x2 == x) = false := by simpa using hxb
          have HJ := Lib.hid (joinF_miss cur' _ _ _ hxb)
          clear hxb
          go_wp2
          go_quiet (fail)
          go_wp2_with (at_builtin; refine append_out el_ext rfl _ _ rfl w.heap.size (.slice (some ⟨g, 0, none⟩) (cur'.length + 1) cap3) _ _ rfl (World.ownsRow.alloc (w := wr.drewN _) hrow _) ⟨wr.heap.size, 0, none⟩ 1 1 [.int .i64 x, .int .i64 1] rfl rfl (cell_two_new _ _ _ _) (by simp [Value.oneCell']) (by unfold maxLen; omega) (by omega) (by have := hF.size; simp; omega) ?_; intro v' w3 hown' hgrow _)
          exact ⟨⟨k + 1, by omega, by go_num, by rw [HS.out, HJ.out, extCells_snoc, List.length_append, List.length_append]; exact hown', hF.grown (grownBy_drewN_alloc hgrow) (fun k e hk => by have := (hrow.lt k e).1; omega)⟩, by simp [intOf]; omega⟩
    · go_wp2
      go_ret
      exact ⟨_, rfl, by rw [List.take_of_length_le (by omega)] at hrow; exact hrow, hF⟩

theorem eqA_ext (w : World) (x1 x2 y1 y2 : Int) :
    (Op.equalIn 10000 139 (.agg #[.int .i64 x1, .int .i64 x2]) (.agg #[.int .i64 y1, .int .i64 y2])).run Tryz.prog w = .ok (x1 == y1 && x2 == y2) w := by
  rw [show (10000 : Nat) = 9998 + 1 + 1 from rfl, run_equalIn_struct w _ _ _ _ (by kernel_rfl) (by kernel_rfl)]
  simp only [Program.fieldsOf, Tryz.underlying139]
  simp [Op.eqFields, part, go_sem]
  by_cases h1 : x1 = y1 <;> by_cases h2 : x2 = y2 <;> simp [h1, h2]
attribute [local go_sem high] eqA_ext

theorem drewN_drewN (w : World) (m n : Nat) : (w.drewN m).drewN n = w.drewN (m + n) := by simp [World.drewN, Nat.add_assoc]

end Go.Proofs.YtoajnmbbgbpbgaaGreat
namespace Go.Proofs.YtoajnmbbgbpbgaaGreat
set_option linter.unusedVariables false
set_option linter.unusedSimpArgs false
open Go.RowKit Go.Shelf

theorem shr_bit0 (s i : Nat) (hs : s < 2 ^ 32) (hi : i < 32) : (bits .and .u32 ((s : Int) / 2 ^ i) 1 == 0) = !s.testBit i := by
  have h := shr_bit s i hs hi
  have h1 : s / 2 ^ i < 2 ^ 32 := Nat.lt_of_le_of_lt (Nat.div_le_self _ _) hs
  have e := and_u32 (s / 2 ^ i) 1 h1 (by decide)
  rw [show ((1 : Nat) : Int) = 1 by rfl] at e
  rw [show (2 : Int) ^ i = ((2 ^ i : Nat) : Int) by simp, ← Int.natCast_ediv, e, Nat.and_one_is_mod] at h ⊢
  rw [← h]
  rcases Nat.mod_two_eq_zero_or_one (s / 2 ^ i) with h2 | h2 <;> rw [h2] <;> rfl

theorem rgrow_bad (v : Value) (xs : List (Int × Int)) (used n : Int) (w : World) (hlen : xs.length ≤ 100) (hv : Sl w v xs.length (extCells xs)) (hbad : ¬ (okB (blkSeq (-1) xs) = true ∧ 0 ≤ n)) :
    Calls Tryz.prog 101 #[v, .int .u32 used, .int .i64 n] w fun e w' => Fr No w w' ∧ e = .returned (.tuple #[.slice none 0 0, .int .u32 0, .int .i64 1]) := by
  have HB := Lib.hid (rblocks_calls v xs w hlen hv)
  obtain ⟨a, cap, rfl⟩ := hv.form
  have hb : blocksOk xs = false ∨ (blocksOk xs = true ∧ n < 0) := by
    cases h : blocksOk xs with
    | false => exact .inl rfl
    | true => refine .inr ⟨rfl, ?_⟩; rw [blocksOk] at h; simp only [h, true_and] at hbad; omega
  clear hbad hv
  rcases hb with hb | ⟨hb, hn⟩
  all_goals
    go_enter Tryz.func101, Tryz.ntmps101
    go_wp2_with (go_at_call 99; refine HB.out.mono ?_; rintro e w1 ⟨hF1, r, rfl, hr⟩; rw [hb]; obtain ⟨a2, cap2, rfl⟩ := (Sl.of_owns hr).form)
    go_ret3
    exact ⟨hF1, rfl⟩

set_option maxHeartbeats 4000000 in
set_option maxRecDepth 100000 in
theorem rgrow_ok (v : Value) (xs : List (Int × Int)) (used : Nat) (n : Int) (w : World) (hlen : xs.length ≤ 100) (hu : used < 2 ^ 32) (hv : Sl w v xs.length (extCells xs)) (hok : okB (blkSeq (-1) xs) = true) (hn0 : 0 ≤ n) (hn2 : n < 9223372036854775808) :
    Calls Tryz.prog 101 #[v, .int .u32 used, .int .i64 n] w (GrowPost w (growR xs used n)) := by
  have HB := Lib.hid (rblocks_calls v xs w hlen hv)
  obtain ⟨a, cap, rfl⟩ := hv.form
  have hb : blocksOk xs = true := hok
  have hll := listF_length xs
  have HLR := Lib.hid (listF_range xs)
  clear hok hv
  go_enter Tryz.func101, Tryz.ntmps101
  go_wp2_with (go_at_call 99; refine HB.out.mono ?_; rintro e w1 ⟨hF1, r, rfl, hr⟩; rw [hb]; obtain ⟨a2, cap2, rfl⟩ := (Sl.of_owns hr).form)
  go_loopw [11, 12] (fun m b wr => ∃ (d : Nat) (acc : List Int), d ≤ 23 ∧ b = .int .i64 (32 - d : Int) ∧ acc.length + d ≤ 23 ∧ moreF used n 23 [] = moreF used n d acc ∧ wr.ownsRow w1.heap.size 3 1 m acc.length (ints acc) ∧ Fr No w1 wr)
    (fun _ b _ => (32 - intOf b).toNat)
  case atStart => exact ⟨23, [], by omega, rfl, by simp, rfl, World.ownsRow_nil _ _ _ _, Fr.refl _ _⟩
  case round =>
    obtain ⟨d, acc, hd, rfl, hal, hmf, hrow, hFr⟩ := hrel
    have hsl := Sl.of_owns hrow
    obtain ⟨a3, cap3, rfl⟩ := hsl.form
    have HM := Lib.hid hmf
    clear hmf
    by_cases hlt : (acc.length : Int) < n ∧ 0 < d
    · obtain ⟨hlt1, hlt2⟩ := hlt
      obtain ⟨d, rfl⟩ : ∃ d', d = d' + 1 := ⟨d - 1, by omega⟩
      have hb1 : (32 - ((d + 1 : Nat) : Int)) = ((31 - d : Nat) : Int) := by omega
      rw [hb1]
      have hnext : moreF used n 23 [] = if used.testBit (31 - d) then moreF used n d acc else moreF used n d (acc ++ [((31 - d : Nat) : Int)]) := by rw [HM.out, moreF, if_pos hlt1]
      have hbit := shr_bit0 used (31 - d) hu (by omega)
      have hq : (31 - d) + d = 31 := by omega
      have hbl : 31 - d < 32 := by omega
      generalize 31 - d = q at *
      clear hb1
      by_cases ht : used.testBit q = true
      · rw [if_pos ht] at hnext
        rw [ht] at hbit
        have HN := Lib.hid hnext
        clear hnext ht
        go_wp2
        exact ⟨⟨d, acc, by omega, by congr 1; omega, by omega, HN.out, hrow, hFr⟩, by simp [intOf]; omega⟩
      · rw [if_neg ht] at hnext
        rw [Bool.not_eq_true] at ht
        rw [ht] at hbit
        have HN := Lib.hid hnext
        clear hnext ht
        go_wp2_with (at_builtin; refine append_out el_int rfl _ _ rfl w1.heap.size (.slice a3 acc.length cap3) _ _ rfl (hrow.alloc _) ⟨wr.heap.size, 0, none⟩ 1 1 [.int .i64 q] rfl rfl (cell_one_new _ _ _) (by simp [Value.oneCell']) (by unfold maxLen; omega) (by omega) (by have := hFr.size; simp; omega) ?_; intro v' w3 hown' hgrow _)
        exact ⟨⟨d, acc ++ [(q : Int)], by omega, by congr 1; omega, by simp; omega, HN.out, by simpa [ints] using hown', (hFr.alloc _).grown hgrow (fun k e hk => by have := (hrow.lt k e).1; omega)⟩, by simp [intOf]; omega⟩
    · have hend : moreF used n 23 [] = acc := by
        rw [HM.out]; cases d with
        | zero => rfl
        | succ d => rw [moreF, if_neg (by omega)]
      have hacc : ∀ b ∈ acc, 0 ≤ b ∧ b < 32 := by rw [← hend]; exact moreF_range used n 23 [] (by simp)
      have HA := Lib.hid hacc
      clear hacc
      by_cases hsm : (acc.length : Int) < n
      · have hd0 : d = 0 := by omega
        subst hd0
        have hres : growR xs used n = none := by rw [growR, hend, if_pos hsm]
        have HN := Lib.hid hres
        clear hres hend hlt hsl
        go_wp2
        go_ret3
        exact ⟨hF1.trans hFr, by rw [HN.out]; rfl⟩
      · have hres : growR xs used n = some (joinsL (listF xs ++ acc), used ||| maskN acc) := by rw [growR, hend, if_neg hsm]
        have HN := Lib.hid hres
        clear hres hend hlt
        have hr2 := hFr.ownsRow hr (fun k e h => h)
        have hsz := hF1.size
        have hsz2 := hFr.size
        obtain ⟨hm1, hm2⟩ := maskL_nat acc (fun b hb => (HA.out b hb).2)
        have hor := or_u32 used (maskN acc) hu hm2
        have HO := Lib.hid (And.intro hm1 hor)
        have hlap : (listF xs ++ acc).length ≤ 1000 := by simp; omega
        clear hm1 hor
        go_wp2_with (first
          | (at_builtin; refine append_sl el_int rfl _ _ rfl w.heap.size (.slice a2 (listF xs).length cap2) _ _ rfl hr2 rfl hsl (by simp [ints]) (by simp [ints, Value.oneCell']) (by unfold maxLen; omega) (by omega) (by omega) ?_; intro v' w3 hown' hgrow; have hF3 : Fr (fun k => some k = (Value.slice a2 (listF xs).length cap2).ownBlock) wr w3 := (Fr.refl _ _).grown hgrow (fun k e _ => e.symm); have hsl3 := hsl.fr hF3 (fun k e _ hk => by have h1 := (hr.lt k hk.symm).2; have h2 := (hrow.lt k e).1; omega); replace hown' : w3.ownsRow w.heap.size 3 1 v' (listF xs ++ acc).length (ints (listF xs ++ acc)) := by simpa [ints] using hown')
          | (go_at_call 125; refine (extents_calls v' (listF xs ++ acc) _ hlap (fun b hb => (List.mem_append.1 hb).elim (HLR.out b) (HA.out b)) (Sl.of_owns hown')).mono ?_; rintro e w4 ⟨r4, rfl, hrow4, hF4⟩; replace hF3 := Lib.hid hF3; have hsl4 := hsl3.fr0 hF4)
          | (go_at_call 107; refine (set_calls _ acc _ (by omega) HA.out hsl4).mono ?_; rintro e w5 ⟨rfl, rfl⟩))
        all_goals
          go_ret3
          refine ⟨((hF1.trans hFr).trans' hF3.out (fun k hk h => by have := (hr.lt k h.symm).1; omega)).trans hF4, ?_⟩
          rw [HN.out]
          refine ⟨r4, ?_, ?_⟩
          · rw [HO.out.1, HO.out.2]; rfl
          · exact ownsRow_base hrow4 (by have := hF3.out.size; omega)

/-! ### Shrink -/
theorem shrink_res (xs : List (Int × Int)) (used : Nat) (n : Int) (hu : used < 2 ^ 32) (h : okB (blkSeq (-1) xs) = true) (h0 : 0 ≤ n) (h1 : n ≤ (listF xs).length) :
    shrinkF xs used n = some (joinsL ((listF xs).take n.toNat), dif used (maskN ((listF xs).drop n.toNat))) := by
  rw [shrinkF, if_pos ⟨h, h0, h1⟩, dropL_mask used _ hu (fun b hb => (listF_range xs b (List.mem_of_mem_drop hb)).1)]

set_option maxHeartbeats 800000 in
set_option maxRecDepth 100000 in
theorem rshrink_calls (v : Value) (xs : List (Int × Int)) (used : Nat) (n : Int) (w : World) (hlen : xs.length ≤ 100) (hu : used < 2 ^ 32) (hv : Sl w v xs.length (extCells xs)) (hn1 : -9223372036854775808 ≤ n) (hn2 : n < 9223372036854775808) :
    Calls Tryz.prog 102 #[v, .int .u32 used, .int .i64 n] w (ShrinkPost w (shrinkF xs used n)) := by
  have HB := Lib.hid (rblocks_calls v xs w hlen hv)
  obtain ⟨a, cap, rfl⟩ := hv.form
  have hll := listF_length xs
  have HLR := Lib.hid (listF_range xs)
  cases hb : blocksOk xs with
  | false =>
    have hres : shrinkF xs used n = none := by rw [shrinkF, if_neg]; rw [blocksOk] at hb; simp [hb]
    rw [hres]
    clear hres hv hn1 hn2
    go_enter Tryz.func102, Tryz.ntmps102
    go_wp2_with (go_at_call 99; refine HB.out.mono ?_; rintro e w1 ⟨hF1, r, rfl, hr⟩; rw [hb]; obtain ⟨a2, cap2, rfl⟩ := (Sl.of_owns hr).form)
    go_ret3
    exact ⟨hF1, rfl⟩
  | true =>
    by_cases h0 : 0 ≤ n
    · by_cases h1 : n ≤ (listF xs).length
      · have hres := shrink_res xs used n hu hb h0 h1
        rw [hres]
        obtain ⟨k, rfl⟩ := Int.eq_ofNat_of_zero_le h0
        rw [Int.toNat_natCast]
        obtain ⟨hm1, hm2⟩ := maskL_nat ((listF xs).drop k) (fun b hb => (listF_range xs b (List.mem_of_mem_drop hb)).2)
        have HO := Lib.hid (And.intro hm1 (andNot_u32 used (maskN ((listF xs).drop k))))
        have h1' : k ≤ (listF xs).length := by omega
        clear hres hv hn1 hn2 hm1 hm2
        go_enter Tryz.func102, Tryz.ntmps102
        go_wp2_with (go_at_call 99; refine HB.out.mono ?_; rintro e w1 ⟨hF1, r, rfl, hr⟩; rw [hb]; obtain ⟨a2, cap2, rfl⟩ := (Sl.of_owns hr).form)
        have hsl := Sl.of_owns hr
        have hcap := hsl.le
        have hc0 : (k : Int) ≤ (cap2 : Int) := by omega
        have hst := hsl.take h1' 1
        have hsd := hsl.drop h1' (size := 1) (by simp [ints])
        rw [Nat.mul_one] at hst hsd
        rw [show (ints (listF xs)).take k = ints ((listF xs).take k) by simp [ints]] at hst
        rw [show (ints (listF xs)).drop k = ints ((listF xs).drop k) by simp [ints]] at hsd
        have hlt1 : ((listF xs).take k).length = k := by rw [List.length_take]; omega
        have hlt2 : ((listF xs).drop k).length = (listF xs).length - k := List.length_drop
        have HS1 := Lib.hid (fun W (h : Fr No w1 W) => show Sl W (.slice a2 k cap2) ((listF xs).take k).length (ints ((listF xs).take k)) from by rw [hlt1]; exact hst.fr0 h)
        have HS2 := Lib.hid (fun W (h : Fr No w1 W) => hsd.fr0 h)
        have HLL := Lib.hid (And.intro hlt1 hlt2)
        have HT := Lib.hid (fun b (hb : b ∈ (listF xs).take k) => HLR.out b (List.mem_of_mem_take hb))
        have HD := Lib.hid (fun b (hb : b ∈ (listF xs).drop k) => HLR.out b (List.mem_of_mem_drop hb))
        have hl1 : ((listF xs).take k).length ≤ 1000 := by omega
        clear hst hsd hsl hlt1 hlt2
        by_cases hck : cap2 = k
        · subst hck
          have HS3 := Lib.hid (fun W (h : Fr No w1 W) => show Sl W (.slice a2 0 0) ((listF xs).drop cap2).length (ints ((listF xs).drop cap2)) from by
            have := HS2.out W h; rw [if_pos rfl, show (listF xs).length - cap2 = 0 by omega, Nat.sub_self] at this; rw [HLL.out.2, show (listF xs).length - cap2 = 0 by omega]; exact this)
          go_region_with (first | (go_at_call 125; ((with_reducible refine (extents_calls _ ((listF xs).take cap2) _ hl1 HT.out (HS1.out _ (Fr.refl _ _).drew)).mono ?_); rintro e w4 ⟨r4, rfl, hrow4, hF4⟩)) | (go_at_call 107; ((with_reducible refine (set_calls _ ((listF xs).drop cap2) _ (by have := HLL.out.2; omega) HD.out (HS3.out _ ((Fr.refl _ _).drew.trans hF4))).mono ?_); rintro e w5 ⟨rfl, rfl⟩)))
          all_goals
            go_wp2
            go_ret3
            refine ⟨(hF1.trans (Fr.refl _ _).drew).trans hF4, r4, ?_, ?_⟩
            · rw [HO.out.1, HO.out.2]; rfl
            · exact ownsRow_base hrow4 (by have := hF1.size; simpa using this)
        · have HS3 := Lib.hid (fun W (h : Fr No w1 W) => show Sl W (.slice (a2.map (·.add k)) ((listF xs).length - k) (cap2 - k)) ((listF xs).drop k).length (ints ((listF xs).drop k)) from by
            have := HS2.out W h; rw [if_neg hck] at this; rw [HLL.out.2]; exact this)
          go_region_with (first | (go_at_call 125; ((with_reducible refine (extents_calls _ ((listF xs).take k) _ hl1 HT.out (HS1.out _ (Fr.refl _ _).drew)).mono ?_); rintro e w4 ⟨r4, rfl, hrow4, hF4⟩)) | (go_at_call 107; ((with_reducible refine (set_calls _ ((listF xs).drop k) _ (by have := HLL.out.2; omega) HD.out (HS3.out _ ((Fr.refl _ _).drew.trans hF4))).mono ?_); rintro e w5 ⟨rfl, rfl⟩)))
          all_goals
            go_wp2
            go_ret3
            refine ⟨(hF1.trans (Fr.refl _ _).drew).trans hF4, r4, ?_, ?_⟩
            · rw [HO.out.1, HO.out.2]; rfl
            · exact ownsRow_base hrow4 (by have := hF1.size; simpa using this)
      · have hres : shrinkF xs used n = none := by rw [shrinkF, if_neg (by omega)]
        rw [hres]
        have h1' : ((listF xs).length : Int) < n := by omega
        clear hres hv hn1 hn2 h1
        go_enter Tryz.func102, Tryz.ntmps102
        go_wp2_with (go_at_call 99; refine HB.out.mono ?_; rintro e w1 ⟨hF1, r, rfl, hr⟩; rw [hb]; obtain ⟨a2, cap2, rfl⟩ := (Sl.of_owns hr).form)
        go_ret3
        exact ⟨hF1, rfl⟩
    · have hres : shrinkF xs used n = none := by rw [shrinkF, if_neg (by omega)]
      rw [hres]
      clear hres hv hn1 hn2
      go_enter Tryz.func102, Tryz.ntmps102
      go_wp2_with (go_at_call 99; refine HB.out.mono ?_; rintro e w1 ⟨hF1, r, rfl, hr⟩; rw [hb]; obtain ⟨a2, cap2, rfl⟩ := (Sl.of_owns hr).form)
      go_ret3
      exact ⟨hF1, rfl⟩

end Go.Proofs.YtoajnmbbgbpbgaaGreat
namespace Go.Proofs.YtoajnmbbgbpbgaaGreat
set_option linter.unusedVariables false
set_option linter.unusedSimpArgs false
open Go.RowKit Go.Shelf
attribute [local go_sem high] eqA_ext

theorem same_fr {w w' : World} {n : Nat} (h : w' = w.drewN n) : Fr No w w' := by subst h; exact (Fr.refl _ _).drewN _

/-- What a call that makes a list, a set and an error's number comes to: an error's number, or extents and a set. -/
def TriPost (w : World) (res : Int ⊕ (List (Int × Int) × Nat)) (e : Ending) (w' : World) : Prop :=
  Fr No w w' ∧ match res with
    | .inr (out, u) => ∃ r, e = .returned (.tuple #[r, .int .u32 u, .int .i64 0]) ∧ w'.ownsRow w.heap.size 139 2 r out.length (extCells out)
    | .inl er => e = .returned (.tuple #[.slice none 0 0, .int .u32 0, .int .i64 er])

def growT (xs : List (Int × Int)) (used : Nat) (n : Int) : Int ⊕ (List (Int × Int) × Nat) :=
  if okB (blkSeq (-1) xs) = true ∧ 0 ≤ n then (match growF xs used n with | some p => .inr p | none => .inl 50) else .inl 1
def shrinkT (xs : List (Int × Int)) (used : Nat) (n : Int) : Int ⊕ (List (Int × Int) × Nat) :=
  match shrinkF xs used n with | some p => .inr p | none => .inl 1

theorem growT_calls (v : Value) (xs : List (Int × Int)) (used : Nat) (n : Int) (w : World) (hlen : xs.length ≤ 100) (hu : used < 2 ^ 32) (hn2 : n < 9223372036854775808) (hv : Sl w v xs.length (extCells xs)) :
    Calls Tryz.prog 119 #[v, .int .u32 used, .int .i64 n] w (TriPost w (growT xs used n)) := by
  rw [growT]
  by_cases hc : okB (blkSeq (-1) xs) = true ∧ 0 ≤ n
  · rw [if_pos hc]
    refine (grow_ok v xs used n w hlen hu hv hc.1 hc.2 hn2).mono ?_
    rintro e w' ⟨hF, h⟩
    refine ⟨hF, ?_⟩
    cases hg : growF xs used n with
    | none => rw [hg] at h; exact h
    | some p => rw [hg] at h; exact h
  · rw [if_neg hc]
    exact (grow_bad v xs used n w hlen hv hc).mono fun e w' ⟨h1, h2⟩ => ⟨h1, h2⟩
theorem rgrowT_calls (v : Value) (xs : List (Int × Int)) (used : Nat) (n : Int) (w : World) (hlen : xs.length ≤ 100) (hu : used < 2 ^ 32) (hn2 : n < 9223372036854775808) (hv : Sl w v xs.length (extCells xs)) :
    Calls Tryz.prog 101 #[v, .int .u32 used, .int .i64 n] w (TriPost w (growT xs used n)) := by
  rw [growT]
  by_cases hc : okB (blkSeq (-1) xs) = true ∧ 0 ≤ n
  · rw [if_pos hc, grow_same xs used n hc.2 hc.1]
    refine (rgrow_ok v xs used n w hlen hu hv hc.1 hc.2 hn2).mono ?_
    rintro e w' ⟨hF, h⟩
    refine ⟨hF, ?_⟩
    cases hg : growR xs used n with
    | none => rw [hg] at h; exact h
    | some p => rw [hg] at h; exact h
  · rw [if_neg hc]
    exact (rgrow_bad v xs used n w hlen hv hc).mono fun e w' ⟨h1, h2⟩ => ⟨h1, h2⟩
theorem shrinkT_calls (v : Value) (xs : List (Int × Int)) (used : Nat) (n : Int) (w : World) (hlen : xs.length ≤ 100) (hu : used < 2 ^ 32) (hn1 : -9223372036854775808 ≤ n) (hn2 : n < 9223372036854775808) (hv : Sl w v xs.length (extCells xs)) :
    Calls Tryz.prog 118 #[v, .int .u32 used, .int .i64 n] w (TriPost w (shrinkT xs used n)) := by
  refine (shrink_calls v xs used n w hlen hu hv hn1 hn2).mono ?_
  rintro e w' ⟨hF, h⟩
  refine ⟨hF, ?_⟩
  rw [shrinkT]
  cases hg : shrinkF xs used n with
  | none => rw [hg] at h; exact h
  | some p => rw [hg] at h; exact h
theorem rshrinkT_calls (v : Value) (xs : List (Int × Int)) (used : Nat) (n : Int) (w : World) (hlen : xs.length ≤ 100) (hu : used < 2 ^ 32) (hn1 : -9223372036854775808 ≤ n) (hn2 : n < 9223372036854775808) (hv : Sl w v xs.length (extCells xs)) :
    Calls Tryz.prog 102 #[v, .int .u32 used, .int .i64 n] w (TriPost w (shrinkT xs used n)) := by
  refine (rshrink_calls v xs used n w hlen hu hv hn1 hn2).mono ?_
  rintro e w' ⟨hF, h⟩
  refine ⟨hF, ?_⟩
  rw [shrinkT]
  cases hg : shrinkF xs used n with
  | none => rw [hg] at h; exact h
  | some p => rw [hg] at h; exact h

theorem growT_len (xs : List (Int × Int)) (used : Nat) (n : Int) (hlen : xs.length ≤ 100) (out : List (Int × Int)) (u : Nat) (h : growT xs used n = .inr (out, u)) : out.length ≤ 1000 := by
  have key : ∀ (d : Nat) (o : List (Int × Int)) (us : Nat) (m : Int), growL d o us m = some (out, u) → out.length ≤ o.length + d := by
    intro d
    induction d with
    | zero => intro o us m h; rw [growL] at h; split at h <;> simp at h; rw [h.1]; omega
    | succ d ih =>
      intro o us m h
      rw [growL] at h
      split at h
      · simp at h; rw [h.1]; omega
      · split at h
        · have := ih _ _ _ h; omega
        · have := ih _ _ _ h; have := joinF_length o ((31 - d : Nat) : Int); omega
  rw [growT] at h
  split at h
  · cases hg : growF xs used n with
    | none => rw [hg] at h; cases h
    | some p => rw [hg] at h; cases h; have := key 23 xs used n hg; omega
  · cases h
theorem shrinkT_len (xs : List (Int × Int)) (used : Nat) (n : Int) (out : List (Int × Int)) (u : Nat) (h : shrinkT xs used n = .inr (out, u)) : out.length ≤ 1000 := by
  rw [shrinkT] at h
  cases hg : shrinkF xs used n with
  | none => rw [hg] at h; cases h
  | some p =>
    rw [hg] at h
    cases h
    rw [shrinkF] at hg
    split at hg
    · cases hg
      have h1 := (joinsL_fine ((listF xs).take n.toNat) (fun b hb => listF_range xs b (List.mem_of_mem_take hb))).2
      have h2 := listF_length xs
      rw [List.length_take] at h1; omega
    · cases hg

end Go.Proofs.YtoajnmbbgbpbgaaGreat
namespace Go.Proofs.YtoajnmbbgbpbgaaGreat
set_option linter.unusedVariables false
set_option linter.unusedSimpArgs false
open Go.RowKit Go.Shelf

def endOf (e : Int) (l : List (Int × Int)) : Int := match l.getLast? with | none => e | some x => x.1 + x.2
theorem endOf_cons (e : Int) (x : Int × Int) (l : List (Int × Int)) : endOf (x.1 + x.2) l = endOf e (x :: l) := by
  cases l with
  | nil => rfl
  | cons y l => simp [endOf, List.getLast?_cons]
theorem blkSeq_append (l m : List (Int × Int)) (e : Int) (h : ∀ b ∈ blkSeq e l, 0 ≤ b) : blkSeq e (l ++ m) = blkSeq e l ++ blkSeq (endOf e l) m := by
  induction l generalizing e with
  | nil => rfl
  | cons x l ih =>
    rw [List.cons_append, blkSeq, blkSeq] at *
    by_cases hb : badX e x = true
    · rw [if_pos hb] at h; have := h (-1) (by simp); omega
    · rw [if_neg hb] at h ⊢
      rw [if_neg hb, ih _ (fun b hb => h b (List.mem_append.2 (.inr hb))), endOf_cons e, List.append_assoc]
theorem blkSeq_pre (l m : List (Int × Int)) (e : Int) (c : Int) (h : c ∈ blkSeq e l) : c ∈ blkSeq e (l ++ m) := by
  induction l generalizing e with
  | nil => cases h
  | cons x l ih =>
    rw [List.cons_append]
    rw [blkSeq] at h ⊢
    split at h
    · rename_i hb; rw [if_pos hb]; exact h
    · rename_i hb
      rw [if_neg hb]
      rcases List.mem_append.1 h with h | h
      · exact List.mem_append.2 (.inl h)
      · exact List.mem_append.2 (.inr (ih _ h))
theorem run_snoc (x1 x2 : Int) (h : 0 ≤ x2) : run (x1, x2 + 1) = run (x1, x2) ++ [x1 + x2] := by
  obtain ⟨k, rfl⟩ := Int.eq_ofNat_of_zero_le h
  have : ((k : Int) + 1).toNat = k + 1 := by omega
  simp only [run, this, Int.toNat_natCast, List.range_succ, List.map_append, List.map_cons, List.map_nil]
theorem blkSeq_joins (L : List Int) (h : ∀ b ∈ L, 9 ≤ b ∧ b < 32) : blkSeq (-1) (joinsL L) = L := by
  rcases List.eq_nil_or_concat L with rfl | ⟨L', b, e⟩
  · rfl
  · rw [List.concat_eq_append] at e
    have hb := h b (by simp [e])
    have ih := blkSeq_joins L' (fun c hc => h c (by simp [e, hc]))
    have hg : ∀ c ∈ blkSeq (-1) (joinsL L'), 0 ≤ c := fun c hc => by rw [ih] at hc; have := h c (by simp [e, hc]); omega
    rw [e, joinsL_snoc]
    generalize joinsL L' = l at *
    rcases List.eq_nil_or_concat l with rfl | ⟨l', ⟨x1, x2⟩, el⟩
    · simp only [joinF, List.getLast?_nil, blkSeq]
      rw [if_neg (by simp [badX]; omega)]
      rw [← ih]; simp [blkSeq, run]
    · rw [List.concat_eq_append] at el
      subst el
      by_cases hx : x1 + x2 = b
      · rw [joinF_hit _ _ _ _ hx]
        have hg' : ∀ c ∈ blkSeq (-1) l', 0 ≤ c := fun c hc => hg c (blkSeq_pre l' [(x1, x2)] (-1) c hc)
        rw [blkSeq_append _ _ _ hg'] at ih hg ⊢
        rw [blkSeq] at ih hg ⊢
        by_cases hbd : badX (endOf (-1) l') (x1, x2) = true
        · rw [if_pos hbd] at hg; have := hg (-1) (by simp); omega
        · rw [if_neg hbd] at ih hg
          have hbd' : badX (endOf (-1) l') (x1, x2) = false := by simpa using hbd
          simp only [badX, Bool.or_eq_false_iff, decide_eq_false_iff_not] at hbd'
          rw [if_neg (by simp [badX]; omega), run_snoc _ _ (by omega), ← ih, hx]
          simp [blkSeq]
      · rw [joinF_miss _ _ _ _ hx, blkSeq_append _ _ _ hg, ih]
        congr 1
        have : endOf (-1) (l' ++ [(x1, x2)]) = x1 + x2 := by simp [endOf]
        rw [this, blkSeq, if_neg (by simp [badX]; omega)]
        simp [blkSeq, run]
termination_by L.length
decreasing_by subst e; simp
theorem moreF_all (u : Nat) (n : Int) (d : Nat) (acc : List Int) (hd : d ≤ 23) (ha : ∀ b ∈ acc, 9 ≤ b ∧ b < 32 - (d : Int) ∧ u.testBit b.toNat = false) (hnd : acc.Nodup) (hl : (acc.length : Int) ≤ n) :
    (∀ b ∈ moreF u n d acc, 9 ≤ b ∧ b < 32 ∧ u.testBit b.toNat = false) ∧ (moreF u n d acc).Nodup ∧ ((moreF u n d acc).length : Int) ≤ n := by
  induction d generalizing acc with
  | zero => exact ⟨fun b hb => by have := ha b hb; exact ⟨this.1, by omega, this.2.2⟩, hnd, hl⟩
  | succ d ih =>
    rw [moreF]
    split
    · split
      · exact ih acc (by omega) (fun b hb => by have := ha b hb; exact ⟨this.1, by omega, this.2.2⟩) hnd hl
      · rename_i ht
        refine ih _ (by omega) (fun b hb => ?_) ?_ (by simp; omega)
        · rcases List.mem_append.1 hb with hb | hb
          · have := ha b hb; exact ⟨this.1, by omega, this.2.2⟩
          · simp at hb; subst hb
            have h1 : ((31 - d : Nat) : Int).toNat = 31 - d := by omega
            exact ⟨by omega, by omega, by rw [h1]; simpa using ht⟩
        · rw [List.nodup_append]
          refine ⟨hnd, by simp, fun a hba b hb e => ?_⟩
          simp at hb
          have := ha a hba; omega
    · exact ⟨fun b hb => by have := ha b hb; exact ⟨this.1, by omega, this.2.2⟩, hnd, hl⟩
theorem joinsL_length (L : List Int) (l : List (Int × Int)) : (L.foldl joinF l).length ≤ l.length + L.length := by
  induction L generalizing l with
  | nil => simp
  | cons b L ih => have := ih (joinF l b); have h2 := joinF_length l b; simp only [List.foldl_cons, List.length_cons]; omega
theorem dif_or (u : Nat) (m : List Int) (hu : u < 2 ^ 32) (h : ∀ b ∈ m, 9 ≤ b ∧ b < 32 ∧ u.testBit b.toNat = false) : dropL (u ||| maskN m) m = u := by
  have hm := (maskL_nat m (fun b hb => (h b hb).2.1)).2
  rw [dropL_mask _ _ (Nat.or_lt_two_pow hu hm) (fun b hb => by have := h b hb; omega)]
  apply Nat.eq_of_testBit_eq
  intro i
  rw [dif_testBit, Nat.testBit_or, maskN_testBit m (fun b hb => by have := h b hb; omega)]
  by_cases hi : i < 32
  · by_cases hin : (i : Int) ∈ m
    · have := (h _ hin).2.2; simp only [Int.toNat_natCast] at this; simp [hin, this]
    · simp [hi, hin]
  · rw [Nat.testBit_lt_two_pow (Nat.lt_of_lt_of_le hu (Nat.pow_le_pow_right (by decide) (by omega)))]; simp [hi]

def backOk (xs : List (Int × Int)) (u : Nat) (n : Int) : Int ⊕ (List (Int × Int) × Nat) → Prop
  | .inl er => er = 50 ∧ 0 < n
  | .inr (out, u') => u' < 2 ^ 32 ∧ out.length ≤ 100 ∧ shrinkT out u' (listF xs).length = .inr (xs, u) ∧ ((listF out).length : Int) = (listF xs).length + n

theorem back_pure (xs : List (Int × Int)) (used : Nat) (n : Int) (hu : used < 2 ^ 32) (hn : 0 ≤ n) (h : okB (blkSeq (-1) xs) = true) :
    backOk xs (used ||| maskN (listF xs)) n (growT xs (used ||| maskN (listF xs)) n) := by
  have hr := listF_range xs
  have hlf : listF xs = blkSeq (-1) xs := by rw [listF, if_pos h]
  have hok := of_decide_eq_true h
  have hul : used ||| maskN (listF xs) < 2 ^ 32 := Nat.or_lt_two_pow hu (maskL_nat _ (fun b hb => (hr b hb).2)).2
  have hin : ∀ b ∈ listF xs, (used ||| maskN (listF xs)).testBit b.toNat = true := fun b hb => by
    rw [Nat.testBit_or, maskN_testBit _ (fun b hb => (hr b hb).1)]
    have := hr b hb
    rw [Int.toNat_of_nonneg this.1]; simp [hb]
  have hr9 : ∀ b ∈ listF xs, 9 ≤ b ∧ b < 32 := fun b hb => by
    have h1 := hr b hb
    rw [hlf] at hb
    rcases blkSeq_range xs (-1) b hb with h2 | h2 <;> omega
  have hjl := joinsL_list xs h
  have hll := listF_length xs
  have hndl : (listF xs).Nodup := by rw [hlf]; exact hok.2
  generalize used ||| maskN (listF xs) = u at *
  rw [growT, if_pos ⟨h, hn⟩, grow_same xs u n hn h, growR]
  obtain ⟨m1, m2, m3⟩ := moreF_all u n 23 [] (by omega) (by simp) (by simp) (by simpa using hn)
  have m4 := moreF_length u n 23 []
  try dsimp only
  generalize moreF u n 23 [] = more at *
  simp only [List.length_nil] at m4
  by_cases hc : (more.length : Int) < n
  · rw [if_pos hc]; exact ⟨rfl, by omega⟩
  · rw [if_neg hc]
    have hL : ∀ b ∈ listF xs ++ more, 9 ≤ b ∧ b < 32 := fun b hb => by
      rcases List.mem_append.1 hb with hb | hb
      · exact hr9 b hb
      · have := m1 b hb; omega
    have hB := blkSeq_joins _ hL
    have hnd : (listF xs ++ more).Nodup := by
      rw [List.nodup_append]
      refine ⟨hndl, m2, fun a ha b hb e => ?_⟩
      subst e
      have h1 := hin a ha; have h2 := (m1 a hb).2.2
      rw [h1] at h2; cases h2
    have hokL : okB (blkSeq (-1) (joinsL (listF xs ++ more))) = true := by
      rw [hB]; exact decide_eq_true ⟨fun b hb => by have := hL b hb; omega, hnd⟩
    have hlo : listF (joinsL (listF xs ++ more)) = listF xs ++ more := by rw [listF, if_pos hokL, hB]
    refine ⟨Nat.or_lt_two_pow hul (maskL_nat _ (fun b hb => (m1 b hb).2.1)).2, ?_, ?_, ?_⟩
    · have := joinsL_length (listF xs ++ more) []
      rw [joinsL]; simp only [List.length_append, List.length_nil] at this ⊢; omega
    · rw [shrinkT, shrinkF, if_pos ⟨hokL, by omega, by rw [hlo, List.length_append]; omega⟩, hlo]
      simp only [Int.toNat_natCast, List.take_left, List.drop_left, hjl]
      rw [dif_or u more hul m1]
    · rw [hlo, List.length_append]; omega

theorem maskL_or (used : Nat) (xs : List (Int × Int)) (hu : used < 2 ^ 32) : bits .or .u32 (used : Int) (maskL (listF xs)) = ((used ||| maskN (listF xs) : Nat) : Int) := by
  obtain ⟨h1, h2⟩ := maskL_nat (listF xs) (fun b hb => (listF_range xs b hb).2)
  rw [h1]; exact or_u32 _ _ hu h2

end Go.Proofs.YtoajnmbbgbpbgaaGreat
namespace Go.Proofs.YtoajnmbbgbpbgaaGreat
set_option linter.unusedVariables false
set_option linter.unusedSimpArgs false
open Go.RowKit Go.Shelf

/-- Bytes, as cells. -/
def bys (l : List Int) : List Value := l.map fun x => .int .u8 x
theorem bys_get (l : List Int) (k : Nat) (h : k < l.length) : (bys l)[k]? = some (.int .u8 l[k]) := by simp [bys, h]
theorem bys_ne (l : List Int) (k : Nat) (h : k < l.length) : bys l ≠ [] := by intro e; have := bys_get l k h; rw [e] at this; simp at this
theorem bys_len (l : List Int) : (bys l).length = l.length := by simp [bys]
/-- The number of k bytes from 'at' on, the lowest first. -/
def numL (l : List Int) (at_ : Nat) : Nat → Int
  | 0 => 0
  | k + 1 => bits .or .u64 (numL l at_ k) (IntKind.u64.wrap (l.getD (at_ + k) 0 * 2 ^ (8 * k)))

set_option maxRecDepth 100000 in
theorem rnum_calls (v : Value) (l : List Int) (at_ K : Nat) (w : World) (hK : K ≤ 8) (hl : at_ + K ≤ l.length) (hlen : l.length ≤ 1000000) (h0 : ∀ b ∈ l, 0 ≤ b ∧ b < 256) (hv : Sl w v l.length (bys l)) :
    Calls Tryz.prog 134 #[v, .int .i64 at_, .int .i64 K] w fun e w' => e = .returned (.int .u64 (numL l at_ K)) ∧ w = w' := by
  obtain ⟨a, cap, rfl⟩ := hv.form
  go_enter Tryz.func134, Tryz.ntmps134
  go_wp2
  go_loop [7, 8] (fun s i => ∃ k : Nat, k ≤ K ∧ i = .int .i64 k ∧ s = .int .u64 (numL l at_ k)) (fun _ i => K - (intOf i).toNat)
  case atStart => exact ⟨0, Nat.zero_le _, rfl, rfl⟩
  case round =>
    obtain ⟨k, hk, rfl, rfl⟩ := hrel
    by_cases hlt : k < K
    · have hin : at_ + k < l.length := by omega
      obtain ⟨b, off, rfl, hb, hc⟩ := hv.at (bys_ne _ _ hin)
      have hc1 := hc _ _ (bys_get _ _ hin)
      have hx := h0 _ (List.getElem_mem hin)
      have hs : numL l at_ (k + 1) = bits .or .u64 (numL l at_ k) (IntKind.u64.wrap (l[at_ + k] * 2 ^ (8 * k))) := by rw [numL]; simp [List.getD, hin]
      revert hc1 hx hs
      generalize l[at_ + k] = x
      intro hc1 hx hs
      have HS := Lib.hid hs
      obtain ⟨hx0, hx1⟩ := hx
      clear hs h0 hc hv
      go_wp2
      go_round
      case rel => exact ⟨k + 1, by omega, by go_num, by rw [HS.out]⟩
      case measure => simp [intOf]; omega
    · go_wp2
      go_ret
      exact ⟨by rw [show k = K by omega]; rfl, rfl⟩
end Go.Proofs.YtoajnmbbgbpbgaaGreat
namespace Go.Proofs.YtoajnmbbgbpbgaaGreat
set_option linter.unusedVariables false
set_option linter.unusedSimpArgs false
open Go.RowKit Go.Shelf

theorem el_u8 : Elem Tryz.prog 22 5 (.int .u8 0) 1 1 := ⟨by kernel_rfl, by kernel_rfl, rfl, by decide⟩
/-- A number's lowest k bytes laid down from 'at' on. -/
def putL (l : List Int) (at_ : Nat) (n : Int) : Nat → List Int
  | 0 => l
  | k + 1 => (putL l at_ n k).set (at_ + k) (IntKind.u8.wrap (n / 2 ^ (8 * k)))
theorem putL_length (l : List Int) (at_ : Nat) (n : Int) (k : Nat) : (putL l at_ n k).length = l.length := by
  induction k with
  | zero => rfl
  | succ k ih => rw [putL, List.length_set, ih]
theorem bys_set (l : List Int) (j : Nat) (x : Int) : (bys l).set j (.int .u8 x) = bys (l.set j x) := by simp [bys, List.map_set]
theorem bys_one (l : List Int) : ∀ u ∈ bys l, u.oneCell' = true := by
  intro u hu; simp only [bys, List.mem_map] at hu; obtain ⟨x, _, rfl⟩ := hu; rfl

set_option maxRecDepth 100000 in
theorem rput_calls (v : Value) (l : List Int) (at_ K : Nat) (n : Int) (w : World) (hK : K ≤ 8) (hl : at_ + K ≤ l.length) (hlen : l.length ≤ 1000000) (hn : 0 ≤ n ∧ n < 18446744073709551616) (hne : 0 < l.length) (hv : Sl w v l.length (bys l)) :
    Calls Tryz.prog 92 #[v, .int .i64 at_, .int .i64 K, .int .u64 n] w fun e w' => ∃ r, e = .returned r ∧ Fr No w w' ∧ w'.ownsRow w.heap.size 5 1 r l.length (bys (putL l at_ n K)) := by
  obtain ⟨a, cap, rfl⟩ := hv.form
  go_enter Tryz.func92, Tryz.ntmps92
  go_wp2_with (at_builtin; refine append_sl el_u8 rfl _ _ rfl w.heap.size (.slice none 0 0) 0 [] rfl (World.ownsRow_nil _ _ _ _) rfl hv (by rw [bys_len, Nat.mul_one]) (bys_one l) (by unfold maxLen; omega) (by omega) (by omega) ?_; intro v' w3 hown' hgrow)
  rw [Nat.zero_add, List.nil_append] at hown'
  have hF3 : Fr No w w3 := (Fr.refl _ _).grown hgrow (fun k e _ => by cases e)
  obtain ⟨g, cap', rfl, hg1, hg2⟩ := World.ownsRow.form hown' hne
  clear hv
  go_loopw [10] (fun i wr => ∃ k : Nat, k ≤ K ∧ i = .int .i64 k ∧ wr.ownsRow w.heap.size 5 1 (.slice (some ⟨g, 0, none⟩) l.length cap') l.length (bys (putL l at_ n k)) ∧ Fr No w wr) (fun i _ => K - (intOf i).toNat)
  case atStart => exact ⟨0, Nat.zero_le _, rfl, hown', hF3⟩
  case round =>
    obtain ⟨k, hk, rfl, hrow, hFr⟩ := hrel
    by_cases hlt : k < K
    · have hin : at_ + k < (putL l at_ n k).length := by rw [putL_length]; omega
      have hc1 := (hrow.cellAt (at_ + k) (by omega)).trans (bys_get _ _ hin)
      have f1 := hrow.frozenAt (at_ + k)
      have hst := hrow.stored (at_ + k) (.int .u8 (IntKind.u8.wrap (n / 2 ^ (8 * k))))
      rw [bys_set] at hst
      have HST := Lib.hid hst
      obtain ⟨hn1, hn2⟩ := hn
      revert hc1
      generalize (putL l at_ n k)[at_ + k] = y0
      intro hc1
      clear hst hrow hin
      go_wp2
      go_roundw
      case rel =>
        obtain ⟨q1, q2⟩ := HST.out
        exact ⟨k + 1, by omega, by go_num, by rw [putL]; exact q1, hFr.grown q2 (fun k e hk => by cases e; omega)⟩
      case measure => simp [intOf]; omega
    · go_wp2
      go_ret
      exact ⟨_, rfl, hFr, by rw [show K = k by omega]; exact hrow⟩
end Go.Proofs.YtoajnmbbgbpbgaaGreat
namespace Go.Proofs.YtoajnmbbgbpbgaaGreat
set_option linter.unusedVariables false
set_option linter.unusedSimpArgs false
open Go.RowKit Go.Shelf

set_option maxRecDepth 100000 in
theorem each_calls (fid : Nat) (c0 c1 : Value) (I : Nat → World → Prop) (len : Nat) (at_ K : Nat) (w : World) (hK : K ≤ 8) (hl : at_ + K ≤ len) (hlen : len ≤ 1000000) (a : Option Addr) (cap : Nat) (h0 : I 0 w) (hfid : ∀ args w, (callFunc fid args).run Tryz.prog w = .ok (.enter fid args) w)
    (hs : ∀ k w, k < K → I k w → Calls Tryz.prog fid #[.int .i64 ((at_ + k : Nat) : Int), .int .i64 k, c0, c1] w fun e w' => e = .returned (.tuple #[]) ∧ I (k + 1) w') :
    Calls Tryz.prog 114 #[.slice a len cap, .int .i64 at_, .int .i64 K, .func (.func fid) #[] #[c0, c1]] w fun e w' => e = .returned (.tuple #[]) ∧ I K w' := by
  have HS := Lib.hid hs
  clear hs
  go_enter Tryz.func114, Tryz.ntmps114
  go_wp2
  go_loopw [13] (fun i wr => ∃ k : Nat, k ≤ K ∧ i = .int .i64 k ∧ I k wr) (fun i _ => K - (intOf i).toNat)
  case atStart => exact ⟨0, Nat.zero_le _, rfl, h0⟩
  case round =>
    obtain ⟨k, hk, rfl, hI⟩ := hrel
    by_cases hlt : k < K
    · have HC := Lib.hid (HS.out k _ hlt hI)
      have hw1 : ((at_ + k : Nat) : Int) = (at_ : Int) + k := by omega
      rw [hw1] at HC
      clear hI h0
      go_wp2_with fail
      refine HC.out.mono ?_
      rintro e w2 ⟨rfl, hI2⟩
      go_wp2
      go_roundw
      case rel => exact ⟨k + 1, by omega, by go_num, hI2⟩
      case measure => simp [intOf]; omega
    · go_wp2
      go_end0
      exact ⟨rfl, by rw [show K = k by omega]; exact hI⟩
set_option maxRecDepth 100000 in
theorem num1_calls (nb bb b off i k len cap : Nat) (n x : Int) (w : World) (hk : k < 8) (hi : i < len) (hlen : len ≤ 1000000) (hx : 0 ≤ x ∧ x < 256)
    (h1 : w.heap[nb]? = some (.cells #[.int .u64 n] 115 (0, 0))) (h2 : w.cell? ⟨bb, 0, none⟩ = some (.slice (some ⟨b, off, none⟩) len cap)) (h3 : w.cell? ⟨b, off + i, none⟩ = some (.int .u8 x)) :
    Calls Tryz.prog 136 #[.int .i64 i, .int .i64 k, .pointer (some ⟨nb, 0, none⟩), .pointer (some ⟨bb, 0, none⟩)] w fun e w' => e = .returned (.tuple #[]) ∧ w'.heap[nb]? = some (.cells #[.int .u64 (bits .or .u64 n (IntKind.u64.wrap (x * 2 ^ (8 * k))))] 115 (0, 0)) ∧ Fr (fun c => c = nb) w w' := by
  have c1 := heap_cell (o := 0) h1 rfl
  have f1 := heap_frozen (o := 0) h1
  obtain ⟨hx0, hx1⟩ := hx
  go_enter Tryz.func136, Tryz.ntmps136
  go_region
  go_end0
  exact ⟨rfl, heap_set _ h1, ((Fr.refl (fun c => c = nb) _).setCell (p := ⟨nb, 0, none⟩) (fun _ => rfl) _).drew⟩

set_option maxRecDepth 100000 in
theorem num_calls (v : Value) (l : List Int) (at_ K : Nat) (w : World) (hK : K ≤ 8) (hl : at_ + K ≤ l.length) (hlen : l.length ≤ 1000000) (h0 : ∀ b ∈ l, 0 ≤ b ∧ b < 256) (hne : 0 < l.length) (hv : Sl w v l.length (bys l)) :
    Calls Tryz.prog 127 #[v, .int .i64 at_, .int .i64 K] w fun e w' => e = .returned (.int .u64 (numL l at_ K)) ∧ Fr No w w' := by
  obtain ⟨a, cap, rfl⟩ := hv.form
  obtain ⟨b, off, rfl, hb, hc⟩ := hv.at (bys_ne l 0 hne)
  clear hv
  go_enter Tryz.func127, Tryz.ntmps127
  go_wp2_with fail
  have hF0 : Fr No w ((w.alloc (Obj.cells #[.slice (some ⟨b, off, none⟩) l.length cap] 22)).alloc (Obj.cells #[.int .u64 0] 115)) := ((Fr.refl _ _).alloc _).alloc _
  refine (each_calls 136 _ _ (fun k wr => wr.heap[w.heap.size + 1]? = some (.cells #[.int .u64 (numL l at_ k)] 115 (0, 0)) ∧ Fr (fun c => c = w.heap.size + 1) ((w.alloc (Obj.cells #[.slice (some ⟨b, off, none⟩) l.length cap] 22)).alloc (Obj.cells #[.int .u64 0] 115)) wr)
    l.length at_ K _ hK hl hlen _ cap ⟨?_, Fr.refl _ _⟩ (fun args w => rfl) ?_).mono ?_
  · simpa [numL] using heap_new (w.alloc (Obj.cells #[.slice (some ⟨b, off, none⟩) l.length cap] 22)) (Obj.cells #[.int .u64 0] 115)
  · rintro k wr hk ⟨hn, hF⟩
    have hin : at_ + k < l.length := by omega
    have hx := h0 _ (List.getElem_mem hin)
    have hbx : wr.cell? ⟨b, off + (at_ + k), none⟩ = some (.int .u8 l[at_ + k]) := hF.cell (hF0.cell (hc _ _ (bys_get _ _ hin)) (fun h => h)) (by omega)
    refine (num1_calls (w.heap.size + 1) w.heap.size b off (at_ + k) k l.length cap (numL l at_ k) l[at_ + k] wr (by omega) hin hlen hx hn ?_ hbx).mono ?_
    · exact hF.cell (heap_cell (heap_alloc _ (heap_new w _)) rfl) (by omega)
    · rintro e w' ⟨rfl, h1, h2⟩
      refine ⟨rfl, ?_, hF.trans h2⟩
      rw [numL]
      simpa [List.getD, hin] using h1
  · rintro e w' ⟨rfl, hn, hF⟩
    have c1 := heap_cell (o := 0) hn rfl
    go_wp2
    go_ret
    exact ⟨rfl, hF0.trans' hF (fun i hi e => by omega)⟩
end Go.Proofs.YtoajnmbbgbpbgaaGreat
namespace Go.Proofs.YtoajnmbbgbpbgaaGreat
set_option linter.unusedVariables false
set_option linter.unusedSimpArgs false
open Go.RowKit Go.Shelf

set_option maxRecDepth 100000 in
theorem put1_calls (nb ob g i k cap base : Nat) (l : List Int) (n : Int) (w : World) (hk : k < 8) (hi : i < l.length) (hlen : l.length ≤ 1000000) (hn : 0 ≤ n ∧ n < 18446744073709551616)
    (h1 : w.cell? ⟨nb, 0, none⟩ = some (.int .u64 n)) (h2 : w.cell? ⟨ob, 0, none⟩ = some (.slice (some ⟨g, 0, none⟩) l.length cap)) (hr : w.ownsRow base 5 1 (.slice (some ⟨g, 0, none⟩) l.length cap) l.length (bys l)) :
    Calls Tryz.prog 115 #[.int .i64 i, .int .i64 k, .pointer (some ⟨nb, 0, none⟩), .pointer (some ⟨ob, 0, none⟩)] w fun e w' => e = .returned (.tuple #[]) ∧ w'.ownsRow base 5 1 (.slice (some ⟨g, 0, none⟩) l.length cap) l.length (bys (l.set i (IntKind.u8.wrap (n / 2 ^ (8 * k))))) ∧ Fr (fun c => c = g) w w' := by
  have hc1 := (hr.cellAt i (by omega)).trans (bys_get _ _ hi)
  have f1 := hr.frozenAt i
  have hst := hr.stored i (.int .u8 (IntKind.u8.wrap (n / 2 ^ (8 * k))))
  rw [bys_set] at hst
  have HST := Lib.hid hst
  obtain ⟨hn0, hn1⟩ := hn
  revert hc1
  generalize l[i] = x
  intro hc1
  clear hr hst
  go_enter Tryz.func115, Tryz.ntmps115
  go_region
  go_end0
  obtain ⟨q1, q2⟩ := HST.out
  exact ⟨rfl, q1.drew, ((Fr.refl (fun c => c = g) _).setCell (p := ⟨g, i, none⟩) (fun _ => rfl) _).drew⟩

set_option maxRecDepth 100000 in
theorem put_calls (v : Value) (l : List Int) (at_ K : Nat) (n : Int) (w : World) (hK : K ≤ 8) (hl : at_ + K ≤ l.length) (hlen : l.length ≤ 1000000) (hn : 0 ≤ n ∧ n < 18446744073709551616) (hne : 0 < l.length) (hv : Sl w v l.length (bys l)) :
    Calls Tryz.prog 90 #[v, .int .i64 at_, .int .i64 K, .int .u64 n] w fun e w' => ∃ r, e = .returned r ∧ Fr No w w' ∧ w'.ownsRow w.heap.size 5 1 r l.length (bys (putL l at_ n K)) := by
  obtain ⟨a, cap, rfl⟩ := hv.form
  have hF3x : ∀ w3, (w.alloc (Obj.cells #[.int .u64 n] 115)).grownBy w3 (Value.slice none 0 0).ownBlock → w3.heap[w.heap.size]? = some (.cells #[.int .u64 n] 115 (0, 0)) := fun w3 h => (h.block _ (by simp) (by simp [Value.ownBlock])).trans (heap_new w _)
  have hv0 := hv.fr0 ((Fr.refl No w).alloc (Obj.cells #[.int .u64 n] 115))
  go_enter Tryz.func90, Tryz.ntmps90
  go_wp2_with (at_builtin; refine append_sl el_u8 rfl _ _ rfl w.heap.size (.slice none 0 0) 0 [] rfl (World.ownsRow_nil _ _ _ _) rfl hv0 (by rw [bys_len, Nat.mul_one]) (bys_one l) (by unfold maxLen; omega) (by omega) (by simp) ?_; intro v' w3 hown' hgrow; rw [Nat.zero_add, List.nil_append] at hown'; obtain ⟨g, cap', rfl, hg1, hg2⟩ := World.ownsRow.form hown' hne; have hF3 : Fr No w w3 := (((Fr.refl _ _).alloc _).grown hgrow (fun k e _ => by cases e)); have hn3 := hF3x w3 hgrow)
  have hgn : g ≠ w.heap.size := fun e => not_row hn3 (by decide) hown' (by simp [Value.ownBlock, e])
  have hF4 : Fr No w (w3.alloc (Obj.cells #[.slice (some ⟨g, 0, none⟩) l.length cap'] 22)) := hF3.alloc _
  refine (each_calls 115 _ _ (fun k wr => wr.ownsRow w.heap.size 5 1 (.slice (some ⟨g, 0, none⟩) l.length cap') l.length (bys (putL l at_ n k)) ∧ Fr (fun c => c = g) (w3.alloc (Obj.cells #[.slice (some ⟨g, 0, none⟩) l.length cap'] 22)) wr)
    l.length at_ K _ hK hl hlen _ cap ⟨hown'.alloc _, Fr.refl _ _⟩ (fun args w => rfl) ?_).mono ?_
  · rintro k wr hk ⟨hrow, hF⟩
    have c1 := hF.cell (heap_cell (o := 0) (heap_alloc (Obj.cells #[.slice (some ⟨g, 0, none⟩) l.length cap'] 22) hn3) rfl) (fun e => hgn e.symm)
    have c2 := hF.cell (heap_cell (o := 0) (heap_new w3 (Obj.cells #[.slice (some ⟨g, 0, none⟩) l.length cap'] 22)) rfl) (by omega)
    have hL := putL_length l at_ n k
    rw [← hL] at hrow c2
    refine (put1_calls w.heap.size w3.heap.size g (at_ + k) k cap' w.heap.size (putL l at_ n k) n wr (by omega) (by omega) (by omega) hn c1 c2 hrow).mono ?_
    rintro e w' ⟨rfl, h1, h2⟩
    rw [hL] at h1
    exact ⟨rfl, h1, hF.trans h2⟩
  · rintro e w' ⟨rfl, hrow, hF⟩
    have c2 := hF.cell (heap_cell (o := 0) (heap_new w3 (Obj.cells #[.slice (some ⟨g, 0, none⟩) l.length cap'] 22)) rfl) (by omega)
    go_wp2
    go_ret
    exact ⟨_, rfl, hF4.trans' hF (fun i hi e => by omega), hrow⟩
end Go.Proofs.YtoajnmbbgbpbgaaGreat
namespace Go.Proofs.YtoajnmbbgbpbgaaGreat
set_option linter.unusedVariables false
set_option linter.unusedSimpArgs false
open Go.RowKit Go.Shelf

/-- Block b holds the bytes l. -/
def Row (w : World) (b : Nat) (t : TypeId) (l : List Int) : Prop := w.heap[b]? = some (.cells (bys l).toArray t (0, 0))
theorem Row.new (w : World) (t : TypeId) (l : List Int) : Row (w.alloc (.cells (bys l).toArray t)) w.heap.size t l := heap_new _ _
theorem Row.cell {w : World} {b : Nat} {t : TypeId} {l : List Int} (h : Row w b t l) {i : Nat} (hi : i < l.length) : w.cell? ⟨b, i, none⟩ = some (.int .u8 l[i]) :=
  heap_cell h (by simpa using bys_get l i hi)
theorem Row.frozen {w : World} {b : Nat} {t : TypeId} {l : List Int} (h : Row w b t l) (i : Nat) : w.frozen? ⟨b, i, none⟩ = false := heap_frozen h
theorem Row.lt {w : World} {b : Nat} {t : TypeId} {l : List Int} (h : Row w b t l) : b < w.heap.size := heap_lt h
theorem Row.fr {S : Nat → Prop} {w w' : World} {b : Nat} {t : TypeId} {l : List Int} (h : Row w b t l) (hf : Fr S w w') (hn : ¬ S b) : Row w' b t l := hf.heap h hn
theorem Row.set {w : World} {b : Nat} {t : TypeId} {l : List Int} (h : Row w b t l) (i : Nat) (x : Int) : Row (w.setCell ⟨b, i, none⟩ (.int .u8 x)) b t (l.set i x) := by
  unfold Row at *
  rw [← bys_set]
  simp [World.setCell, Array.getElem?_modify, h]
theorem Row.sl {w : World} {b : Nat} {t : TypeId} {l : List Int} (h : Row w b t l) : Sl w (.slice (some ⟨b, 0, none⟩) l.length l.length) l.length (bys l) := by
  refine ⟨_, _, rfl, ⟨by simp, Nat.le_refl _⟩, fun _ => ⟨b, 0, rfl⟩, ?_⟩
  rintro b' off j u ⟨rfl, rfl⟩ hj
  rw [Nat.zero_add]
  exact heap_cell h (by simpa using hj)
/-- Bytes laid into a list from place o on. -/
def spl (l : List Int) (o : Nat) (m : List Int) : List Int := l.take o ++ m ++ l.drop (o + m.length)
theorem spl_length (l : List Int) (o : Nat) (m : List Int) (h : o + m.length ≤ l.length) : (spl l o m).length = l.length := by
  simp only [spl, List.length_append, List.length_take, List.length_drop]; omega
theorem bys_spl (l : List Int) (o : Nat) (m : List Int) : bys (spl l o m) = (bys l).take o ++ bys m ++ (bys l).drop (o + m.length) := by
  simp [bys, spl, List.map_take, List.map_drop]
/-- A text's bytes. -/
def bytesOf (s : ByteArray) : List Int := s.data.toList.map fun b => (b.toNat : Int)
theorem bytesOf_length (s : ByteArray) : (bytesOf s).length = s.size := by simp [bytesOf]
theorem bytesOf_cells (s : ByteArray) : Lib.byteCells s.data.toList = bys (bytesOf s) := by simp [Lib.byteCells, bys, bytesOf]
theorem bytesOf_range (s : ByteArray) : ∀ b ∈ bytesOf s, 0 ≤ b ∧ b < 256 := by
  intro b hb; simp only [bytesOf, List.mem_map] at hb; obtain ⟨x, _, rfl⟩ := hb; have := x.toNat_lt; omega
theorem Row.setRow {w : World} {b : Nat} {t : TypeId} {l : List Int} (h : Row w b t l) (m : List Int) : Row (w.setRow b (bys m).toArray) b t m ∧ Fr (fun k => k = b) w (w.setRow b (bys m).toArray) :=
  ⟨setRow_heap w b _ _ t _ h, ⟨rfl, rfl, rfl, by simp [World.setRow], fun k _ hk => setRow_other w b k _ hk⟩⟩
/-- copy(row[o:], s), where there is room. -/
theorem Row.copyStr {w : World} {b : Nat} {t : TypeId} {l : List Int} (h : Row w b t l) (s : ByteArray) (o dLen dCap : Nat) (hle : s.size ≤ dLen) (hfit : o + s.size ≤ l.length) :
    ∃ w', Row w' b t (spl l o (bytesOf s)) ∧ Fr (fun k => k = b) w w' ∧ ∀ ty, (Builtin.copy_ #[22, 9] ty #[.slice (some ⟨b, o, none⟩) dLen dCap, .string s]).run Tryz.prog w = .ok (.int .i64 s.size) w' := by
  obtain ⟨q1, q2⟩ := h.setRow (spl l o (bytesOf s))
  refine ⟨_, q1, q2, fun ty => ?_⟩
  rw [Lib.run_copy_row_string (P := Tryz.prog) w 22 9 ty 5 b o dLen dCap s (bys l).toArray t Tryz.underlying22 (by kernel_rfl) h hle (by simpa [bys] using hfit)]
  rw [bys_spl, bytesOf_cells, bytesOf_length]; rfl
/-- copy(row[o:], v) of bytes that lie elsewhere, where there is room for all. -/
theorem Row.copySl {w : World} {b : Nat} {t : TypeId} {l : List Int} (h : Row w b t l) (m : List Int) (ad : Option Addr) (cap o dLen dCap : Nat) (hm : 0 < m.length) (hv : Sl w (.slice ad m.length cap) m.length (bys m)) (hle : m.length ≤ dLen) (hfit : o + m.length ≤ l.length) :
    ∃ w', Row w' b t (spl l o m) ∧ Fr (fun k => k = b) w w' ∧ ∀ ty, (Builtin.copy_ #[22, 22] ty #[.slice (some ⟨b, o, none⟩) dLen dCap, .slice ad m.length cap]).run Tryz.prog w = .ok (.int .i64 m.length) w' := by
  obtain ⟨q1, q2⟩ := h.setRow (spl l o m)
  obtain ⟨b', off', rfl, hb', hc'⟩ := hv.at (bys_ne m 0 hm)
  refine ⟨_, q1, q2, fun ty => ?_⟩
  rw [run_copy_row (P := Tryz.prog) w 22 22 ty 5 b o dLen dCap ⟨b', off', none⟩ m.length cap (bys l).toArray t (bys m) Tryz.underlying22 (by kernel_rfl) h (by rw [bys_len]; exact (Nat.min_eq_left hle).symm) ?_ (by simpa [bys] using hfit) (bys_one m)]
  · rw [bys_spl, bys_len]; rfl
  · intro j v hj
    have := hc' j v hj
    simp only [Addr.add]
    split
    · next h0 => subst h0; simpa using this
    · exact this
/-- So many noughts. -/
def zs (n : Nat) : List Int := List.replicate n 0
theorem zs_length (n : Nat) : (zs n).length = n := by simp [zs]
theorem made_zs (n : Nat) : madeCells (Value.int .u8 0).cells (n * 1) = (bys (zs n)).toArray := by
  apply Array.toList_inj.1
  have h : ∀ x : Nat, (Value.int .u8 0).cells[x % (Value.int .u8 0).cells.size]! = .int .u8 0 := fun x => by
    show (#[Value.int .u8 0] : Array Value)[x % 1]! = _
    rw [Nat.mod_one]; rfl
  simp [madeCells, bys, zs, h]
  rw [List.map_const']; simp
theorem mk_bytes (w : World) (n : Nat) (hn : n ≤ 281474976710656) :
    (Instr.makeSlice 22 (.int .i64 n) (.int .i64 n)).run Tryz.prog w = .ok (.slice (some ⟨w.heap.size, 0, none⟩) n n) (w.alloc (.cells (bys (zs n)).toArray 5)) := by
  have hE := el_u8
  cases hi : Tryz.prog.info? 5 with
  | none => have := hE.info; rw [hi] at this; simp at this
  | some i =>
    have h := hE.info
    rw [hi] at h
    simp only [Option.map_some, Option.some.injEq, Prod.mk.injEq] at h
    obtain ⟨h1, h2, h3⟩ := h
    have := run_make (P := Tryz.prog) w 22 5 i (.int .u8 0) hE.und hi h1 .i64 .i64 n n (by omega) (by omega) (by rw [h3]; omega) (by omega)
    rw [this, h2]
    simp only [Int.toNat_natCast, made_zs]
end Go.Proofs.YtoajnmbbgbpbgaaGreat
namespace Go.Proofs.YtoajnmbbgbpbgaaGreat
set_option linter.unusedVariables false
set_option linter.unusedSimpArgs false
open Go.RowKit Go.Shelf

theorem spl_cons (l : List Int) (o : Nat) (x : Int) (m : List Int) (h : o < l.length) : spl (l.set o x) (o + 1) m = spl l o (x :: m) := by
  have h1 : (l.set o x).take (o + 1) = l.take o ++ [x] := by
    rw [List.take_succ_eq_append_getElem (by simpa using h), List.take_set_of_le (Nat.le_refl _)]; simp
  have h2 : (l.set o x).drop (o + 1 + m.length) = l.drop (o + (m.length + 1)) := by
    rw [List.drop_set_of_lt (by omega)]; congr 1; omega
  simp only [spl, h1, h2, List.length_cons, List.append_assoc, List.cons_append, List.nil_append]
theorem Row.setAll {w : World} {b : Nat} {t : TypeId} {l : List Int} (h : Row w b t l) (m : List Int) (o : Nat) (hfit : o + m.length ≤ l.length) : Row (w.setCells b o (bys m)) b t (spl l o m) ∧ Fr (fun k => k = b) w (w.setCells b o (bys m)) := by
  induction m generalizing w l o with
  | nil => exact ⟨by simpa [spl, bys, World.setCells] using h, Fr.refl _ _⟩
  | cons x m ih =>
    simp only [List.length_cons] at hfit
    obtain ⟨q1, q2⟩ := ih (h.set o x) (o + 1) (by rw [List.length_set]; omega)
    rw [spl_cons _ _ _ _ (by omega)] at q1
    exact ⟨q1, ((Fr.refl (fun k => k = b) w).setCell (p := ⟨b, o, none⟩) (fun _ => rfl) _).trans q2⟩
end Go.Proofs.YtoajnmbbgbpbgaaGreat
namespace Go.Proofs.YtoajnmbbgbpbgaaGreat
set_option linter.unusedVariables false
set_option linter.unusedSimpArgs false
open Go.RowKit Go.Shelf

theorem conv_sl {w : World} {a : Option Addr} {cap : Nat} {l : List Int} (hv : Sl w (.slice a l.length cap) l.length (bys l)) : (convert 22 9 (.slice a l.length cap)).run Tryz.prog w = .ok (.string (strOfNums l)) w := by
  cases l with
  | nil =>
    cases a with
    | none => exact run_convert_bytes_nil w 22 5 Tryz.underlying22 Tryz.underlying5 0 cap 9 Tryz.underlying9
    | some a =>
      rw [List.length_nil, run_convert_bytes_string w 22 9 5 (some a) 0 cap Tryz.underlying22 Tryz.underlying5 Tryz.underlying9,
        run_bytesToString w a 0 cap [] (by have := run_loadCells_list (P := Tryz.prog) w a [] (fun j v h => by simp at h); simpa using this)]
      rfl
  | cons x l =>
    obtain ⟨b, off, rfl, hb, hc⟩ := hv.at (by simp [bys])
    refine run_convert_bytes_arg w 22 5 Tryz.underlying22 Tryz.underlying5 b off _ cap (x :: l) rfl (fun i hi => ?_) 9 Tryz.underlying9
    rw [hc i _ (bys_get _ i hi)]
    simp [List.getD, List.getElem?_eq_getElem hi]
theorem strOfNums_inj {l m : List Int} (hlr : ∀ b ∈ l, 0 ≤ b ∧ b < 256) (hmr : ∀ b ∈ m, 0 ≤ b ∧ b < 256) (h : strOfNums l = strOfNums m) : l = m := by
  have h1 : (strOfNums l).data.toList = (strOfNums m).data.toList := by rw [h]
  rw [strOfNums_data, strOfNums_data] at h1
  clear h
  induction l generalizing m with
  | nil => cases m with
    | nil => rfl
    | cons y m => simp at h1
  | cons x l ih =>
    cases m with
    | nil => simp at h1
    | cons y m =>
      simp only [List.map_cons, List.cons.injEq] at h1
      have hx := hlr x (by simp); have hy := hmr y (by simp)
      have h2 := congrArg UInt8.toNat h1.1
      simp only [UInt8.toNat_ofNat'] at h2
      rw [ih (fun b hb => hlr b (by simp [hb])) (fun b hb => hmr b (by simp [hb])) h1.2]
      congr 1
      omega

set_option maxRecDepth 1000000 in
theorem same01_calls (va vb : Value) (l m : List Int) (w : World) (hlr : ∀ b ∈ l, 0 ≤ b ∧ b < 256) (hmr : ∀ b ∈ m, 0 ≤ b ∧ b < 256) (hva : Sl w va l.length (bys l)) (hvb : Sl w vb m.length (bys m)) :
    Calls Tryz.prog 124 #[va, vb] w fun e w' => e = .returned (.bool (decide (l = m))) ∧ w = w' := by
  obtain ⟨a, cap, rfl⟩ := hva.form
  obtain ⟨b, cap', rfl⟩ := hvb.form
  have h1 := conv_sl hva
  have h2 := conv_sl hvb
  have hin : strOfNums l = strOfNums m ↔ l = m := ⟨strOfNums_inj hlr hmr, fun h => by rw [h]⟩
  clear hva hvb
  by_cases h : l = m
  · subst h
    go_enter Tryz.func124, Tryz.ntmps124
    go_wp2
    go_ret
    refine ⟨?_, rfl⟩
    simp
  · have h3 : ¬ strOfNums l = strOfNums m := fun e => h (hin.1 e)
    clear hin
    generalize strOfNums l = x at *
    generalize strOfNums m = y at *
    go_enter Tryz.func124, Tryz.ntmps124
    go_wp2
    go_ret
    refine ⟨?_, rfl⟩
    simp [h]
    rw [ByteArray.toList_eq, ByteArray.toList_eq]
    exact fun e => h3 (ByteArray.ext (Array.toList_inj.1 e))

set_option maxRecDepth 1000000 in
theorem equal_calls (va vb : Value) (l m : List Int) (w : World) (hlr : ∀ b ∈ l, 0 ≤ b ∧ b < 256) (hmr : ∀ b ∈ m, 0 ≤ b ∧ b < 256) (hva : Sl w va l.length (bys l)) (hvb : Sl w vb m.length (bys m)) :
    Calls Tryz.prog 109 #[va, vb] w fun e w' => e = .returned (.bool (decide (l = m))) ∧ w = w' := by
  obtain ⟨a, cap, rfl⟩ := hva.form
  obtain ⟨b, cap', rfl⟩ := hvb.form
  have h1 := conv_sl hva
  have h2 := conv_sl hvb
  have hin : strOfNums l = strOfNums m ↔ l = m := ⟨strOfNums_inj hlr hmr, fun h => by rw [h]⟩
  clear hva hvb
  by_cases h : l = m
  · subst h
    go_enter Tryz.func109, Tryz.ntmps109
    go_wp2
    go_ret
    refine ⟨?_, rfl⟩
    simp
  · have h3 : ¬ strOfNums l = strOfNums m := fun e => h (hin.1 e)
    clear hin
    generalize strOfNums l = x at *
    generalize strOfNums m = y at *
    go_enter Tryz.func109, Tryz.ntmps109
    go_wp2
    go_ret
    refine ⟨?_, rfl⟩
    simp [h]
    rw [ByteArray.toList_eq, ByteArray.toList_eq]
    exact fun e => h3 (ByteArray.ext (Array.toList_inj.1 e))
end Go.Proofs.YtoajnmbbgbpbgaaGreat
