/-
  The reference's lists of blocks.
-/
import Derived.Test.YtbjffempiaohpaaExt4
namespace Go.Proofs.Ytbjffempiaohpaa
set_option linter.unusedVariables false
set_option linter.unusedSimpArgs false
open Go.RowKit Go.Shelf

def blocksOk (xs : List (Int × Int)) : Bool := okB (blkSeq (-1) xs)
def RBlocksPost (w : World) (xs : List (Int × Int)) (e : Ending) (w' : World) : Prop :=
  Fr No w w' ∧ ∃ r, e = .returned (.tuple #[r, .bool (blocksOk xs)]) ∧ w'.ownsRow w.heap.size 3 1 r (listF xs).length (ints (listF xs))

theorem rblocks_bad {w w' : World} {xs : List (Int × Int)} (hF : Fr No w w') (h : okB (blkSeq (-1) xs) = false) : RBlocksPost w xs (.returned (.tuple #[.slice none 0 0, .bool false])) w' := by
  refine ⟨hF, _, by rw [blocksOk, h], ?_⟩
  rw [listF, if_neg (by rw [h]; simp)]; exact World.ownsRow_nil _ _ _ _

theorem okB_false_of {l m : List Int} (h : l <+: m) (hl : okB l = false) : okB m = false := by
  cases hm : okB m with
  | false => rfl
  | true => rw [okB_prefix h hm] at hl; cases hl

set_option maxHeartbeats 4000000 in
set_option maxRecDepth 100000 in
theorem rblocks_calls (v : Value) (xs : List (Int × Int)) (w : World) (hlen : xs.length ≤ 100) (hv : Sl w v xs.length (extCells xs)) :
    Calls Try.prog 73 #[v] w (RBlocksPost w xs) := by
  obtain ⟨a, cap, rfl⟩ := hv.form
  go_enter Try.func73, Try.ntmps73
  go_wp2
  go_loopw [4, 12] (fun o i wr => ∃ (k : Nat) (e0 : Int) (pre : List Int), k ≤ xs.length ∧ i = .int .i64 k ∧ blkSeq (-1) xs = pre ++ blkSeq e0 (xs.drop k) ∧ okB pre = true ∧
      (k = 0 → e0 = -1) ∧ (∀ j x, k = j + 1 → xs[j]? = some x → e0 = x.1 + x.2 ∧ 0 ≤ x.1 ∧ 0 ≤ x.2 ∧ x.1 + x.2 ≤ 32) ∧
      wr.ownsRow w.heap.size 3 1 o pre.length (ints pre) ∧ Fr No w wr)
    (fun _ i _ => xs.length - (intOf i).toNat)
  case atStart => exact ⟨0, -1, [], by omega, rfl, by simp, rfl, fun _ => rfl, fun j x e => by omega, World.ownsRow_nil _ _ _ _, Fr.refl _ _⟩
  case round =>
    obtain ⟨k, e0, pre, hk, rfl, hys, hok, hz, hp, hrow, hF⟩ := hrel
    by_cases hlt : k < xs.length
    · have hne : extCells xs ≠ [] := by intro e; have := extCells_get xs k hlt; rw [e] at this; simp at this
      obtain ⟨b, off, rfl, hb, hc⟩ := hv.at hne
      have hc1 := hF.cell (hc _ _ (extCells_get xs k hlt).1) (fun h => h)
      have hc2 := hF.cell (hc _ _ (extCells_get xs k hlt).2) (fun h => h)
      rw [List.drop_eq_getElem_cons hlt] at hys
      have hgk : xs[k]? = some xs[k] := List.getElem?_eq_getElem hlt
      revert hys hc1 hc2 hgk
      generalize xs[k] = x
      obtain ⟨x1, x2⟩ := x
      dsimp only
      rw [← Nat.add_assoc]
      intro hys hc1 hc2 hgk
      have hplen := okB_length hok (fun b hb => blkSeq_range xs (-1) b (by rw [hys]; simp [hb]))
      have hgood : badX e0 (x1, x2) = false → blkSeq (-1) xs = pre ++ (run (x1, x2) ++ blkSeq (x1 + x2) (xs.drop (k + 1))) := fun h => by rw [hys, blkSeq, if_neg (by rw [h]; simp)]
      have hbadF : badX e0 (x1, x2) = true → okB (blkSeq (-1) xs) = false := fun h => by rw [hys, blkSeq, if_pos h, okB_snoc]; simp
      clear hys hc
      by_cases hbr : x1 < 9 ∨ 32 ≤ x1 ∨ x2 < 1 ∨ 32 - x1 < x2
      · have hfalse := hbadF (by simp only [badX, Bool.or_eq_true, decide_eq_true_eq]; omega)
        have HB := Lib.hid (fun w' h => rblocks_bad (w' := w') (w := w) h hfalse)
        clear hfalse hgood hbadF hv hz hp hgk
        have hbr' : x1 < 9 ∨ (9 ≤ x1 ∧ 32 ≤ x1) ∨ (9 ≤ x1 ∧ x1 < 32 ∧ x2 < 1) ∨ (9 ≤ x1 ∧ x1 < 32 ∧ 1 ≤ x2 ∧ 32 - x1 < x2) := by omega
        clear hbr
        rcases hbr' with q1 | ⟨q1, q2⟩ | ⟨q1, q2, q3⟩ | ⟨q1, q2, q3, q4⟩
        all_goals
          go_wp2
          go_ret2
          exact HB.out _ (hF.alloc _)
      · obtain ⟨g1, g2, g3, g4⟩ : 9 ≤ x1 ∧ x1 < 32 ∧ 1 ≤ x2 ∧ x2 ≤ 32 - x1 := by omega
        clear hbr
        by_cases hadj : x1 = e0
        · have hfalse := hbadF (by simp only [badX, Bool.or_eq_true, decide_eq_true_eq]; omega)
          have HB := Lib.hid (fun w' h => rblocks_bad (w' := w') (w := w) h hfalse)
          cases k with
          | zero => have := hz rfl; omega
          | succ j =>
            have hj : j < xs.length := by omega
            obtain ⟨he, p1, p2, p3⟩ := hp j xs[j] rfl (List.getElem?_eq_getElem hj)
            obtain ⟨b', off', e', hb', hc'⟩ := hv.at hne
            cases e'
            have hp1 := hF.cell (hc' _ _ (extCells_get xs j hj).1) (fun h => h)
            have hp2 := hF.cell (hc' _ _ (extCells_get xs j hj).2) (fun h => h)
            rw [← Nat.add_assoc] at hp2
            have hx : (x1 == xs[j].1 + xs[j].2) = true := by rw [beq_iff_eq]; omega
            revert hp1 hp2 hx p1 p2 p3
            generalize xs[j] = y
            obtain ⟨y1, y2⟩ := y
            dsimp only
            intro p1 p2 p3 hp1 hp2 hx
            clear hfalse hgood hbadF hv hz hp hgk hc' he hadj hne
            have hj0 : 0 ≤ (j : Int) := by omega
            have hbw := cell_lt hp1
            have hp1a : (wr.alloc (.cells #[.int .i64 x1, .int .i64 x2] 73)).cell? ⟨b, off + j * 2, none⟩ = some (.int .i64 y1) := (World.cell?_alloc_past _ _ _ hbw).trans hp1
            have hp2a : (wr.alloc (.cells #[.int .i64 x1, .int .i64 x2] 73)).cell? ⟨b, off + j * 2 + 1, none⟩ = some (.int .i64 y2) := (World.cell?_alloc_past _ _ _ hbw).trans hp2
            have hj1 : (j : Int) < (xs.length : Int) := by omega
            have hw1 : IntKind.i64.wrap ((j : Int) + 1 - 1) = (j : Int) := by rw [show (j : Int) + 1 - 1 = j by omega]; exact IntWalk.i64_in _ (by omega)
            have hw3 : IntKind.i64.wrap (j : Int) = (j : Int) := IntWalk.i64_in _ (by omega)
            have hw2 : IntKind.i64.wrap (y1 + y2) = y1 + y2 := IntWalk.i64_in _ (by omega)
            go_wp2
            go_quiet (fail)
            go_wp2
            go_ret2
            exact HB.out _ ((hF.alloc _).drewN _)
        · have hnb : badX e0 (x1, x2) = false := by simp only [badX, Bool.or_eq_false_iff, decide_eq_false_iff_not]; exact ⟨⟨⟨⟨by omega, by omega⟩, by omega⟩, by omega⟩, hadj⟩
          have hseq := Lib.hid (hgood hnb)
          clear hgood hbadF hnb
          cases k with
          | zero =>
            clear hz hp hv hne
            simp only [Nat.zero_mul, Nat.add_zero] at hc1 hc2
            go_wp2
            go_quiet (fail)
            go_wp2
            obtain ⟨wo, rfl⟩ : ∃ wo : World, wo = wr := ⟨_, rfl⟩
            have hbx : ((wo.alloc (.cells #[.int .i64 x1, .int .i64 x2] 73)).drewN nq).heap[wo.heap.size]? = some (.cells #[.int .i64 x1, .int .i64 x2] 73 (0, 0)) := heap_new _ _
            have hF1 : Fr No w ((wo.alloc (.cells #[.int .i64 x1, .int .i64 x2] 73)).drewN nq) := (hF.alloc _).drewN _
            have hrow1 : ((wo.alloc (.cells #[.int .i64 x1, .int .i64 x2] 73)).drewN nq).ownsRow w.heap.size 3 1 u4 pre.length (ints pre) := hrow.alloc _
            go_loopw [4, 7] (fun o mv wm => ∃ m : Nat, mv = .int .i64 m ∧ (m : Int) ≤ x2 ∧ okB (pre ++ (run (x1, x2)).take m) = true ∧ wm.ownsRow w.heap.size 3 1 o (pre ++ (run (x1, x2)).take m).length (ints (pre ++ (run (x1, x2)).take m)) ∧ Fr No w wm ∧
                wm.heap[wo.heap.size]? = some (.cells #[.int .i64 x1, .int .i64 x2] 73 (0, 0)))
              (fun _ mv _ => (x2 - intOf mv).toNat)
            case atStart => exact ⟨0, rfl, by omega, by simpa using hok, by simpa using hrow1, hF1, hbx⟩
            case round =>
              obtain ⟨m, rfl, hm, hokm, hrowm, hFm, hbm⟩ := hrel
              have cx1 : wr.cell? ⟨wo.heap.size, 0, none⟩ = some (.int .i64 x1) := heap_cell (o := 0) hbm rfl
              have cx2 : wr.cell? ⟨wo.heap.size, 1, none⟩ = some (.int .i64 x2) := heap_cell (o := 1) hbm rfl
              have hlm : (pre ++ (run (x1, x2)).take m).length ≤ 33 := okB_length hokm (fun b hb => blkSeq_range xs (-1) b (by
                rw [hseq.out]; rcases List.mem_append.1 hb with h | h
                · exact List.mem_append.2 (.inl h)
                · exact List.mem_append.2 (.inr (List.mem_append.2 (.inl (List.mem_of_mem_take h))))))
              by_cases hlt2 : (m : Int) < x2
              · have hrun : (run (x1, x2)).take (m + 1) = (run (x1, x2)).take m ++ [x1 + (m : Int)] := by
                  rw [List.take_succ_eq_append_getElem (by rw [run_len]; simp; omega)]; simp [run]
                have hbadm : x1 + (m : Int) ∈ pre ++ (run (x1, x2)).take m → okB (blkSeq (-1) xs) = false := fun hin => by
                  refine okB_false_of (l := pre ++ (run (x1, x2)).take m ++ [x1 + (m : Int)]) ?_ (by rw [okB_snoc]; simp only [hin]; simp)
                  rw [hseq.out, List.append_assoc, ← hrun]
                  exact (List.prefix_append_right_inj _).2 ((List.take_prefix _ _).trans (List.prefix_append _ _))
                have hokn : x1 + (m : Int) ∉ pre ++ (run (x1, x2)).take m → okB (pre ++ (run (x1, x2)).take (m + 1)) = true := fun hin => by
                  rw [hrun, ← List.append_assoc, okB_snoc, hokm]; simp only [hin]; simp; omega
                have HR := Lib.hid (show pre ++ (run (x1, x2)).take (m + 1) = pre ++ (run (x1, x2)).take m ++ [x1 + (m : Int)] by rw [hrun, List.append_assoc])
                have HBM := Lib.hid hbadm
                have HON := Lib.hid hokn
                clear hrun hbadm hokn hokm
                revert hrowm hlm HR HBM HON
                generalize pre ++ (run (x1, x2)).take m = cur
                generalize hnx : pre ++ (run (x1, x2)).take (m + 1) = nxt
                have HNX := Lib.hid hnx
                clear hnx
                intro hrowm hlm HR HBM HON
                have hsl := Sl.of_owns hrowm
                obtain ⟨a4, cap4, rfl⟩ := hsl.form
                go_wp2
                obtain ⟨wp, rfl⟩ : ∃ wp : World, wp = wr := ⟨_, rfl⟩
                go_loop [66] (fun i => ∃ j : Nat, j ≤ cur.length ∧ i = .int .i64 j ∧ x1 + (m : Int) ∉ cur.take j) (fun i => cur.length - (intOf i).toNat)
                case atStart => exact ⟨0, by omega, rfl, by simp⟩
                case round =>
                  obtain ⟨j2, hj2, rfl, hnin⟩ := hrel
                  by_cases hlt3 : j2 < cur.length
                  · obtain ⟨b4, off4, rfl, hb4, hc4⟩ := hsl.at (ints_ne _ j2 hlt3)
                    have hcc := hc4 _ _ (ints_get _ j2 hlt3)
                    have htk : cur.take (j2 + 1) = cur.take j2 ++ [cur[j2]] := List.take_succ_eq_append_getElem hlt3
                    have hmem : cur[j2] ∈ cur := List.getElem_mem hlt3
                    revert hcc htk hmem
                    generalize cur[j2] = y4
                    intro hcc htk hmem
                    by_cases hy : y4 = x1 + (m : Int)
                    · have hy' : (y4 == x1 + (m : Int)) = true := by simpa using hy
                      have HB := Lib.hid (HBM.out (by rw [← hy]; exact hmem))
                      clear hy htk hmem hnin hc4 hsl
                      go_wp2
                      go_ret2
                      exact rblocks_bad hFm HB.out
                    · have hy' : (y4 == x1 + (m : Int)) = false := by simpa using hy
                      have HT := Lib.hid (show x1 + (m : Int) ∉ cur.take (j2 + 1) by rw [htk]; simp [hnin, Ne.symm hy])
                      clear hy htk hmem hnin hc4 hsl
                      go_wp2
                      go_round
                      case rel => exact ⟨j2 + 1, by omega, by go_num, HT.out⟩
                      case measure => simp [intOf]; omega
                  · have hnin' : x1 + (m : Int) ∉ cur := by rw [List.take_of_length_le (by omega)] at hnin; exact hnin
                    have HN := Lib.hid (HON.out hnin')
                    clear hnin hnin' hsl
                    go_wp2_with (at_builtin; refine append_out el_int rfl _ _ rfl w.heap.size (.slice a4 cur.length cap4) _ _ rfl (hrowm.alloc _) ⟨wp.heap.size, 0, none⟩ 1 1 [.int .i64 (x1 + (m : Int))] rfl rfl (cell_one_new _ _ _) (by simp [Value.oneCell']) (by unfold maxLen; omega) (by omega) (by have := hFm.size; simp; omega) ?_; intro v' w3 hown' hgrow _)
                    go_roundw
                    case rel => exact ⟨m + 1, by go_num, by omega, by rw [HNX.out]; exact HN.out, by rw [HNX.out, HR.out, List.length_append]; simpa [ints] using hown', (hFm.alloc _).grown hgrow (fun k e hk => by have := (hrowm.lt k e).1; omega), (hgrow.block _ (heap_lt (heap_alloc _ hbm)) (not_row (heap_alloc (.cells #[.int .i64 (x1 + (m : Int))] 3) hbm) (by decide) (hrowm.alloc _))).trans (heap_alloc _ hbm)⟩
                    case measure => simp [intOf]; omega
              · have hm2 : m = x2.toNat := by omega
                have hall : (run (x1, x2)).take m = run (x1, x2) := List.take_of_length_le (by rw [run_len]; simp; omega)
                rw [hall] at hokm hrowm
                have HLAST := Lib.hid (show ∀ j' x, 0 + 1 = j' + 1 → xs[j']? = some x → x1 + x2 = x.1 + x.2 ∧ 0 ≤ x.1 ∧ 0 ≤ x.2 ∧ x.1 + x.2 ≤ 32 from fun j' x e hx => by
                  have e' : j' = 0 := by omega
                  subst e'
                  rw [hgk] at hx
                  cases hx
                  simp; omega)
                have HK := Lib.hid (And.intro hokm hgk)
                clear hall hm2 hlm hokm hgk  -- 
                go_wp2
                go_roundw
                case rel => exact ⟨0 + 1, x1 + x2, pre ++ run (x1, x2), by omega, by go_num, by rw [hseq.out, List.append_assoc], HK.out.1, by omega, HLAST.out, hrowm, hFm⟩
                case measure => simp [intOf]; omega
          | succ j =>
            have hj : j < xs.length := by omega
            obtain ⟨he, p1, p2, p3⟩ := hp j xs[j] rfl (List.getElem?_eq_getElem hj)
            obtain ⟨b', off', e', hb', hc'⟩ := hv.at hne
            cases e'
            have hp1 := hF.cell (hc' _ _ (extCells_get xs j hj).1) (fun h => h)
            have hp2 := hF.cell (hc' _ _ (extCells_get xs j hj).2) (fun h => h)
            rw [← Nat.add_assoc] at hp2
            have hx : (x1 == xs[j].1 + xs[j].2) = false := by rw [beq_eq_false_iff_ne]; omega
            revert hp1 hp2 hx p1 p2 p3
            generalize xs[j] = y
            obtain ⟨y1, y2⟩ := y
            dsimp only
            intro p1 p2 p3 hp1 hp2 hx
            clear hv hz hp hc' he hne
            have hj0 : 0 ≤ (j : Int) := by omega
            have hbw := cell_lt hp1
            have hp1a : (wr.alloc (.cells #[.int .i64 x1, .int .i64 x2] 73)).cell? ⟨b, off + j * 2, none⟩ = some (.int .i64 y1) := (World.cell?_alloc_past _ _ _ hbw).trans hp1
            have hp2a : (wr.alloc (.cells #[.int .i64 x1, .int .i64 x2] 73)).cell? ⟨b, off + j * 2 + 1, none⟩ = some (.int .i64 y2) := (World.cell?_alloc_past _ _ _ hbw).trans hp2
            have hj1 : (j : Int) < (xs.length : Int) := by omega
            have hw1 : IntKind.i64.wrap ((j : Int) + 1 - 1) = (j : Int) := by rw [show (j : Int) + 1 - 1 = j by omega]; exact IntWalk.i64_in _ (by omega)
            have hw3 : IntKind.i64.wrap (j : Int) = (j : Int) := IntWalk.i64_in _ (by omega)
            have hw2 : IntKind.i64.wrap (y1 + y2) = y1 + y2 := IntWalk.i64_in _ (by omega)
            go_wp2
            go_quiet (fail)
            go_wp2
            obtain ⟨wo, rfl⟩ : ∃ wo : World, wo = wr := ⟨_, rfl⟩
            have hbx : ((wo.alloc (.cells #[.int .i64 x1, .int .i64 x2] 73)).drewN nq).heap[wo.heap.size]? = some (.cells #[.int .i64 x1, .int .i64 x2] 73 (0, 0)) := heap_new _ _
            have hF1 : Fr No w ((wo.alloc (.cells #[.int .i64 x1, .int .i64 x2] 73)).drewN nq) := (hF.alloc _).drewN _
            have hrow1 : ((wo.alloc (.cells #[.int .i64 x1, .int .i64 x2] 73)).drewN nq).ownsRow w.heap.size 3 1 u4 pre.length (ints pre) := hrow.alloc _
            go_loopw [4, 7] (fun o mv wm => ∃ m : Nat, mv = .int .i64 m ∧ (m : Int) ≤ x2 ∧ okB (pre ++ (run (x1, x2)).take m) = true ∧ wm.ownsRow w.heap.size 3 1 o (pre ++ (run (x1, x2)).take m).length (ints (pre ++ (run (x1, x2)).take m)) ∧ Fr No w wm ∧
                wm.heap[wo.heap.size]? = some (.cells #[.int .i64 x1, .int .i64 x2] 73 (0, 0)))
              (fun _ mv _ => (x2 - intOf mv).toNat)
            case atStart => exact ⟨0, rfl, by omega, by simpa using hok, by simpa using hrow1, hF1, hbx⟩
            case round =>
              obtain ⟨m, rfl, hm, hokm, hrowm, hFm, hbm⟩ := hrel
              have cx1 : wr.cell? ⟨wo.heap.size, 0, none⟩ = some (.int .i64 x1) := heap_cell (o := 0) hbm rfl
              have cx2 : wr.cell? ⟨wo.heap.size, 1, none⟩ = some (.int .i64 x2) := heap_cell (o := 1) hbm rfl
              have hlm : (pre ++ (run (x1, x2)).take m).length ≤ 33 := okB_length hokm (fun b hb => blkSeq_range xs (-1) b (by
                rw [hseq.out]; rcases List.mem_append.1 hb with h | h
                · exact List.mem_append.2 (.inl h)
                · exact List.mem_append.2 (.inr (List.mem_append.2 (.inl (List.mem_of_mem_take h))))))
              by_cases hlt2 : (m : Int) < x2
              · have hrun : (run (x1, x2)).take (m + 1) = (run (x1, x2)).take m ++ [x1 + (m : Int)] := by
                  rw [List.take_succ_eq_append_getElem (by rw [run_len]; simp; omega)]; simp [run]
                have hbadm : x1 + (m : Int) ∈ pre ++ (run (x1, x2)).take m → okB (blkSeq (-1) xs) = false := fun hin => by
                  refine okB_false_of (l := pre ++ (run (x1, x2)).take m ++ [x1 + (m : Int)]) ?_ (by rw [okB_snoc]; simp only [hin]; simp)
                  rw [hseq.out, List.append_assoc, ← hrun]
                  exact (List.prefix_append_right_inj _).2 ((List.take_prefix _ _).trans (List.prefix_append _ _))
                have hokn : x1 + (m : Int) ∉ pre ++ (run (x1, x2)).take m → okB (pre ++ (run (x1, x2)).take (m + 1)) = true := fun hin => by
                  rw [hrun, ← List.append_assoc, okB_snoc, hokm]; simp only [hin]; simp; omega
                have HR := Lib.hid (show pre ++ (run (x1, x2)).take (m + 1) = pre ++ (run (x1, x2)).take m ++ [x1 + (m : Int)] by rw [hrun, List.append_assoc])
                have HBM := Lib.hid hbadm
                have HON := Lib.hid hokn
                clear hrun hbadm hokn hokm
                revert hrowm hlm HR HBM HON
                generalize pre ++ (run (x1, x2)).take m = cur
                generalize hnx : pre ++ (run (x1, x2)).take (m + 1) = nxt
                have HNX := Lib.hid hnx
                clear hnx
                intro hrowm hlm HR HBM HON
                have hsl := Sl.of_owns hrowm
                obtain ⟨a4, cap4, rfl⟩ := hsl.form
                go_wp2
                obtain ⟨wp, rfl⟩ : ∃ wp : World, wp = wr := ⟨_, rfl⟩
                go_loop [66] (fun i => ∃ j : Nat, j ≤ cur.length ∧ i = .int .i64 j ∧ x1 + (m : Int) ∉ cur.take j) (fun i => cur.length - (intOf i).toNat)
                case atStart => exact ⟨0, by omega, rfl, by simp⟩
                case round =>
                  obtain ⟨j2, hj2, rfl, hnin⟩ := hrel
                  by_cases hlt3 : j2 < cur.length
                  · obtain ⟨b4, off4, rfl, hb4, hc4⟩ := hsl.at (ints_ne _ j2 hlt3)
                    have hcc := hc4 _ _ (ints_get _ j2 hlt3)
                    have htk : cur.take (j2 + 1) = cur.take j2 ++ [cur[j2]] := List.take_succ_eq_append_getElem hlt3
                    have hmem : cur[j2] ∈ cur := List.getElem_mem hlt3
                    revert hcc htk hmem
                    generalize cur[j2] = y4
                    intro hcc htk hmem
                    by_cases hy : y4 = x1 + (m : Int)
                    · have hy' : (y4 == x1 + (m : Int)) = true := by simpa using hy
                      have HB := Lib.hid (HBM.out (by rw [← hy]; exact hmem))
                      clear hy htk hmem hnin hc4 hsl
                      go_wp2
                      go_ret2
                      exact rblocks_bad hFm HB.out
                    · have hy' : (y4 == x1 + (m : Int)) = false := by simpa using hy
                      have HT := Lib.hid (show x1 + (m : Int) ∉ cur.take (j2 + 1) by rw [htk]; simp [hnin, Ne.symm hy])
                      clear hy htk hmem hnin hc4 hsl
                      go_wp2
                      go_round
                      case rel => exact ⟨j2 + 1, by omega, by go_num, HT.out⟩
                      case measure => simp [intOf]; omega
                  · have hnin' : x1 + (m : Int) ∉ cur := by rw [List.take_of_length_le (by omega)] at hnin; exact hnin
                    have HN := Lib.hid (HON.out hnin')
                    clear hnin hnin' hsl
                    go_wp2_with (at_builtin; refine append_out el_int rfl _ _ rfl w.heap.size (.slice a4 cur.length cap4) _ _ rfl (hrowm.alloc _) ⟨wp.heap.size, 0, none⟩ 1 1 [.int .i64 (x1 + (m : Int))] rfl rfl (cell_one_new _ _ _) (by simp [Value.oneCell']) (by unfold maxLen; omega) (by omega) (by have := hFm.size; simp; omega) ?_; intro v' w3 hown' hgrow _)
                    go_roundw
                    case rel => exact ⟨m + 1, by go_num, by omega, by rw [HNX.out]; exact HN.out, by rw [HNX.out, HR.out, List.length_append]; simpa [ints] using hown', (hFm.alloc _).grown hgrow (fun k e hk => by have := (hrowm.lt k e).1; omega), (hgrow.block _ (heap_lt (heap_alloc _ hbm)) (not_row (heap_alloc (.cells #[.int .i64 (x1 + (m : Int))] 3) hbm) (by decide) (hrowm.alloc _))).trans (heap_alloc _ hbm)⟩
                    case measure => simp [intOf]; omega
              · have hm2 : m = x2.toNat := by omega
                have hall : (run (x1, x2)).take m = run (x1, x2) := List.take_of_length_le (by rw [run_len]; simp; omega)
                rw [hall] at hokm hrowm
                have HLAST := Lib.hid (show ∀ j' x, j + 1 + 1 = j' + 1 → xs[j']? = some x → x1 + x2 = x.1 + x.2 ∧ 0 ≤ x.1 ∧ 0 ≤ x.2 ∧ x.1 + x.2 ≤ 32 from fun j' x e hx => by
                  have e' : j' = j + 1 := by omega
                  subst e'
                  rw [hgk] at hx
                  cases hx
                  simp; omega)
                have HK := Lib.hid (And.intro hokm hgk)
                clear hall hm2 hlm hokm hgk  -- 
                go_wp2
                go_roundw
                case rel => exact ⟨j + 1 + 1, x1 + x2, pre ++ run (x1, x2), by omega, by go_num, by rw [hseq.out, List.append_assoc], HK.out.1, by omega, HLAST.out, hrowm, hFm⟩
                case measure => simp [intOf]; omega
    · have hkl : k = xs.length := by omega
      have hall : blkSeq (-1) xs = pre := by rw [hys, List.drop_of_length_le (by omega)]; simp [blkSeq]
      have hres : RBlocksPost w xs (.returned (.tuple #[u4, .bool true])) wr := by
        refine ⟨hF, u4, by rw [blocksOk, hall, hok], ?_⟩
        rw [listF, hall, hok]; exact hrow
      have HR := Lib.hid hres
      clear hres hall hkl hv hys hz hp
      go_wp2
      go_ret2
      exact HR.out

end Go.Proofs.Ytbjffempiaohpaa
