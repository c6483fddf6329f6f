/-
  extent.Check, extent.list and what stands on them.
-/
import Derived.Test.YtbjffempiaohpaaExt1
import Derived.Test.YtbjffempiaohpaaApp
namespace Go.Proofs.Ytbjffempiaohpaa
set_option linter.unusedVariables false
set_option linter.unusedSimpArgs false
open Go.RowKit Go.Shelf
attribute [local go_sem] Oper.semAt_some wide_depth inRound_depth wide_fn inRound_fn

/-- blocks: a closure over a box that holds the list. -/
theorem blocks_calls (a : Option Addr) (n cap : Nat) (w : World) :
    Calls Try.prog 76 #[.slice a n cap] w fun e w' => e = .returned (.func (.func 91) #[] #[.pointer (some ⟨w.heap.size, 0, none⟩)]) ∧ w' = w.alloc (.cells #[.slice a n cap] 24) := by
  go_enter Try.func76, Try.ntmps76
  go_wp2
  go_ret
  exact ⟨rfl, rfl⟩

set_option maxHeartbeats 2000000 in
theorem check_calls (v : Value) (xs : List (Int × Int)) (w : World) (hlen : xs.length ≤ 100) (hv : Sl w v xs.length (extCells xs)) :
    Calls Try.prog 65 #[v] w fun e w' => e = .returned (.int .i64 (checkN xs)) ∧ Fr No w w' := by
  obtain ⟨a, cap, rfl⟩ := hv.form
  refine (callsIn_wide (n := 0)).1 ?_
  refine callsIn_of_wp_marks Try.func65 rfl trivial ?_ rfl
  simp only [Try.ntmps65, List.size_toArray, List.length_cons, List.length_nil, Nat.reduceAdd, Nat.reduceSub, Array.replicate_succ, Array.replicate_zero, List.push_toArray, List.append_toArray, List.nil_append, List.cons_append]
  gi_wp2_with (gi_at_call 76; refine (callsIn_wide.2 (blocks_calls _ _ _ _)).mono ?_; rintro e w' ⟨rfl, rfl⟩)
  refine wpIn_gen fun W0 hW0 => ?_
  have hs : w.heap.size + 1 + 1 < W0.heap.size := by rw [hW0]; simp
  have hF : Fr No w W0 := by rw [hW0]; exact (((Fr.refl _ _).alloc _).alloc _).alloc _
  have b2 : W0.heap[w.heap.size]? = some (.cells #[.int .i64 0] 27 (0, 0)) := by rw [hW0]; exact heap_alloc _ (heap_alloc _ (heap_new _ _))
  have b3 : W0.heap[w.heap.size + 1]? = some (.cells #[.int .u32 0] 115 (0, 0)) := by rw [hW0]; exact heap_alloc _ (by simpa using heap_new (w.alloc _) _)
  have b4 : W0.heap[w.heap.size + 1 + 1]? = some (.cells #[.slice a xs.length cap] 24 (0, 0)) := by rw [hW0]; simpa using heap_new ((w.alloc _).alloc _) _
  clear hW0
  refine range_outer opens_wide rfl (gf := 91) (lb := #[.pointer (some ⟨w.heap.size + 1 + 1, 0, none⟩)]) rfl (enters_of Try.func91 (by kernel_rfl) rfl)
    (blocks1_iter (w.heap.size + 1 + 1) (.slice a xs.length cap) xs W0 hlen (fun k => k = w.heap.size ∨ k = w.heap.size + 1) (by omega) ?hTv (heap_cell b4 rfl) (hv.fr0 hF)) (by intro x; rfl)
    (ownFrom_fr (Nat.le_refl _)) (Fr.refl _ _)
    (fun pre W => okB pre = true ∧ W.heap[w.heap.size]? = some (.cells #[.int .i64 0] 27 (0, 0)) ∧ W.heap[w.heap.size + 1]? = some (.cells #[.int .u32 (maskL pre)] 115 (0, 0)))
    (fun c pre W => (c = .ret ∧ okB pre = false ∧ W.heap[w.heap.size]? = some (.cells #[.int .i64 1] 27 (0, 0))) ∧ Fr (fun k => k = w.heap.size ∨ k = w.heap.size + 1) W0 W)
    ?hI ?hIx ⟨rfl, b2, b3⟩ ?hround ?hdone ?hstop
  case hTv => exact fun k e hne hk => by have := hv.lt e hne; omega
  case hI => exact ownFrom_of_heap fun pre W W' ⟨h1, h2, h3⟩ _ _ _ _ _ hc => ⟨h1, hc _ _ h2 rfl, hc _ _ h3 rfl⟩
  case hIx => exact fun c => ownFrom_and (ownFrom_of_heap fun pre W W' ⟨h1, h2, h3⟩ _ _ _ _ _ hc => ⟨h1, h2, hc _ _ h3 rfl⟩) (ownFrom_fr (by omega))
  case hround =>
    rintro l pre x W hl _ hpx ⟨hok, h2, h3⟩ hK
    gi_wp2
    refine ⟨KeepsFrom.refl _ _, ⟨hok, h2, h3⟩, hK, ?_⟩
    rintro W2 hg _ ⟨_, h2, h3⟩ hK2
    have c2 : W2.cell? ⟨w.heap.size, 0, none⟩ = some (.int .i64 0) := heap_cell (o := 0) h2 rfl
    have c3 : W2.cell? ⟨w.heap.size + 1, 0, none⟩ = some (.int .u32 (maskL pre)) := heap_cell (o := 0) h3 rfl
    have f2 := heap_frozen (o := 0) h2
    have f3 := heap_frozen (o := 0) h3
    have hx1 : x = -1 ∨ (9 ≤ x ∧ x < 32) := blkSeq_range xs (-1) x (hpx.subset (by simp))
    have hbad : okB (pre ++ [x]) = false → bodyQ W0.heap.size (Fr (fun k => k = w.heap.size ∨ k = w.heap.size + 1) W0)
        (fun pre W => okB pre = true ∧ W.heap[w.heap.size]? = some (.cells #[.int .i64 0] 27 (0, 0)) ∧ W.heap[w.heap.size + 1]? = some (.cells #[.int .u32 (maskL pre)] 115 (0, 0)))
        (fun c pre W => (c = .ret ∧ okB pre = false ∧ W.heap[w.heap.size]? = some (.cells #[.int .i64 1] 27 (0, 0))) ∧ Fr (fun k => k = w.heap.size ∨ k = w.heap.size + 1) W0 W)
        (pre ++ [x]) W2 .ret { tmps := #[], defers := [] } (W2.setCell ⟨w.heap.size, 0, none⟩ (.int .i64 1)) := fun e =>
      ⟨(KeepsOthers.setCell _ _ _).from _, ⟨rfl, e, heap_set _ h2⟩, hK2.setCell (fun _ => .inl rfl) _⟩
    by_cases hx : x < 0
    · have hbad' := Lib.hid (hbad (by rw [okB_snoc]; simp; omega))
      clear hbad
      gi_wp2
      exact hbad'.out
    · have hr : ∀ b ∈ pre, 0 ≤ b ∧ b < 32 := fun b hb => by
        have h1 := blkSeq_range xs (-1) b (hpx.subset (by simp [hb]))
        have h2 : 0 ≤ b := (of_decide_eq_true hok).1 b hb
        omega
      have ht := mask_test pre hr x (by omega) (by omega)
      have hx32 : x < 32 := by omega
      by_cases hin : x ∈ pre
      · have hbad' := Lib.hid (hbad (by rw [okB_snoc]; simp [hin]))
        clear hbad
        rw [decide_eq_true hin] at ht
        gi_wp2
        exact hbad'.out
      · have hok' : okB (pre ++ [x]) = true := by rw [okB_snoc, hok]; simp [hin]; omega
        have HO := Lib.hid hok'
        rw [decide_eq_false hin] at ht
        clear hbad hok' hin hr
        gi_wp2
        gi_region
        all_goals gi_wp2
        all_goals exact ⟨((KeepsOthers.setCell _ _ _).trans (KeepsOthers.drew _)).from _, (hK2.setCell (fun _ => .inr rfl) _).drew, HO.out, heap_set_other _ h2 (by omega), by rw [maskL_snoc, setB, ← IntKind.wrap_u32]; exact heap_set _ h3⟩
  case hdone =>
    rintro D W hD ⟨⟨hok, h2, h3⟩, hK⟩ hd
    have c2 : W.cell? ⟨w.heap.size, 0, none⟩ = some (.int .i64 0) := heap_cell (o := 0) h2 rfl
    have f2 := heap_frozen (o := 0) h2
    have e0 : checkN xs = 0 := by rw [checkN, hok]; rfl
    have HE := Lib.hid e0
    clear e0 hok
    gi_wp2
    have hd' : (W.setCell ⟨w.heap.size, 0, none⟩ (.int .i64 0)).heap[D]? = some (.deferred (some [])) := (KeepsOthers.setCell _ _ _).same _ _ hd rfl
    refine ⟨by simp, .inl ⟨_, _, rfl, run_takeDeferred hd', ?_⟩⟩
    have c5 : World.cell? _ ⟨w.heap.size, 0, none⟩ = some (.int .i64 0) := heap_cell (o := 0) (heap_putObj_cells (.deferred none) hd' (heap_set (.int .i64 0) h2) rfl) rfl
    refine ⟨.int .i64 0, ?_, by rw [HE.out], ?_⟩
    · simp [results, Try.f65, go_sem, c5]
    · exact (hF.trans' ((hK.setCell (p := ⟨w.heap.size, 0, none⟩) (fun _ => .inl rfl) _).putObj hD _) (by omega))
  case hstop =>
    rintro D c pre W hD hpre ⟨⟨rfl, hok, h2⟩, hFW⟩ hd
    have e0 : checkN xs = 1 := by
      rw [checkN, if_neg]
      intro h; rw [okB_prefix hpre h] at hok; cases hok
    have HE := Lib.hid e0
    clear e0 hok
    gi_wp2
    refine ⟨by simp, .inl ⟨_, _, rfl, run_takeDeferred hd, ?_⟩⟩
    have c5 : World.cell? _ ⟨w.heap.size, 0, none⟩ = some (.int .i64 1) := heap_cell (o := 0) (heap_putObj_cells (.deferred none) hd h2 rfl) rfl
    refine ⟨.int .i64 1, ?_, by rw [HE.out], ?_⟩
    · simp [results, Try.f65, go_sem, c5]
    · exact (hF.trans' (hFW.putObj hD _) (by omega))

theorem el_int : Elem Try.prog 59 3 (.int .i64 0) 1 8 := ⟨by kernel_rfl, by kernel_rfl, rfl, by decide⟩
theorem el_ext : Elem Try.prog 24 73 (.agg #[.int .i64 0, .int .i64 0]) 2 16 := ⟨by kernel_rfl, by kernel_rfl, rfl, by decide⟩

def ints (l : List Int) : List Value := l.map (Value.int .i64)

set_option maxHeartbeats 2000000 in
theorem list_calls (v : Value) (xs : List (Int × Int)) (w : World) (hlen : xs.length ≤ 100) (hv : Sl w v xs.length (extCells xs)) :
    Calls Try.prog 77 #[v] w fun e w' => ∃ r, e = .returned r ∧ w'.ownsRow w.heap.size 3 1 r (listF xs).length (ints (listF xs)) ∧ Fr No w w' := by
  have hck := check_calls v xs (w.alloc (.cells #[.slice none 0 0] 59)) hlen (hv.fr0 ((Fr.refl _ _).alloc _))
  obtain ⟨a, cap, rfl⟩ := hv.form
  have HC := Lib.hid hck
  clear hck
  have hb0 := heap_new w (.cells #[.slice none 0 0] 59)
  by_cases hok : okB (blkSeq (-1) xs) = true
  · have e0 : (checkN xs == 0) = true := by rw [checkN, hok]; rfl
    have eL : listF xs = blkSeq (-1) xs := by rw [listF, hok]; rfl
    have hlenB : (blkSeq (-1) xs).length ≤ 33 := okB_length hok (blkSeq_range xs (-1))
    have HL := Lib.hid eL
    clear eL hok
    refine (callsIn_wide (n := 0)).1 ?_
    refine callsIn_of_wp_marks Try.func77 rfl trivial ?_ rfl
    simp only [Try.ntmps77, List.size_toArray, List.length_cons, List.length_nil, Nat.reduceAdd, Nat.reduceSub, Array.replicate_succ, Array.replicate_zero, List.push_toArray, List.append_toArray, List.nil_append, List.cons_append]
    gi_wp2_with (first | (gi_at_call 65; refine (callsIn_wide.2 HC.out).mono ?_; rintro e w1 ⟨rfl, hF1⟩) | (gi_at_call 76; refine (callsIn_wide.2 (blocks_calls _ _ _ _)).mono ?_; rintro e w' ⟨rfl, rfl⟩))
    refine wpIn_gen fun W0 hW0 => ?_
    have hF : Fr No w W0 := by rw [hW0]; exact (((Fr.refl _ _).alloc _).trans' hF1 (fun _ _ h => h)).alloc _
    have hlt : w.heap.size < w1.heap.size := by have := hF1.size; simp at this; omega
    have hs : w1.heap.size < W0.heap.size := by rw [hW0]; simp
    have b3 : W0.heap[w.heap.size]? = some (.cells #[.slice none 0 0] 59 (0, 0)) := by rw [hW0]; exact heap_alloc _ (hF1.heap hb0 (fun h => h))
    have b4 : W0.heap[w1.heap.size]? = some (.cells #[.slice a xs.length cap] 24 (0, 0)) := by rw [hW0]; exact heap_new _ _
    clear hW0
    refine range_outer opens_wide rfl (gf := 91) (lb := #[.pointer (some ⟨w1.heap.size, 0, none⟩)]) rfl (enters_of Try.func91 (by kernel_rfl) rfl)
      (blocks1_iter w1.heap.size (.slice a xs.length cap) xs W0 hlen (fun k => k = w.heap.size) (by omega) ?hTv (heap_cell b4 rfl) (hv.fr0 hF)) (by intro x; rfl)
      (ownFrom_fr (Nat.le_refl _)) (Fr.refl _ _)
      (fun pre W => ∃ r, W.heap[w.heap.size]? = some (.cells #[r] 59 (0, 0)) ∧ W.ownsRow W0.heap.size 3 1 r pre.length (ints pre))
      (fun c pre W => False)
      ?hI ?hIx ⟨_, b3, World.ownsRow_nil _ _ _ _⟩ ?hround ?hdone ?hstop
    case hTv => exact fun k e hne hk => by have := hv.lt e hne; omega
    case hI => exact fun pre W W' row ⟨r, h1, h2⟩ hg hr => ⟨r, (ownFrom_heap (β := Unit)) () W W' row h1 hg hr, ownsRow_from h2 hg hr⟩
    case hIx => exact fun c s W W' row h hg hr => h
    case hround =>
      rintro l pre x W hl _ hpx ⟨r, h1, h2⟩ hK
      gi_wp2
      refine ⟨KeepsFrom.refl _ _, ⟨r, h1, h2⟩, hK, ?_⟩
      rintro W2 hg _ ⟨r2, h1, h2⟩ hK2
      have hpl : pre.length + 1 ≤ 33 := by have := hpx.length_le; simp at this; omega
      have c3 : W2.cell? ⟨w.heap.size, 0, none⟩ = some r2 := heap_cell (o := 0) h1 rfl
      have hsz := hK2.size
      gi_wp2_with (gi_at_builtin; refine append_in el_int rfl _ _ rfl W0.heap.size r2 _ _ rfl (h2.alloc _) ⟨W2.heap.size, 0, none⟩ 1 1 [.int .i64 x] rfl rfl (cell_one_new _ _ _) (by simp [Value.oneCell']) (by unfold maxLen; omega) (by omega) (by simp; omega) ?_; intro v' w3 hown' hgrow _; obtain ⟨g', cap', rfl⟩ := ownsRow_succ hown'; obtain ⟨q1, q2, q3, q4, q5, q6⟩ := app_box (B := W0.heap.size) h1 (by decide) h2 hgrow hown')
      exact ⟨q5, q6 _ _ hK2 (Nat.le_refl _) rfl, _, q3, by simpa [ints] using q4⟩
    case hdone =>
      rintro D W hD ⟨⟨r, h1, h2⟩, hK⟩ hd
      have c3 : W.cell? ⟨w.heap.size, 0, none⟩ = some r := heap_cell (o := 0) h1 rfl
      gi_wp2
      refine ⟨by simp, .inl ⟨_, _, rfl, run_takeDeferred hd, ?_⟩⟩
      refine ⟨_, results_tmp rfl _ _ _, r, rfl, ?_, ?_⟩
      · rw [HL.out]; exact ownsRow_base (ownsRow_from (B := 0) h2 (grownBy_putObj' _ D _) (fun k e => by cases e; exact ⟨Nat.zero_le _, _, hd, rfl⟩)) (by omega)
      · exact hF.trans' (hK.putObj hD _) (by omega)
    case hstop => rintro D c pre W hD hpre h hd; exact h.elim
  · have e0 : (checkN xs == 0) = false := by rw [checkN, if_neg hok]; rfl
    have eL : listF xs = [] := by rw [listF, if_neg hok]
    have HL := Lib.hid eL
    clear eL hok
    refine (callsIn_wide (n := 0)).1 ?_
    refine callsIn_of_wp Try.func77 rfl trivial ?_ rfl
    simp only [Try.ntmps77, List.size_toArray, List.length_cons, List.length_nil, Nat.reduceAdd, Nat.reduceSub, Array.replicate_succ, Array.replicate_zero, List.push_toArray, List.append_toArray, List.nil_append, List.cons_append]
    gi_wp2_with (gi_at_call 65; refine (callsIn_wide.2 HC.out).mono ?_; rintro e w1 ⟨rfl, hF1⟩; have c1 : w1.cell? ⟨w.heap.size, 0, none⟩ = some (.slice none 0 0) := heap_cell (o := 0) (hF1.heap hb0 (fun h => h)) rfl)
    refine bodyPost_ret (results_tmp rfl _ _ _) rfl ⟨_, rfl, ?_, ((Fr.refl _ _).alloc _).trans hF1⟩
    rw [HL.out]; exact World.ownsRow_nil _ _ _ _

end Go.Proofs.Ytbjffempiaohpaa
