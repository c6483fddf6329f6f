/-
  extent.Total, Block, Bits; the reference's Set.
-/
import Derived.Test.YtckmfagokmpjpaaExt2
import Derived.Deep.QuietTactic
import Derived.BigQuiet
import Derived.WalkSmall
import Derived.WalkSpells
namespace Go.Proofs.Ytckmfagokmpjpaa
set_option linter.unusedVariables false
set_option linter.unusedSimpArgs false
open Go.RowKit Go.Shelf

theorem ints_get (l : List Int) (k : Nat) (h : k < l.length) : (ints l)[k]? = some (.int .i64 l[k]) := by simp [ints, h]
theorem ints_ne (l : List Int) (k : Nat) (h : k < l.length) : ints l ≠ [] := by intro e; have := ints_get l k h; rw [e] at this; simp at this

theorem total_calls (v : Value) (xs : List (Int × Int)) (w : World) (hlen : xs.length ≤ 100) (hv : Sl w v xs.length (extCells xs)) :
    Calls Try.prog 30 #[v] w fun e w' => e = .returned (.int .i64 (listF xs).length) ∧ Fr No w w' := by
  have HL := Lib.hid (list_calls v xs w hlen hv)
  obtain ⟨a, cap, rfl⟩ := hv.form
  go_enter Try.func30, Try.ntmps30
  go_wp2_with (go_at_call 97; refine HL.out.mono ?_; rintro e w1 ⟨r, rfl, hr, hF⟩; obtain ⟨a2, cap2, rfl⟩ := (Sl.of_owns hr).form)
  go_ret
  exact ⟨rfl, hF⟩

theorem block_calls (v : Value) (xs : List (Int × Int)) (n : Int) (w : World) (hlen : xs.length ≤ 100) (hv : Sl w v xs.length (extCells xs)) :
    Calls Try.prog 29 #[v, .int .i64 n] w fun e w' => e = .returned (if 0 ≤ n ∧ n < (listF xs).length then .tuple #[.int .i64 ((listF xs).getD n.toNat 0), .int .i64 0] else .tuple #[.int .i64 0, .int .i64 1]) ∧ Fr No w w' := by
  have HL := Lib.hid (list_calls v xs w hlen hv)
  obtain ⟨a, cap, rfl⟩ := hv.form
  by_cases h0 : 0 ≤ n
  · by_cases h1 : n < (listF xs).length
    · rw [if_pos ⟨h0, h1⟩]
      obtain ⟨k, rfl⟩ := Int.eq_ofNat_of_zero_le h0
      have h2 : k < (listF xs).length := by omega
      have hg := ints_get _ k h2
      have hne := ints_ne _ k h2
      go_enter Try.func29, Try.ntmps29
      go_wp2_with (go_at_call 97; refine HL.out.mono ?_; rintro e w1 ⟨r, rfl, hr, hF⟩; obtain ⟨a2, cap2, rfl⟩ := (Sl.of_owns hr).form; obtain ⟨b, off, rfl, hb, hc⟩ := (Sl.of_owns hr).at hne; have hc1 := hc _ _ hg)
      go_ret2
      exact ⟨by simp [List.getD, h2], hF⟩
    · rw [if_neg (by omega)]
      go_enter Try.func29, Try.ntmps29
      go_wp2_with (go_at_call 97; refine HL.out.mono ?_; rintro e w1 ⟨r, rfl, hr, hF⟩; obtain ⟨a2, cap2, rfl⟩ := (Sl.of_owns hr).form)
      go_ret2
      exact ⟨rfl, hF⟩
  · rw [if_neg (by omega)]
    go_enter Try.func29, Try.ntmps29
    go_wp2_with (go_at_call 97; refine HL.out.mono ?_; rintro e w1 ⟨r, rfl, hr, hF⟩; obtain ⟨a2, cap2, rfl⟩ := (Sl.of_owns hr).form)
    go_ret2
    exact ⟨rfl, hF⟩

/-- The bits of a list of blocks: the reference's. -/
theorem set_calls (v : Value) (l : List Int) (w : World) (hl : l.length ≤ 1000) (h0 : ∀ b ∈ l, 0 ≤ b ∧ b < 32) (hv : Sl w v l.length (ints l)) :
    Calls Try.prog 32 #[v] w fun e w' => e = .returned (.int .u32 (maskL l)) ∧ w = w' := by
  obtain ⟨a, cap, rfl⟩ := hv.form
  go_enter Try.func32, Try.ntmps32
  go_wp2
  go_loop [3, 8] (fun s i => ∃ k : Nat, k ≤ l.length ∧ i = .int .i64 k ∧ s = .int .u32 (maskL (l.take k))) (fun _ i => l.length - (intOf i).toNat)
  case atStart => exact ⟨0, Nat.zero_le _, rfl, rfl⟩
  case round =>
    obtain ⟨k, hk, rfl, rfl⟩ := hrel
    by_cases hlt : k < l.length
    · obtain ⟨b, off, rfl, hb, hc⟩ := hv.at (ints_ne _ k hlt)
      have hc1 := hc _ _ (ints_get _ k hlt)
      have hx := h0 _ (List.getElem_mem hlt)
      have hs : maskL (l.take (k + 1)) = setB (maskL (l.take k)) l[k] := by rw [List.take_succ_eq_append_getElem hlt, maskL_snoc]
      revert hc1 hx hs
      generalize l[k] = x
      intro hc1 hx hs
      have HS := Lib.hid hs
      obtain ⟨hx0, hx1⟩ := hx
      clear hs h0 hc hv
      go_wp2
      go_round
      case rel => exact ⟨k + 1, by omega, by go_num, by rw [HS.out, setB]⟩
      case measure => simp [intOf]; omega
    · go_wp2
      go_ret
      exact ⟨by rw [List.take_of_length_le (by omega)]; rfl, rfl⟩

set_option maxHeartbeats 400000 in
theorem bits_calls (v : Value) (xs : List (Int × Int)) (w : World) (hlen : xs.length ≤ 100) (hv : Sl w v xs.length (extCells xs)) :
    Calls Try.prog 31 #[v] w fun e w' => e = .returned (.int .u32 (maskL (listF xs))) ∧ Fr No w w' := by
  have HL := Lib.hid (list_calls v xs w hlen hv)
  have h0 := listF_range xs
  have hl := listF_length xs
  obtain ⟨a, cap, rfl⟩ := hv.form
  generalize listF xs = l at *
  go_enter Try.func31, Try.ntmps31
  go_wp2_with (go_at_call 97; refine HL.out.mono ?_; rintro e w1 ⟨r, rfl, hr, hF⟩; replace hr := Sl.of_owns hr; obtain ⟨a2, cap2, rfl⟩ := hr.form)
  go_loop [3, 9] (fun s i => ∃ k : Nat, k ≤ l.length ∧ i = .int .i64 k ∧ s = .int .u32 (maskL (l.take k))) (fun _ i => l.length - (intOf i).toNat)
  case atStart => exact ⟨0, Nat.zero_le _, rfl, rfl⟩
  case round =>
    obtain ⟨k, hk, rfl, rfl⟩ := hrel
    by_cases hlt : k < l.length
    · obtain ⟨b, off, rfl, hb, hc⟩ := hr.at (ints_ne _ k hlt)
      have hc1 := hc _ _ (ints_get _ k hlt)
      have hx := h0 _ (List.getElem_mem hlt)
      have hs : maskL (l.take (k + 1)) = setB (maskL (l.take k)) l[k] := by rw [List.take_succ_eq_append_getElem hlt, maskL_snoc]
      revert hc1 hx hs
      generalize l[k] = x
      intro hc1 hx hs
      have HS := Lib.hid hs
      obtain ⟨hx0, hx1⟩ := hx
      clear hs h0 hc hv
      go_wp2
      go_round
      case rel => exact ⟨k + 1, by omega, by go_num, by rw [HS.out, setB]⟩
      case measure => simp [intOf]; omega
    · go_wp2
      go_ret
      exact ⟨by rw [List.take_of_length_le (by omega)]; rfl, hF⟩

theorem extCells_set (l : List (Int × Int)) (x1 x2 y : Int) : (extCells (l ++ [(x1, x2)])).set (l.length * 2 + 1) (.int .i64 y) = extCells (l ++ [(x1, y)]) := by
  induction l with
  | nil => rfl
  | cons a l ih =>
    simp only [extCells, List.cons_append, List.flatMap_cons, List.nil_append, List.length_cons, Nat.succ_mul] at ih ⊢
    rw [show l.length * 2 + 2 + 1 = (l.length * 2 + 1) + 1 + 1 by omega, List.set_cons_succ, List.set_cons_succ, ih]
theorem extCells_snoc (l : List (Int × Int)) (x : Int × Int) : extCells (l ++ [x]) = extCells l ++ [.int .i64 x.1, .int .i64 x.2] := by simp [extCells]
theorem joinF_hit (l : List (Int × Int)) (x1 x2 b : Int) (h : x1 + x2 = b) : joinF (l ++ [(x1, x2)]) b = l ++ [(x1, x2 + 1)] := by simp [joinF, h]
theorem joinF_miss (l : List (Int × Int)) (x1 x2 b : Int) (h : ¬ x1 + x2 = b) : joinF (l ++ [(x1, x2)]) b = l ++ [(x1, x2)] ++ [(b, 1)] := by simp [joinF, h]

theorem extCells_one (l : List (Int × Int)) : ∀ u ∈ extCells l, u.oneCell' = true := by
  intro u hu
  simp only [extCells, List.mem_flatMap, List.mem_cons, List.not_mem_nil, or_false] at hu
  obtain ⟨x, _, rfl | rfl⟩ := hu <;> rfl
theorem extCells_len (l : List (Int × Int)) : (extCells l).length = l.length * 2 := by
  induction l with
  | nil => rfl
  | cons x l ih => simp only [extCells, List.flatMap_cons, List.length_append, List.length_cons, List.length_nil] at ih ⊢; omega

set_option maxHeartbeats 2000000 in
theorem join_calls (n0 : Nat) (v : Value) (l : List (Int × Int)) (b : Int) (w : World) (hl : l.length ≤ 1000) (hr : ∀ x ∈ l, 0 ≤ x.1 ∧ x.1 ≤ 100 ∧ 0 ≤ x.2 ∧ x.2 ≤ 100) (hb0 : 0 ≤ b ∧ b ≤ 100) (hn0 : n0 ≤ w.heap.size)
    (hv : w.ownsRow n0 129 2 v l.length (extCells l)) :
    Calls Try.prog 95 #[v, .int .i64 b] w fun e w' => ∃ r, e = .returned r ∧ w'.ownsRow n0 129 2 r (joinF l b).length (extCells (joinF l b)) ∧ w.grownBy w' v.ownBlock := by
  obtain ⟨hb1, hb2⟩ := hb0
  rcases List.eq_nil_or_concat l with rfl | ⟨l', ⟨x1, x2⟩, rfl⟩
  · obtain ⟨_, ⟨rfl, _⟩ | ⟨g, cap, cur, rfl, hg, hh, q⟩⟩ := id hv
    · go_enter Try.func95, Try.ntmps95
      go_wp2
      go_quiet (fail)
      go_wp2_with (at_builtin; refine append_out el_ext rfl _ _ rfl n0 (.slice none 0 0) _ _ rfl (World.ownsRow.alloc (w := w.drewN _) hv _) ⟨w.heap.size, 0, none⟩ 1 1 [.int .i64 b, .int .i64 1] rfl rfl (cell_two_new _ _ _ _) (by simp [Value.oneCell']) (by unfold maxLen; simp) (by simp) (by simp; omega) ?_; intro v' w3 hown' hgrow _)
      go_ret
      exact ⟨v', rfl, hown', grownBy_drewN_alloc hgrow⟩
    · go_enter Try.func95, Try.ntmps95
      go_wp2
      go_quiet (fail)
      go_wp2_with (at_builtin; refine append_out el_ext rfl _ _ rfl n0 (.slice (some ⟨g, 0, none⟩) 0 cap) _ _ rfl (World.ownsRow.alloc (w := w.drewN _) hv _) ⟨w.heap.size, 0, none⟩ 1 1 [.int .i64 b, .int .i64 1] rfl rfl (cell_two_new _ _ _ _) (by simp [Value.oneCell']) (by unfold maxLen; simp) (by simp) (by simp; omega) ?_; intro v' w3 hown' hgrow _)
      go_ret
      exact ⟨v', rfl, hown', grownBy_drewN_alloc hgrow⟩
  · rw [List.concat_eq_append] at *
    have hx := hr (x1, x2) (by simp)
    obtain ⟨r1, r2, r3, r4⟩ := hx
    have hll : l'.length ≤ 999 := by simp at hl; omega
    rw [List.length_append, List.length_singleton] at hv
    obtain ⟨g, cap, rfl⟩ := ownsRow_succ hv
    have e1 : (extCells (l' ++ [(x1, x2)]))[l'.length * 2]? = some (.int .i64 x1) := by have := (extCells_get (l' ++ [(x1, x2)]) l'.length (by simp)).1; simpa using this
    have e2 : (extCells (l' ++ [(x1, x2)]))[l'.length * 2 + 1]? = some (.int .i64 x2) := by have := (extCells_get (l' ++ [(x1, x2)]) l'.length (by simp)).2; simpa using this
    have c1 := (hv.cellAt (l'.length * 2) (by omega)).trans e1
    have c2 := (hv.cellAt (l'.length * 2 + 1) (by omega)).trans e2
    have f2 := hv.frozenAt (l'.length * 2 + 1)
    clear e1 e2 hr hl
    by_cases hxb : x1 + x2 = b
    · have hxb' : (x1 + x2 == b) = true := by simpa using hxb
      have hst := hv.stored (l'.length * 2 + 1) (.int .i64 (x2 + 1))
      rw [extCells_set] at hst
      rw [joinF_hit _ _ _ _ hxb]
      have HST := Lib.hid hst
      clear hst hxb
      go_enter Try.func95, Try.ntmps95
      go_wp2
      go_quiet (fail)
      go_wp2
      go_ret
      obtain ⟨q1, q2⟩ := HST.out
      rw [List.length_append, List.length_singleton]
      exact ⟨_, rfl, q1, ⟨q2.os, q2.tape, q2.output, q2.size, q2.block⟩⟩
    · have hxb' : (x1 + x2 == b) = false := by simpa using hxb
      rw [joinF_miss _ _ _ _ hxb]
      clear hxb
      go_enter Try.func95, Try.ntmps95
      go_wp2
      go_quiet (fail)
      go_wp2_with (at_builtin; refine append_out el_ext rfl _ _ rfl n0 (.slice (some ⟨g, 0, none⟩) (l'.length + 1) cap) _ _ rfl (World.ownsRow.alloc (w := w.drewN _) hv _) ⟨w.heap.size, 0, none⟩ 1 1 [.int .i64 b, .int .i64 1] rfl rfl (cell_two_new _ _ _ _) (by simp [Value.oneCell']) (by unfold maxLen; omega) (by omega) (by simp; omega) ?_; intro v' w3 hown' hgrow _)
      go_ret
      exact ⟨v', rfl, by rw [extCells_snoc, List.length_append, List.length_append]; exact hown', grownBy_drewN_alloc hgrow⟩

end Go.Proofs.Ytckmfagokmpjpaa
