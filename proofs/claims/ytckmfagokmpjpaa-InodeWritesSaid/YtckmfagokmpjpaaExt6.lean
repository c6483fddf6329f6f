/-
  The reference's Extents, Same.
-/
import Derived.Test.YtckmfagokmpjpaaExt5
import Derived.Laws.StructEq
namespace Go.Proofs.Ytckmfagokmpjpaa
set_option linter.unusedVariables false
set_option linter.unusedSimpArgs false
open Go.RowKit Go.Shelf

set_option maxHeartbeats 4000000 in
set_option maxRecDepth 100000 in
theorem extents_calls (v : Value) (l : List Int) (w : World) (hl : l.length ≤ 1000) (h0 : ∀ b ∈ l, 0 ≤ b ∧ b < 32) (hv : Sl w v l.length (ints l)) :
    Calls Try.prog 96 #[v] w fun e w' => ∃ r, e = .returned r ∧ w'.ownsRow w.heap.size 129 2 r (joinsL l).length (extCells (joinsL l)) ∧ Fr No w w' := by
  obtain ⟨a, cap, rfl⟩ := hv.form
  have HR := Lib.hid h0
  clear h0
  go_enter Try.func96, Try.ntmps96
  go_wp2
  go_loopw [3, 9] (fun o i wr => ∃ k : Nat, k ≤ l.length ∧ i = .int .i64 k ∧ wr.ownsRow w.heap.size 129 2 o (joinsL (l.take k)).length (extCells (joinsL (l.take k))) ∧ Fr No w wr)
    (fun _ i _ => l.length - (intOf i).toNat)
  case atStart => exact ⟨0, Nat.zero_le _, rfl, World.ownsRow_nil _ _ _ _, Fr.refl _ _⟩
  case round =>
    obtain ⟨k, hk, rfl, hrow, hF⟩ := hrel
    by_cases hlt : k < l.length
    · obtain ⟨b, off, rfl, hb, hc⟩ := hv.at (ints_ne _ k hlt)
      have hc1 := hF.cell (hc _ _ (ints_get _ k hlt)) (fun h => h)
      obtain ⟨hx0, hx1⟩ := HR.out _ (List.getElem_mem hlt)
      have hs : joinsL (l.take (k + 1)) = joinF (joinsL (l.take k)) l[k] := by rw [List.take_succ_eq_append_getElem hlt, joinsL_snoc]
      have hfi := joinsL_fine (l.take k) (fun b hb => HR.out b (List.mem_of_mem_take hb))
      have htl : (l.take k).length ≤ 1000 := by rw [List.length_take]; omega
      have hcl := hfi.2
      revert hrow hc1 hx0 hx1 hs hfi hcl
      generalize l[k] = x
      generalize joinsL (l.take k) = cur
      intro hrow hc1 hx0 hx1 hs hfi hcl
      have HS := Lib.hid hs
      have hfi1 := hfi.1
      clear hs hc hfi
      rcases List.eq_nil_or_concat cur with rfl | ⟨cur', ⟨x1, x2⟩, rfl⟩
      · have hv3 : ∃ a3 cap3, u3 = .slice a3 0 cap3 := (Sl.of_owns hrow).form
        obtain ⟨a3, cap3, rfl⟩ := hv3
        clear hv hfi1
        go_wp2
        go_quiet (fail)
        go_wp2_with (at_builtin; refine append_out el_ext rfl _ _ rfl w.heap.size (.slice a3 0 cap3) _ _ rfl (World.ownsRow.alloc (w := wr.drewN _) hrow _) ⟨wr.heap.size, 0, none⟩ 1 1 [.int .i64 x, .int .i64 1] rfl rfl (cell_two_new _ _ _ _) (by simp [Value.oneCell']) (by unfold maxLen; simp) (by simp) (by have := hF.size; simp; omega) ?_; intro v' w3 hown' hgrow _)
        exact ⟨⟨k + 1, by omega, by go_num, by rw [HS.out]; exact hown', hF.grown (grownBy_drewN_alloc hgrow) (fun k e hk => by have := (hrow.lt k e).1; omega)⟩, by simp [intOf]; omega⟩
      · rw [List.concat_eq_append] at *
        have hx := hfi1 (x1, x2) (by simp)
        obtain ⟨r1, r3, r4⟩ := hx
        dsimp only at r1 r3 r4
        rw [List.length_append, List.length_singleton] at hrow hcl
        obtain ⟨g, cap3, rfl⟩ := ownsRow_succ hrow
        have e1 : (extCells (cur' ++ [(x1, x2)]))[cur'.length * 2]? = some (.int .i64 x1) := by have := (extCells_get (cur' ++ [(x1, x2)]) cur'.length (by simp)).1; simpa using this
        have e2 : (extCells (cur' ++ [(x1, x2)]))[cur'.length * 2 + 1]? = some (.int .i64 x2) := by have := (extCells_get (cur' ++ [(x1, x2)]) cur'.length (by simp)).2; simpa using this
        have c1 := (hrow.cellAt (cur'.length * 2) (by omega)).trans e1
        have c2 := (hrow.cellAt (cur'.length * 2 + 1) (by omega)).trans e2
        have f2 := hrow.frozenAt (cur'.length * 2 + 1)
        have hw1 : IntKind.i64.wrap (cur'.length : Int) = (cur'.length : Int) := IntWalk.i64_in _ (by omega)
        have hw2 : IntKind.i64.wrap (x1 + x2) = x1 + x2 := IntWalk.i64_in _ (by omega)
        have hp0 : 0 ≤ (cur'.length : Int) := by omega
        clear e1 e2 hfi1 hv
        by_cases hxb : x1 + x2 = x
        · have hxb' : (x1 + x2 == x) = true := by simpa using hxb
          have hst := hrow.stored (cur'.length * 2 + 1) (.int .i64 (x2 + 1))
          rw [extCells_set] at hst
          have hj := joinF_hit cur' _ _ _ hxb
          have HST := Lib.hid hst
          have HJ := Lib.hid hj
          clear hst hxb hj
          go_wp2
          go_quiet (fail)
          go_wp2
          obtain ⟨q1, q2⟩ := HST.out
          exact ⟨⟨k + 1, by omega, by go_num, by rw [HS.out, HJ.out, List.length_append, List.length_singleton]; exact q1, (hF.drewN _).setCell (fun hk => by have := (hrow.lt g rfl).1; simp at hk; omega) _⟩, by simp [intOf]; omega⟩
        · have hxb' : (x1 + x2 == x) = false := by simpa using hxb
          have HJ := Lib.hid (joinF_miss cur' _ _ _ hxb)
          clear hxb
          go_wp2
          go_quiet (fail)
          go_wp2_with (at_builtin; refine append_out el_ext rfl _ _ rfl w.heap.size (.slice (some ⟨g, 0, none⟩) (cur'.length + 1) cap3) _ _ rfl (World.ownsRow.alloc (w := wr.drewN _) hrow _) ⟨wr.heap.size, 0, none⟩ 1 1 [.int .i64 x, .int .i64 1] rfl rfl (cell_two_new _ _ _ _) (by simp [Value.oneCell']) (by unfold maxLen; omega) (by omega) (by have := hF.size; simp; omega) ?_; intro v' w3 hown' hgrow _)
          exact ⟨⟨k + 1, by omega, by go_num, by rw [HS.out, HJ.out, extCells_snoc, List.length_append, List.length_append]; exact hown', hF.grown (grownBy_drewN_alloc hgrow) (fun k e hk => by have := (hrow.lt k e).1; omega)⟩, by simp [intOf]; omega⟩
    · go_wp2
      go_ret
      exact ⟨_, rfl, by rw [List.take_of_length_le (by omega)] at hrow; exact hrow, hF⟩

theorem eqA_ext (w : World) (x1 x2 y1 y2 : Int) :
    (Op.equalIn 10000 129 (.agg #[.int .i64 x1, .int .i64 x2]) (.agg #[.int .i64 y1, .int .i64 y2])).run Try.prog w = .ok (x1 == y1 && x2 == y2) w := by
  rw [show (10000 : Nat) = 9998 + 1 + 1 from rfl, run_equalIn_struct w _ _ _ _ (by kernel_rfl) (by kernel_rfl)]
  simp only [Program.fieldsOf, Try.underlying129]
  simp [Op.eqFields, part, go_sem]
  by_cases h1 : x1 = y1 <;> by_cases h2 : x2 = y2 <;> simp [h1, h2]
attribute [local go_sem high] eqA_ext

theorem drewN_drewN (w : World) (m n : Nat) : (w.drewN m).drewN n = w.drewN (m + n) := by simp [World.drewN, Nat.add_assoc]

/-- Lists alike. -/
theorem same_calls (va vb : Value) (xs ys : List (Int × Int)) (w : World) (hx : xs.length ≤ 1000) (hy : ys.length ≤ 1000) (hva : Sl w va xs.length (extCells xs)) (hvb : Sl w vb ys.length (extCells ys)) :
    Calls Try.prog 28 #[va, vb] w fun e w' => e = .returned (.bool (decide (xs = ys))) ∧ ∃ n, w' = w.drewN n := by
  obtain ⟨a, cap, rfl⟩ := hva.form
  obtain ⟨a', cap', rfl⟩ := hvb.form
  by_cases hl : xs.length = ys.length
  · have hlb : ((xs.length : Int) != (ys.length : Int)) = false := by simp [hl]
    have HL := Lib.hid hl
    clear hl
    go_enter Try.func28, Try.ntmps28
    go_wp2
    go_loopw [13] (fun i wr => ∃ k : Nat, k ≤ xs.length ∧ i = .int .i64 k ∧ xs.take k = ys.take k ∧ ∃ n, wr = w.drewN n) (fun i _ => xs.length - (intOf i).toNat)
    case atStart => exact ⟨0, by omega, rfl, rfl, 0, rfl⟩
    case round =>
      obtain ⟨k, hk, rfl, heq, n, rfl⟩ := hrel
      by_cases hlt : k < xs.length
      · have hlt' : k < ys.length := by have := HL.out; omega
        obtain ⟨b, off, rfl, hb, hc⟩ := hva.at (by intro e; have := extCells_get xs k hlt; rw [e] at this; simp at this)
        obtain ⟨b', off', rfl, hb', hc'⟩ := hvb.at (by intro e; have := extCells_get ys k hlt'; rw [e] at this; simp at this)
        have hc1 := hc _ _ (extCells_get xs k hlt).1
        have hc2 := hc _ _ (extCells_get xs k hlt).2
        have hd1 := hc' _ _ (extCells_get ys k hlt').1
        have hd2 := hc' _ _ (extCells_get ys k hlt').2
        have ht1 : xs.take (k + 1) = xs.take k ++ [xs[k]] := List.take_succ_eq_append_getElem hlt
        have ht2 : ys.take (k + 1) = ys.take k ++ [ys[k]] := List.take_succ_eq_append_getElem hlt'
        have hne : xs[k] ≠ ys[k] → xs ≠ ys := fun h e => by subst e; exact h rfl
        rw [← Nat.add_assoc] at hc2 hd2
        revert hc1 hc2 hd1 hd2 ht1 ht2 hne
        generalize xs[k] = x
        generalize ys[k] = y
        obtain ⟨x1, x2⟩ := x
        obtain ⟨y1, y2⟩ := y
        dsimp only
        intro hc1 hc2 hd1 hd2 ht1 ht2 hne
        have hk0 : 0 ≤ (k : Int) := by omega
        have hk1 : (k : Int) < (xs.length : Int) := by omega
        have hk2 : (k : Int) < (ys.length : Int) := by omega
        have HT := Lib.hid (And.intro (And.intro ht1 ht2) (And.intro hne heq))
        clear ht1 ht2 hne hc hc' hva hvb heq
        by_cases hq : x1 = y1 ∧ x2 = y2
        · have hqb : (x1 == y1 && x2 == y2) = true := by simpa using hq
          obtain ⟨rfl, rfl⟩ := hq
          go_wp2
          go_quiet (fail)
          go_wp2
          exact ⟨⟨k + 1, by omega, by go_num, by rw [HT.out.1.1, HT.out.1.2, HT.out.2.2], _, rfl⟩, by simp [intOf]; omega⟩
        · have hqb : (x1 == y1 && x2 == y2) = false := by rw [Bool.and_eq_false_iff]; simp; omega
          have hd : decide (xs = ys) = false := by simp; exact HT.out.2.1 (by simp; omega)
          have HD := Lib.hid hd
          clear hd hq
          go_wp2
          go_quiet (fail)
          go_wp2
          go_ret
          exact ⟨by rw [HD.out]; rfl, _, drewN_drewN _ _ _⟩
      · have hxy : xs = ys := by rw [List.take_of_length_le (by omega), List.take_of_length_le (by have := HL.out; omega)] at heq; exact heq
        have HD := Lib.hid (show decide (xs = ys) = true by simp [hxy])
        clear hxy heq hva hvb
        go_wp2
        go_ret
        exact ⟨by rw [HD.out]; rfl, n, rfl⟩
  · have hd : decide (xs = ys) = false := by simp; rintro rfl; exact hl rfl
    have hlb : ((xs.length : Int) != (ys.length : Int)) = true := by simp; omega
    rw [hd]
    clear hd hl hva hvb
    go_enter Try.func28, Try.ntmps28
    go_wp2
    go_ret
    exact ⟨rfl, 0, rfl⟩

end Go.Proofs.Ytckmfagokmpjpaa
