/-
  The reference's Extents, Same.
-/
import Derived.Test.YtbjffempiaohpaaExt5
import Derived.Laws.StructEq
namespace Go.Proofs.Ytbjffempiaohpaa
set_option linter.unusedVariables false
set_option linter.unusedSimpArgs false
open Go.RowKit Go.Shelf

theorem eqA_ext (w : World) (x1 x2 y1 y2 : Int) :
    (Op.equalIn 10000 73 (.agg #[.int .i64 x1, .int .i64 x2]) (.agg #[.int .i64 y1, .int .i64 y2])).run Try.prog w = .ok (x1 == y1 && x2 == y2) w := by
  rw [show (10000 : Nat) = 9998 + 1 + 1 from rfl, run_equalIn_struct w _ _ _ _ (by kernel_rfl) (by kernel_rfl)]
  simp only [Program.fieldsOf, Try.underlying73]
  simp [Op.eqFields, part, go_sem]
  by_cases h1 : x1 = y1 <;> by_cases h2 : x2 = y2 <;> simp [h1, h2]
attribute [local go_sem high] eqA_ext

theorem drewN_drewN (w : World) (m n : Nat) : (w.drewN m).drewN n = w.drewN (m + n) := by simp [World.drewN, Nat.add_assoc]

/-- Lists alike. -/
theorem same_calls (va vb : Value) (xs ys : List (Int × Int)) (w : World) (hx : xs.length ≤ 1000) (hy : ys.length ≤ 1000) (hva : Sl w va xs.length (extCells xs)) (hvb : Sl w vb ys.length (extCells ys)) :
    Calls Try.prog 43 #[va, vb] w fun e w' => e = .returned (.bool (decide (xs = ys))) ∧ ∃ n, w' = w.drewN n := by
  obtain ⟨a, cap, rfl⟩ := hva.form
  obtain ⟨a', cap', rfl⟩ := hvb.form
  by_cases hl : xs.length = ys.length
  · have hlb : ((xs.length : Int) != (ys.length : Int)) = false := by simp [hl]
    have HL := Lib.hid hl
    clear hl
    go_enter Try.func43, Try.ntmps43
    go_wp2
    go_loopw [13] (fun i wr => ∃ k : Nat, k ≤ xs.length ∧ i = .int .i64 k ∧ xs.take k = ys.take k ∧ ∃ n, wr = w.drewN n) (fun i _ => xs.length - (intOf i).toNat)
    case atStart => exact ⟨0, by omega, rfl, rfl, 0, rfl⟩
    case round =>
      obtain ⟨k, hk, rfl, heq, n, rfl⟩ := hrel
      by_cases hlt : k < xs.length
      · have hlt' : k < ys.length := by have := HL.out; omega
        obtain ⟨b, off, rfl, hb, hc⟩ := hva.at (by intro e; have := extCells_get xs k hlt; rw [e] at this; simp at this)
        obtain ⟨b', off', rfl, hb', hc'⟩ := hvb.at (by intro e; have := extCells_get ys k hlt'; rw [e] at this; simp at this)
        have hc1 := hc _ _ (extCells_get xs k hlt).1
        have hc2 := hc _ _ (extCells_get xs k hlt).2
        have hd1 := hc' _ _ (extCells_get ys k hlt').1
        have hd2 := hc' _ _ (extCells_get ys k hlt').2
        have ht1 : xs.take (k + 1) = xs.take k ++ [xs[k]] := List.take_succ_eq_append_getElem hlt
        have ht2 : ys.take (k + 1) = ys.take k ++ [ys[k]] := List.take_succ_eq_append_getElem hlt'
        have hne : xs[k] ≠ ys[k] → xs ≠ ys := fun h e => by subst e; exact h rfl
        rw [← Nat.add_assoc] at hc2 hd2
        revert hc1 hc2 hd1 hd2 ht1 ht2 hne
        generalize xs[k] = x
        generalize ys[k] = y
        obtain ⟨x1, x2⟩ := x
        obtain ⟨y1, y2⟩ := y
        dsimp only
        intro hc1 hc2 hd1 hd2 ht1 ht2 hne
        have hk0 : 0 ≤ (k : Int) := by omega
        have hk1 : (k : Int) < (xs.length : Int) := by omega
        have hk2 : (k : Int) < (ys.length : Int) := by omega
        have HT := Lib.hid (And.intro (And.intro ht1 ht2) (And.intro hne heq))
        clear ht1 ht2 hne hc hc' hva hvb heq
        by_cases hq : x1 = y1 ∧ x2 = y2
        · have hqb : (x1 == y1 && x2 == y2) = true := by simpa using hq
          obtain ⟨rfl, rfl⟩ := hq
          go_wp2
          go_quiet (fail)
          go_wp2
          exact ⟨⟨k + 1, by omega, by go_num, by rw [HT.out.1.1, HT.out.1.2, HT.out.2.2], _, rfl⟩, by simp [intOf]; omega⟩
        · have hqb : (x1 == y1 && x2 == y2) = false := by rw [Bool.and_eq_false_iff]; simp; omega
          have hd : decide (xs = ys) = false := by simp; exact HT.out.2.1 (by simp; omega)
          have HD := Lib.hid hd
          clear hd hq
          go_wp2
          go_quiet (fail)
          go_wp2
          go_ret
          exact ⟨by rw [HD.out]; rfl, _, drewN_drewN _ _ _⟩
      · have hxy : xs = ys := by rw [List.take_of_length_le (by omega), List.take_of_length_le (by have := HL.out; omega)] at heq; exact heq
        have HD := Lib.hid (show decide (xs = ys) = true by simp [hxy])
        clear hxy heq hva hvb
        go_wp2
        go_ret
        exact ⟨by rw [HD.out]; rfl, n, rfl⟩
  · have hd : decide (xs = ys) = false := by simp; rintro rfl; exact hl rfl
    have hlb : ((xs.length : Int) != (ys.length : Int)) = true := by simp; omega
    rw [hd]
    clear hd hl hva hvb
    go_enter Try.func43, Try.ntmps43
    go_wp2
    go_ret
    exact ⟨rfl, 0, rfl⟩

end Go.Proofs.Ytbjffempiaohpaa
