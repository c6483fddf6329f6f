/-
  The law HandlePlaces as its row says it.
-/
import Derived.Test.YtoajnmbbgbpbgaaGreatZHd20
import Derived.Test.YtoajnmbbgbpbgaaGreatZFactsMake
import Derived.Test.YtoajnmbbgbpbgaaGreatZOpen8
namespace Go.Proofs.YtoajnmbbgbpbgaaGreat.handlePlaces
set_option linter.unusedVariables false
set_option linter.unusedSimpArgs false
open Go.ChangeShapes Go.WideShapes Go.ChangeAt Go.RowKit
open Go.ChangeMaps (open_string shut_string)

set_option maxRecDepth 100000 in
theorem lifted (os : Os) (started : os.Started) (H : Type) (enc : TypeId × Value → H) :
    ReturnsInHanded {} Tryz.checked os 3 .any (Rows.handlePlacesSpec.pre6 enc Tryz.prog Tryz.f3 Rows.handlePlacesRow.domain false) (Rows.handlePlacesSpec.post enc Tryz.prog Tryz.f3 false true false false) := by
  refine returnsInHanded_of_change_sized (C := Tryz.checked) fact_own started (by kernel_rfl) Tryz.func3
    (ChangeSpec.witness6 (enc := enc) (C := Tryz.checked) false ⟨#[], #[.slice none 0 0, .slice none 0 0], []⟩ 8 (by kernel_rfl) (by kernel_rfl) (by kernel_rfl) (by kernel_rfl)) ?_
  intro W base args ds gs before hval0 hW hcnd hwt _
  have hval : ∀ (j : Nat) t v, Tryz.f3.params[j]? = some t → args[j]? = some v → Value.okWide Tryz.prog W .any base t v := hval0
  have hW' := hW
  obtain ⟨p, q, hA0, hV, rfl, hfz, hnd⟩ := hW
  have hA : DataW.TrodAll enc Tryz.prog W 0 (fun _ => true) true Tryz.f3.params.toList args.toList ds p := hA0
  rw [Tryz.params3] at hA hval
  obtain ⟨v0, vs0, d0, ds0, p0, q0, hargs, rfl, rfl, h0, r0⟩ := trodAll_cons hA
  obtain ⟨v1, vs1, d1, ds1, p1, q1, rfl, rfl, rfl, h1, r1⟩ := trodAll_cons r0
  obtain ⟨rfl, rfl, rfl⟩ := trodAll_nil r1
  obtain rfl : args = #[v0, v1] := by cases args; simp_all
  obtain ⟨rfl, rfl⟩ := trodVars_none hV
  have k0 := h0
  have lt0 : ∀ x ∈ p0, x.block < W.heap.size := by obtain ⟨m, hm⟩ := k0; exact DataW.trod_lt m _ _ _ hm
  obtain ⟨a0, len0, cap0, rfl⟩ := okWide_slice Tryz.underlying22 (hval 0 22 v0 rfl rfl)
  obtain ⟨x0, w0, m0, e0⟩ : ∃ xs : List Int, Sl W (.slice a0 len0 cap0) xs.length (bys xs) ∧ xs.length ≤ reachBytes ∧ ∀ y ∈ xs, 0 ≤ y ∧ y < 256 := by
    obtain ⟨fuel, hf⟩ := h0
    exact sl_open_bytes_w Tryz.underlying22 Tryz.underlying5 (by kernel_rfl) (by kernel_rfl) hf (light_all hwt (j := 0) rfl rfl)
  have k1 := h1
  have lt1 : ∀ x ∈ p1, x.block < W.heap.size := by obtain ⟨m, hm⟩ := k1; exact DataW.trod_lt m _ _ _ hm
  obtain ⟨a1, len1, cap1, rfl⟩ := okWide_slice Tryz.underlying23 (hval 1 23 v1 rfl rfl)
  obtain ⟨x1, w1, m1, e1⟩ : ∃ L : List ActH, Sl W (.slice a1 len1 cap1) L.length (L.flatMap actHCell) ∧ L.length ≤ maxLen ∧ ∀ y ∈ L, actHOk W y := by
    obtain ⟨fuel, hf⟩ := h1
    exact open_actsH (tb := 0) Tryz.underlying23 Tryz.underlying31 (by kernel_rfl) (by kernel_rfl) (by kernel_rfl) (by kernel_rfl) Tryz.underlying5 (by kernel_rfl) (by kernel_rfl) hf (light_all hwt (j := 1) rfl rfl)
  clear hA0 hval0
  have walk := handlePlaces_calls (.slice a0 len0 cap0) x0 (.slice a1 len1 cap1) x1 W e0 w0 (by have := m1; unfold maxLen at this; omega) w1 e1
  refine walk.mono fun e W' ⟨he, hF⟩ => ?_
  have bel := Fr.below hF
  subst he
  exact ⟨_, rfl, _, _, _, [], _, [], hW', trodAll_mk1 (shut_bool Tryz.underlying4 _), (trodAll_cons_mk (Below.trod fact_laid (by kernel_rfl) (of_decide_eq_true (by kernel_rfl)) k0 bel lt0) (trodAll_cons_mk (Below.trod fact_laid (by kernel_rfl) (of_decide_eq_true (by kernel_rfl)) k1 bel lt1) trodAll_mk0)), rfl, bel.frame _, fun h => by cases h⟩

theorem closed : joinedFacts Tryz.prog 3 Tryz.f3 Rows.handlePlacesSpec Rows.handlePlacesRow = true :=
  joined_of (by kernel_rfl) fact_laid fact_mapsRowed (by kernel_rfl) (by kernel_rfl) (by kernel_rfl) fact_stops (by kernel_rfl) fact_stopKnobs
    (by kernel_rfl) (by kernel_rfl) (by kernel_rfl) (by kernel_rfl) (by kernel_rfl) (by kernel_rfl) (by kernel_rfl) (by kernel_rfl) (by kernel_rfl) (by kernel_rfl) (by kernel_rfl) (by kernel_rfl) (by kernel_rfl) fact_plainKeys (by kernel_rfl) fact_stopsHeard fact_mayEnter fact_lifted fact_make
    (by kernel_rfl) (by kernel_rfl) (by kernel_rfl) (by kernel_rfl)
theorem over : Rows.handlePlacesRow.holds Tryz.pinned (OpenSpec.ofChange Rows.handlePlacesSpec) :=
  OpenClaim.holds_of_wide 3 Tryz.f3 rfl rfl rfl rfl rfl rfl rfl ⟨rfl, rfl, rfl, rfl, rfl⟩ rfl rfl rfl rfl rfl (by kernel_rfl) Tryz.func3 closed
    (of_decide_eq_true (by kernel_rfl)) (by unfold Func.isWrapper; first | (rw [if_pos (by decide +kernel)]; kernel_rfl) | (rw [if_neg (by decide +kernel)]; exact ⟨rfl, rfl⟩))
    (fun os started H enc _ => lifted os started H enc)

/-- The statement. -/
theorem proved : Rows.HandlePlacesSaid := over
end Go.Proofs.YtoajnmbbgbpbgaaGreat.handlePlaces
