/-
  Chapter 13, the reference: cell, open, free, begin, bad.
-/
import Derived.Test.YtoajnmbbgbpbgaaGreatZHd3
import Derived.Test.YtoajnmbbgbpbgaaGreatZFs41
import Derived.Test.YtoajnmbbgbpbgaaGreatZFs42
import Derived.Test.YtoajnmbbgbpbgaaGreatZE
namespace Go.Proofs.YtoajnmbbgbpbgaaGreat
set_option linter.unusedVariables false
set_option linter.unusedSimpArgs false
open Go.RowKit Go.Shelf Go.Maps

set_option maxRecDepth 100000 in
theorem rcell13_calls (h : Int) (w : World) (h1 : 1 ≤ h ∧ h ≤ 4) :
    Calls Tryz.prog 72 #[.int .i64 h] w fun e w' => e = .returned (.int .i64 (cellH h)) ∧ w = w' := by
  have w1 : IntKind.i64.wrap (h - 1) = h - 1 := IntWalk.i64_in _ (by omega)
  have w2 : IntKind.i64.wrap (16 * (h - 1)) = 16 * (h - 1) := IntWalk.i64_in _ (by omega)
  have w3 : IntKind.i64.wrap (64 + 16 * (h - 1)) = 64 + 16 * (h - 1) := IntWalk.i64_in _ (by omega)
  clear h1
  go_enter Tryz.func72, Tryz.ntmps72
  go_wp2
  go_ret
  exact ⟨rfl, rfl⟩

/-- What the reference's open answers. -/
def openV (B : List Int) (h : Int) : Int × Int × Bool := match lookF B h with | none => (0, 0, false) | some p => (p.1, p.2.2, true)
theorem openV_none {B : List Int} {h : Int} (e : lookF B h = none) : openV B h = (0, 0, false) := by rw [openV, e]
theorem openV_some {B : List Int} {h n s a : Int} (e : lookF B h = some (n, s, a)) : openV B h = (n, a, true) := by rw [openV, e]
theorem look_nocheck {B : List Int} {h : Int} (e : checkE B ≠ 0) : lookF B h = none := by
  cases hl : lookF B h with
  | none => rfl
  | some p => exact absurd (look_check hl) e

set_option maxHeartbeats 2000000 in
set_option maxRecDepth 1000000 in
theorem ropen13_calls {w : World} {rb : Nat} {R : Nat → Prop} {F B : List Int} (h : RefAt w rb R F B) (k : Int) :
    Calls Tryz.prog 69 #[.pointer (some ⟨rb, 0, none⟩), .int .i64 k] w fun e w' => e = .returned (.tuple #[.int .i64 (openV B k).1, .int .i64 (openV B k).2.1, .bool (openV B k).2.2]) ∧ Fr No w w' := by
  have HCK := Lib.hid (rcheck12_calls h)
  by_cases hx : checkE B = 0
  · rw [hx] at HCK
    by_cases hlo : k < 1
    · have hl : lookF B k = none := by rw [lookF, if_pos (.inl hlo)]
      rw [openV_none hl]
      have d1 : decide (k < 1) = true := decide_eq_true hlo
      clear h hx hlo hl
      go_enter Tryz.func69, Tryz.ntmps69
      go_wp2_with fail
      refine HCK.out.mono ?_
      rintro e w1 ⟨rfl, hF1⟩
      go_wp2
      go_ret3
      exact ⟨rfl, hF1⟩
    · have d1 : decide (k < 1) = false := decide_eq_false hlo
      by_cases hhi : 4 < k
      · have hl : lookF B k = none := by rw [lookF, if_pos (.inr hhi)]
        rw [openV_none hl]
        have d2 : decide (4 < k) = true := decide_eq_true hhi
        clear h hx hlo hl hhi
        go_enter Tryz.func69, Tryz.ntmps69
        go_wp2_with fail
        refine HCK.out.mono ?_
        rintro e w1 ⟨rfl, hF1⟩
        go_wp2
        go_ret3
        exact ⟨rfl, hF1⟩
      · have d2 : decide (4 < k) = false := decide_eq_false hhi
        have hr := cellH_range (h := k) (by omega)
        have HCE := Lib.hid (fun w1 => rcell13_calls k w1 (by omega))
        have HG1 := Lib.hid (fun w1 (hF : Fr No w w1) => rget_calls (h.fr0 hF) (cellH k) (by omega))
        have HG2 := Lib.hid (fun w1 (hF : Fr No w w1) => rget_calls (h.fr0 hF) (cellH k + 8) (by omega))
        have hw8 : IntKind.i64.wrap (cellH k + 8) = cellH k + 8 := IntWalk.i64_in _ (by omega)
        have hlk : lookF B k = if getF B (cellH k) < 1 ∨ 8 < getF B (cellH k) then none else if (sizeR B (getF B (cellH k) - 1)).2 ≠ 0 then none
            else some (getF B (cellH k) - 1, (sizeR B (getF B (cellH k) - 1)).1, if 0 ≤ getF B (cellH k + 8) ∧ getF B (cellH k + 8) ≤ (sizeR B (getF B (cellH k) - 1)).1 then getF B (cellH k + 8) else (sizeR B (getF B (cellH k) - 1)).1) := by
          rw [lookF, if_neg (by omega), atF]
        have HSZ := Lib.hid (fun w1 (hF : Fr No w w1) => rsize_calls (h.fr0 hF) (getF B (cellH k) - 1))
        generalize getF B (cellH k) = g at *
        generalize getF B (cellH k + 8) = ga at *
        generalize cellH k = ch at *
        by_cases hg1 : g < 1
        · have hl : lookF B k = none := by rw [hlk, if_pos (.inl hg1)]
          rw [openV_none hl]
          have d3 : decide (g < 1) = true := decide_eq_true hg1
          clear h hx hlo hl hhi hlk hr HG2 HSZ hw8 hg1
          go_enter Tryz.func69, Tryz.ntmps69
          go_wp2_with fail
          refine HCK.out.mono ?_
          rintro e w1 ⟨rfl, hF1⟩
          go_wp2_with fail
          refine (HCE.out _).mono ?_
          rintro e w2 ⟨rfl, rfl⟩
          go_wp2_with fail
          refine (HG1.out _ hF1).mono ?_
          rintro e w2 ⟨rfl, rfl⟩
          go_wp2
          go_ret3
          exact ⟨rfl, hF1⟩
        · have d3 : decide (g < 1) = false := decide_eq_false hg1
          by_cases hg8 : 8 < g
          · have hl : lookF B k = none := by rw [hlk, if_pos (.inr hg8)]
            rw [openV_none hl]
            have d4 : decide (8 < g) = true := decide_eq_true hg8
            clear h hx hlo hl hhi hlk hr HG2 HSZ hw8 hg1 hg8
            go_enter Tryz.func69, Tryz.ntmps69
            go_wp2_with fail
            refine HCK.out.mono ?_
            rintro e w1 ⟨rfl, hF1⟩
            go_wp2_with fail
            refine (HCE.out _).mono ?_
            rintro e w2 ⟨rfl, rfl⟩
            go_wp2_with fail
            refine (HG1.out _ hF1).mono ?_
            rintro e w2 ⟨rfl, rfl⟩
            go_wp2
            go_ret3
            exact ⟨rfl, hF1⟩
          · have d4 : decide (8 < g) = false := decide_eq_false hg8
            have hwg : IntKind.i64.wrap (g - 1) = g - 1 := IntWalk.i64_in _ (by omega)
            rw [if_neg (by omega)] at hlk
            generalize sizeR B (g - 1) = sz at *
            obtain ⟨s, x⟩ := sz
            dsimp only at hlk HSZ
            by_cases hsx : x = 0
            · have q1 : (x != 0) = false := by simp [hsx]
              rw [if_neg (by rw [hsx]; decide)] at hlk
              have hcase : (∃ a : Int, openV B k = (g - 1, a, true) ∧ ((decide (ga < 0) = true ∧ a = s) ∨ (decide (ga < 0) = false ∧ decide (s < ga) = true ∧ a = s) ∨ (decide (ga < 0) = false ∧ decide (s < ga) = false ∧ a = ga))) := by
                refine ⟨_, openV_some hlk, ?_⟩
                by_cases h1 : ga < 0
                · exact .inl ⟨decide_eq_true h1, by rw [if_neg (by omega)]⟩
                · by_cases h2 : s < ga
                  · exact .inr (.inl ⟨decide_eq_false h1, decide_eq_true h2, by rw [if_neg (by omega)]⟩)
                  · exact .inr (.inr ⟨decide_eq_false h1, decide_eq_false h2, by rw [if_pos (by omega)]⟩)
              obtain ⟨a, he, hc⟩ := hcase
              rw [he]
              clear h hx hlo hhi hlk hr hg1 hg8 hsx he
              rcases hc with ⟨d5, rfl⟩ | ⟨d5, d6, rfl⟩ | ⟨d5, d6, rfl⟩
              all_goals
                go_enter Tryz.func69, Tryz.ntmps69
                go_wp2_with fail
                refine HCK.out.mono ?_
                rintro e w1 ⟨rfl, hF1⟩
                go_wp2_with fail
                refine (HCE.out _).mono ?_
                rintro e w2 ⟨rfl, rfl⟩
                go_wp2_with fail
                refine (HG1.out _ hF1).mono ?_
                rintro e w2 ⟨rfl, rfl⟩
                go_wp2_with fail
                refine (HSZ.out _ hF1).mono ?_
                rintro e w2 ⟨rfl, hF2⟩
                go_wp2_with fail
                refine (HCE.out _).mono ?_
                rintro e w3 ⟨rfl, rfl⟩
                go_wp2_with fail
                refine (HG2.out _ (hF1.trans hF2)).mono ?_
                rintro e w3 ⟨rfl, rfl⟩
                go_wp2
                go_ret3
                exact ⟨rfl, hF1.trans hF2⟩
            · have q1 : (x != 0) = true := by simp [hsx]
              have hl : lookF B k = none := by rw [hlk, if_pos hsx]
              rw [openV_none hl]
              clear h hx hlo hl hhi hlk hr HG2 hw8 hg1 hg8 hsx
              go_enter Tryz.func69, Tryz.ntmps69
              go_wp2_with fail
              refine HCK.out.mono ?_
              rintro e w1 ⟨rfl, hF1⟩
              go_wp2_with fail
              refine (HCE.out _).mono ?_
              rintro e w2 ⟨rfl, rfl⟩
              go_wp2_with fail
              refine (HG1.out _ hF1).mono ?_
              rintro e w2 ⟨rfl, rfl⟩
              go_wp2_with fail
              refine (HSZ.out _ hF1).mono ?_
              rintro e w2 ⟨rfl, hF2⟩
              go_wp2
              go_ret3
              exact ⟨rfl, hF1.trans hF2⟩
  · rw [openV_none (look_nocheck hx)]
    have q1 : (checkE B != 0) = true := by simp [hx]
    generalize checkE B = x at *
    clear h hx
    go_enter Tryz.func69, Tryz.ntmps69
    go_wp2_with fail
    refine HCK.out.mono ?_
    rintro e w1 ⟨rfl, hF1⟩
    go_wp2
    go_ret3
    exact ⟨rfl, hF1⟩

set_option maxHeartbeats 1000000 in
set_option maxRecDepth 1000000 in
theorem rbad13_calls {w : World} {rb : Nat} {R : Nat → Prop} {F B : List Int} (h : RefAt w rb R F B) :
    Calls Tryz.prog 70 #[.pointer (some ⟨rb, 0, none⟩)] w fun e w' => e = .returned (.int .i64 (badE B)) ∧ Fr No w w' := by
  have HCK := Lib.hid (rcheck12_calls h)
  have HB : RowKit.Hid (badE B = if checkE B ≠ 0 then checkE B else 131) := Lib.hid rfl
  generalize badE B = be at *
  generalize checkE B = x at *
  clear h
  by_cases hx : x = 0
  · have q1 : (x != 0) = false := by simp [hx]
    have HX := Lib.hid hx
    clear hx
    go_enter Tryz.func70, Tryz.ntmps70
    go_wp2_with fail
    refine HCK.out.mono ?_
    rintro e w1 ⟨rfl, hF1⟩
    go_wp2
    go_ret
    exact ⟨by rw [HB.out, if_neg (by rw [HX.out]; decide)]; rfl, hF1⟩
  · have q1 : (x != 0) = true := by simp [hx]
    have HX := Lib.hid hx
    clear hx
    go_enter Tryz.func70, Tryz.ntmps70
    go_wp2_with fail
    refine HCK.out.mono ?_
    rintro e w1 ⟨rfl, hF1⟩
    go_wp2
    go_ret
    exact ⟨by rw [HB.out, if_pos HX.out]; rfl, hF1⟩

set_option maxRecDepth 100000 in
theorem rbegin13_calls {w : World} {rb : Nat} {R : Nat → Prop} {F B : List Int} (h : RefAt w rb R F B) (k n : Int) (h1 : 1 ≤ k ∧ k ≤ 4) (hn : 0 ≤ n ∧ n < 8) :
    Calls Tryz.prog 66 #[.pointer (some ⟨rb, 0, none⟩), .int .i64 k, .int .i64 n] w (RsP w rb R F (beginB B k n) (.int .i64 k)) := by
  have hc := cellH_range h1
  have HCE := Lib.hid (fun w1 => rcell13_calls k w1 h1)
  have HS1 := Lib.hid (rset_calls h (cellH k) (n + 1) (by omega))
  have HS2 := Lib.hid (fun w1 R1 (hR : RefAt w1 rb R1 F (setF B (cellH k) (n + 1))) => rset_calls hR (cellH k + 8) 0 (by omega))
  have hw8 : IntKind.i64.wrap (cellH k + 8) = cellH k + 8 := IntWalk.i64_in _ (by omega)
  have hwn : IntKind.i64.wrap (n + 1) = n + 1 := IntWalk.i64_in _ (by omega)
  rw [show beginB B k n = setF (setF B (cellH k) (n + 1)) (cellH k + 8) 0 from rfl]
  generalize setF (setF B (cellH k) (n + 1)) (cellH k + 8) 0 = B3 at *
  generalize setF B (cellH k) (n + 1) = B2 at *
  generalize cellH k = ch at *
  clear h hc h1 hn
  go_enter Tryz.func66, Tryz.ntmps66
  go_wp2_with fail
  refine (HCE.out _).mono ?_
  rintro e w1 ⟨rfl, rfl⟩
  go_wp2_with fail
  refine HS1.out.mono ?_
  rintro e w1 ⟨R1, rfl, hp1⟩
  have HP1 := Lib.hid hp1
  clear hp1
  go_wp2_with fail
  refine (HCE.out _).mono ?_
  rintro e w2 ⟨rfl, rfl⟩
  go_wp2_with fail
  refine (HS2.out _ _ HP1.out.1).mono ?_
  rintro e w2 ⟨R2, rfl, hp2⟩
  go_wp2
  go_ret
  exact ⟨R2, rfl, HP1.out.trans hp2⟩

set_option maxHeartbeats 2000000 in
set_option maxRecDepth 1000000 in
theorem rfree13_calls {w : World} {rb : Nat} {R : Nat → Prop} {F B : List Int} (h : RefAt w rb R F B) :
    Calls Tryz.prog 62 #[.pointer (some ⟨rb, 0, none⟩)] w fun e w' => e = .returned (.int .i64 (freeF B)) ∧ Fr No w w' := by
  have HOP := Lib.hid (fun (w1 : World) (hF : Fr No w w1) (k : Int) => ropen13_calls (h.fr0 hF) k)
  clear h
  go_enter Tryz.func62, Tryz.ntmps62
  go_wp2_with fail
  go_loopw [3] (fun i wr => ∃ k : Nat, 1 ≤ k ∧ k ≤ 5 ∧ i = .int .i64 k ∧ (∀ j : Nat, 1 ≤ j → j < k → lookF B j ≠ none) ∧ Fr No w wr) (fun i _ => 5 - (intOf i).toNat)
  case atStart => exact ⟨1, by omega, by omega, rfl, fun j h1 h2 => by omega, Fr.refl _ _⟩
  case round =>
    obtain ⟨k, hk1, hk, rfl, hlt, hF⟩ := hrel
    have HF := Lib.hid hF
    have HLT := Lib.hid hlt
    clear hF hlt
    by_cases hk5 : k < 5
    · have hd : decide ((k : Int) ≤ 4) = true := decide_eq_true (by omega)
      have HO := Lib.hid (HOP.out _ HF.out k)
      cases hl : lookF B k with
      | none =>
        rw [openV_none hl] at HO
        have hf := freeF_at hk1 (by omega) hl HLT.out
        have HFF := Lib.hid hf
        clear hf hl
        go_wp2_with fail
        refine HO.out.mono ?_
        rintro e w2 ⟨rfl, hF2⟩
        go_wp2
        go_ret
        exact ⟨by rw [HFF.out]; rfl, HF.out.trans hF2⟩
      | some p =>
        obtain ⟨n, s, a⟩ := p
        rw [openV_some hl] at HO
        have HL := Lib.hid hl
        clear hl
        go_wp2_with fail
        refine HO.out.mono ?_
        rintro e w2 ⟨rfl, hF2⟩
        have HF2 := Lib.hid (HF.out.trans hF2)
        clear hF2
        go_wp2_with fail
        go_roundw
        case rel =>
          refine ⟨k + 1, by omega, by omega, by go_num, fun j h1 h2 => ?_, HF2.out⟩
          by_cases e : j = k
          · subst e; rw [HL.out]; simp
          · exact HLT.out j h1 (by omega)
        case measure => simp [intOf]; omega
    · have hd : decide ((k : Int) ≤ 4) = false := decide_eq_false (by omega)
      have hf := freeF_no (B := B) (fun j h1 h2 => HLT.out j h1 (by omega))
      have HFF := Lib.hid hf
      clear hf
      go_wp2
      go_ret
      exact ⟨by rw [HFF.out]; rfl, HF.out⟩
end Go.Proofs.YtoajnmbbgbpbgaaGreat
