/-
  Chapter 13, the reference: Create. (Printed by wip/tools/hd15.py.)
-/
import Derived.Test.YtoajnmbbgbpbgaaGreatZHd15
namespace Go.Proofs.YtoajnmbbgbpbgaaGreat
set_option linter.unusedVariables false
set_option linter.unusedSimpArgs false
open Go.RowKit Go.Shelf Go.Maps

/-- Create and Find: a name that is there, or that can be made. -/
theorem create_cases {B : List Int} {s : ByteArray} (hc : checkE B = 0) (hn : nameF s = true) : (∃ k : Int, findR B s = (k, 0) ∧ createR B s = (B, 0, 122) ∧ 0 ≤ k ∧ k < 8) ∨ (findR B s = (0, 123) ∧ (createR B s).2.2 ≠ 122) := by
  cases ht : tableF B with
  | none => rw [checkE_none ht] at hc; cases hc
  | some p =>
    obtain ⟨L, u⟩ := p
    have q : ¬ (nameF s = false) := by simp [hn]
    rw [findR_tab ht, createR_some ht, if_neg q, if_neg q]
    rcases findI_spec L s with ⟨h1, h2⟩ | ⟨k, hk, h1, -⟩
    · right
      have q2 : ¬ (findI L s ≠ -1) := fun h => h h1
      rw [if_pos h1, if_neg q2]
      refine ⟨rfl, ?_⟩
      split
      · show (124 : Int) ≠ 122; decide
      · show (0 : Int) ≠ 122; decide
    · left
      have h8 := tableF_len ht
      have q3 : ¬ (findI L s = -1) := by omega
      rw [if_neg q3, if_pos q3]
      exact ⟨findI L s, rfl, rfl, by omega, by omega⟩
set_option maxHeartbeats 4000000 in
set_option maxRecDepth 1000000 in
theorem rcreateh_calls {w : World} {rb : Nat} {R : Nat → Prop} {F B : List Int} (hR : RefAt w rb R F B) (s : ByteArray) (hs : s.size ≤ 140737488355328) :
    Calls Tryz.prog 21 #[.pointer (some ⟨rb, 0, none⟩), .string s] w (RsP w rb R F (createHR B s).1 (.tuple #[.int .i64 (createHR B s).2.1, .int .i64 (createHR B s).2.2])) := by
  have HCK := Lib.hid (rcheck12_calls hR)
  have hdef : createHR B s = if checkE B ≠ 0 then (B, 0, checkE B) else if nameF s = false then (B, 0, 121) else if freeF B = 0 then (B, 0, 130)
    else if (createHN B s).2.2 ≠ 0 then ((createHN B s).1, 0, (createHN B s).2.2) else (beginB (createHN B s).1 (freeF B) (createHN B s).2.1, freeF B, 0) := rfl
  have HM := Lib.hid (Rp.refl hR)
  by_cases hx : checkE B = 0
  · rw [hx] at HCK
    rw [if_neg (by rw [hx]; decide)] at hdef
    have HNM := Lib.hid (fun w1 => rname_calls s w1 hs)
    by_cases hnm : nameF s = false
    · rw [hnm] at HNM
      rw [if_pos hnm] at hdef
      rw [hdef]
      clear hR hs hx hnm hdef
      go_enter Tryz.func21, Tryz.ntmps21
      go_wp2_with fail
      refine HCK.out.mono ?_
      rintro e w1 ⟨rfl, hF1⟩
      go_wp2_with fail
      refine (HNM.out _).mono ?_
      rintro e w2 ⟨rfl, rfl⟩
      go_wp2
      go_ret2
      exact ⟨R, rfl, HM.out.thenFr hF1⟩
    · have hnt : nameF s = true := by simpa using hnm
      rw [hnt] at HNM
      rw [if_neg hnm] at hdef
      have HFR := Lib.hid (fun w1 (hF : Fr No w w1) => rfree13_calls (hR.fr0 hF))
      have hfg := freeF_range B
      by_cases hk : freeF B = 0
      · rw [hk] at HFR
        rw [if_pos hk] at hdef
        rw [hdef]
        clear hR hs hx hnm hdef hnt hfg hk
        go_enter Tryz.func21, Tryz.ntmps21
        go_wp2_with fail
        refine HCK.out.mono ?_
        rintro e w1 ⟨rfl, hF1⟩
        go_wp2_with fail
        refine (HNM.out _).mono ?_
        rintro e w2 ⟨rfl, rfl⟩
        go_wp2_with fail
        refine (HFR.out _ hF1).mono ?_
        rintro e w3 ⟨rfl, hF3⟩
        go_wp2
        go_ret2
        exact ⟨R, rfl, HM.out.thenFr (hF1.trans hF3)⟩
      · rw [if_neg hk] at hdef
        have q1 : (freeF B == 0) = false := by simp [hk]
        have HCR := Lib.hid (fun w1 (hF : Fr No w w1) => rcreate_calls (hR.fr0 hF) s hs)
        rcases create_cases hx hnt with ⟨n, hf, hc, hn0, hn8⟩ | ⟨hf, hc⟩
        · have HFD := Lib.hid (fun w1 R1 (hR1 : RefAt w1 rb R1 F B) => (by have := rfind12_calls hR1 s hs; rw [hf] at this; exact this))
          have HRZ := Lib.hid (fun w1 R1 (hR1 : RefAt w1 rb R1 F B) => rresize12_calls hR1 n 0)
          rw [hc] at HCR
          have hcn : createHN B s = ((resizeR B n 0).1, n, (resizeR B n 0).2) := by rw [createHN, hf, if_pos rfl]
          rw [hcn] at hdef
          dsimp only at hdef
          have HBG := Lib.hid (fun w1 R1 B1 (hR1 : RefAt w1 rb R1 F B1) => rbegin13_calls hR1 (freeF B) n (by omega) ⟨hn0, hn8⟩)
          rw [hdef]
          clear hdef
          generalize resizeR B n 0 = z at *
          obtain ⟨B2, y⟩ := z
          dsimp only at HRZ ⊢
          generalize freeF B = k at *
          clear hR hs hx hnm hnt hfg hk hf hc hcn hn0 hn8
          by_cases hy : y = 0
          · subst hy
            rw [if_neg (fun h => h rfl)]
            go_enter Tryz.func21, Tryz.ntmps21
            go_wp2_with fail
            refine HCK.out.mono ?_
            rintro e w1 ⟨rfl, hF1⟩
            go_wp2_with fail
            refine (HNM.out _).mono ?_
            rintro e w2 ⟨rfl, rfl⟩
            go_wp2_with fail
            refine (HFR.out _ hF1).mono ?_
            rintro e w3 ⟨rfl, hF3⟩
            go_wp2_with fail
            refine (HCR.out _ (hF1.trans hF3)).mono ?_
            rintro e w4 ⟨R4, rfl, hp4⟩
            have HP4 := Lib.hid (Rp.ahead (hF1.trans hF3) hp4)
            clear hp4
            go_wp2_with fail
            refine (HFD.out _ _ HP4.out.1).mono ?_
            rintro e w5 ⟨rfl, hF5⟩
            have HP5 := Lib.hid (HP4.out.thenFr hF5)
            go_wp2_with fail
            refine (HRZ.out _ _ HP5.out.1).mono ?_
            rintro e w6 ⟨R6, rfl, hp6⟩
            have HP6 := Lib.hid (HP5.out.trans hp6)
            clear hp6
            go_wp2_with fail
            refine (HBG.out _ _ _ HP6.out.1).mono ?_
            rintro e w7 ⟨R7, rfl, hp7⟩
            have HP7 := Lib.hid (HP6.out.trans hp7)
            clear hp7
            go_wp2
            go_ret2
            exact ⟨R7, rfl, HP7.out⟩
          · have q2 : (y != 0) = true := by simp [hy]
            rw [if_pos hy]
            clear hy
            go_enter Tryz.func21, Tryz.ntmps21
            go_wp2_with fail
            refine HCK.out.mono ?_
            rintro e w1 ⟨rfl, hF1⟩
            go_wp2_with fail
            refine (HNM.out _).mono ?_
            rintro e w2 ⟨rfl, rfl⟩
            go_wp2_with fail
            refine (HFR.out _ hF1).mono ?_
            rintro e w3 ⟨rfl, hF3⟩
            go_wp2_with fail
            refine (HCR.out _ (hF1.trans hF3)).mono ?_
            rintro e w4 ⟨R4, rfl, hp4⟩
            have HP4 := Lib.hid (Rp.ahead (hF1.trans hF3) hp4)
            clear hp4
            go_wp2_with fail
            refine (HFD.out _ _ HP4.out.1).mono ?_
            rintro e w5 ⟨rfl, hF5⟩
            have HP5 := Lib.hid (HP4.out.thenFr hF5)
            go_wp2_with fail
            refine (HRZ.out _ _ HP5.out.1).mono ?_
            rintro e w6 ⟨R6, rfl, hp6⟩
            have HP6 := Lib.hid (HP5.out.trans hp6)
            clear hp6
            go_wp2
            go_ret2
            exact ⟨R6, rfl, HP6.out⟩
        · have hcn : createHN B s = createR B s := by rw [createHN, hf, if_neg (by decide)]
          rw [hcn] at hdef
          have hrg : ∀ B2 n, createR B s = (B2, n, 0) → 0 ≤ n ∧ n < 8 := fun B2 n h => createR_range h
          have HBG := Lib.hid (fun w1 R1 B1 n (hn : 0 ≤ n ∧ n < 8) (hR1 : RefAt w1 rb R1 F B1) => rbegin13_calls hR1 (freeF B) n (by omega) hn)
          rw [hdef]
          clear hdef
          generalize createR B s = z at *
          obtain ⟨B2, n, y⟩ := z
          dsimp only at HCR hc ⊢
          generalize freeF B = k at *
          have q3 : (y == 122) = false := by simp [hc]
          clear hR hs hx hnm hnt hfg hk hf hc hcn
          by_cases hy : y = 0
          · subst hy
            rw [if_neg (fun h => h rfl)]
            have HBB := Lib.hid (fun w1 R1 B1 (hR1 : RefAt w1 rb R1 F B1) => HBG.out w1 R1 B1 n (hrg _ _ rfl) hR1)
            clear hrg HBG q3
            go_enter Tryz.func21, Tryz.ntmps21
            go_wp2_with fail
            refine HCK.out.mono ?_
            rintro e w1 ⟨rfl, hF1⟩
            go_wp2_with fail
            refine (HNM.out _).mono ?_
            rintro e w2 ⟨rfl, rfl⟩
            go_wp2_with fail
            refine (HFR.out _ hF1).mono ?_
            rintro e w3 ⟨rfl, hF3⟩
            go_wp2_with fail
            refine (HCR.out _ (hF1.trans hF3)).mono ?_
            rintro e w4 ⟨R4, rfl, hp4⟩
            have HP4 := Lib.hid (Rp.ahead (hF1.trans hF3) hp4)
            clear hp4
            go_wp2_with fail
            refine (HBB.out _ _ _ HP4.out.1).mono ?_
            rintro e w7 ⟨R7, rfl, hp7⟩
            have HP7 := Lib.hid (HP4.out.trans hp7)
            clear hp7
            go_wp2
            go_ret2
            exact ⟨R7, rfl, HP7.out⟩
          · have q2 : (y != 0) = true := by simp [hy]
            rw [if_pos hy]
            clear hy hrg HBG
            go_enter Tryz.func21, Tryz.ntmps21
            go_wp2_with fail
            refine HCK.out.mono ?_
            rintro e w1 ⟨rfl, hF1⟩
            go_wp2_with fail
            refine (HNM.out _).mono ?_
            rintro e w2 ⟨rfl, rfl⟩
            go_wp2_with fail
            refine (HFR.out _ hF1).mono ?_
            rintro e w3 ⟨rfl, hF3⟩
            go_wp2_with fail
            refine (HCR.out _ (hF1.trans hF3)).mono ?_
            rintro e w4 ⟨R4, rfl, hp4⟩
            have HP4 := Lib.hid (Rp.ahead (hF1.trans hF3) hp4)
            clear hp4
            go_wp2
            go_ret2
            exact ⟨R4, rfl, HP4.out⟩
  · have q1 : (checkE B != 0) = true := by simp [hx]
    rw [if_pos hx] at hdef
    rw [hdef]
    generalize checkE B = x at *
    clear hR hs hx hdef
    go_enter Tryz.func21, Tryz.ntmps21
    go_wp2_with fail
    refine HCK.out.mono ?_
    rintro e w1 ⟨rfl, hF1⟩
    go_wp2
    go_ret2
    exact ⟨R, rfl, HM.out.thenFr hF1⟩
end Go.Proofs.YtoajnmbbgbpbgaaGreat
