/-
  Chapter 12, the reference: Rename.
-/
import Derived.Test.YtoajnmbbgbpbgaaGreatZFs44
namespace Go.Proofs.YtoajnmbbgbpbgaaGreat
set_option linter.unusedVariables false
set_option linter.unusedSimpArgs false
open Go.RowKit Go.Shelf Go.Maps

theorem findR_some {B : List Int} {L : List Nd} {u : Nat} (ht : tableF B = some (L, u)) (s : ByteArray) : findR B s = if nameF s = false then (0, 121) else if findI L s = -1 then (0, 123) else (findI L s, 0) := by
  unfold findR; generalize tableF B = t at *; subst ht; rfl
theorem findR_none {B : List Int} (ht : tableF B = none) (s : ByteArray) : findR B s = (0, 120) := by
  unfold findR; generalize tableF B = t at *; subst ht; rfl
/-- Rename's ways. -/
theorem rename_facts (B : List Int) (s t : ByteArray) :
    (∃ x, x ≠ 0 ∧ x ≠ 123 ∧ findR B s = (0, x) ∧ renameR B s t = (B, x)) ∨
    (∃ a x : Int, (x = 0 ∨ x = 123) ∧ findR B s = (a, x) ∧ findR B t = (0, 121) ∧ renameR B s t = (B, 121)) ∨
    (∃ b y : Int, y ≠ 121 ∧ findR B s = (0, 123) ∧ findR B t = (b, y) ∧ renameR B s t = (B, 123)) ∨
    (∃ a b : Int, findR B s = (a, 0) ∧ findR B t = (b, 0) ∧ renameR B s t = (B, 122)) ∨
    ∃ L u, ∃ k : Nat, tableF B = some (L, u) ∧ k < 8 ∧ (L.getD k Nd.free).name = s ∧ nameF s = true ∧ nameF t = true ∧ findR B s = ((k : Int), 0) ∧ findR B t = (0, 123) ∧ renameR B s t = (layT B k (L.set k ⟨t, (L.getD k Nd.free).size, (L.getD k Nd.free).ext⟩) u, 0) := by
  cases ht : tableF B with
  | none => exact .inl ⟨120, by decide, by decide, findR_none ht s, renameR_none ht s t⟩
  | some p =>
    obtain ⟨L, u⟩ := p
    have h1 := findR_some ht s
    have h2 := findR_some ht t
    have h3 := renameR_some ht s t
    by_cases hs : nameF s = false
    · rw [if_pos hs] at h1
      rw [if_pos (.inl hs)] at h3
      exact .inl ⟨121, by decide, by decide, h1, h3⟩
    · rw [if_neg hs] at h1
      by_cases htn : nameF t = false
      · rw [if_pos htn] at h2
        rw [if_pos (.inr htn)] at h3
        by_cases hf : findI L s = -1
        · rw [if_pos hf] at h1
          exact .inr (.inl ⟨0, 123, .inr rfl, h1, h2, h3⟩)
        · rw [if_neg hf] at h1
          exact .inr (.inl ⟨_, 0, .inl rfl, h1, h2, h3⟩)
      · rw [if_neg htn] at h2
        rw [if_neg (fun h => h.elim hs htn)] at h3
        by_cases hf : findI L s = -1
        · rw [if_pos hf] at h1 h3
          by_cases hg : findI L t = -1
          · rw [if_pos hg] at h2
            exact .inr (.inr (.inl ⟨0, 123, by decide, h1, h2, h3⟩))
          · rw [if_neg hg] at h2
            exact .inr (.inr (.inl ⟨_, 0, by decide, h1, h2, h3⟩))
        · rw [if_neg hf] at h1 h3
          by_cases hg : findI L t = -1
          · rw [if_pos hg] at h2
            rw [if_neg (fun h => h hg)] at h3
            rcases findI_cases L s with h | ⟨k, hk, e, hn⟩
            · exact absurd h hf
            · rw [e, Int.toNat_natCast] at h3
              rw [e] at h1
              exact .inr (.inr (.inr (.inr ⟨L, u, k, rfl, by have := tableF_len ht; omega, hn, by simpa using hs, by simpa using htn, h1, h2, h3⟩)))
          · rw [if_neg hg] at h2
            rw [if_pos hg] at h3
            exact .inr (.inr (.inr (.inl ⟨_, _, h1, h2, h3⟩)))

theorem bys_nil {l : List Int} (h : l ≠ []) : bys l ≠ [] := fun e => h (by cases l with | nil => rfl | cons => simp [bys] at e)

set_option maxHeartbeats 2000000 in
set_option maxRecDepth 1000000 in
theorem rrename_calls {w : World} {rb : Nat} {R : Nat → Prop} {F B : List Int} (h : RefAt w rb R F B) (s t : ByteArray) (hs : s.size ≤ 140737488355328) (ht : t.size ≤ 140737488355328) :
    Calls Tryz.prog 36 #[.pointer (some ⟨rb, 0, none⟩), .string s, .string t] w (RsP w rb R F (renameR B s t).1 (.int .i64 (renameR B s t).2)) := by
  have HFS := Lib.hid (fun w1 (hF : Fr No w w1) => rfind12_calls (h.fr0 hF) s hs)
  have HFT := Lib.hid (fun w1 (hF : Fr No w w1) => rfind12_calls (h.fr0 hF) t ht)
  have HM := Lib.hid h
  rcases rename_facts B s t with ⟨x, h0, h1, hf, hr⟩ | ⟨a, x, hx, hf, hg, hr⟩ | ⟨b, y, hy, hf, hg, hr⟩ | ⟨a, b, hf, hg, hr⟩ | ⟨L, u, k, htb, hk, hnm, hn, htn, hf, hg, hr⟩
  · rw [hf] at HFS
    rw [hr]
    have q1 : (x != 0) = true := by simp [h0]
    have q2 : (x != 123) = true := by simp [h1]
    clear h hf hr hs ht h0 h1 HFT
    go_enter Tryz.func36, Tryz.ntmps36
    go_wp2_with fail
    refine (HFS.out _ (Fr.refl _ _)).mono ?_
    rintro e w1 ⟨rfl, hF⟩
    go_wp2
    go_ret
    exact ⟨R, rfl, (Rp.refl HM.out).thenFr hF⟩
  · rw [hf] at HFS
    rw [hg] at HFT
    rw [hr]
    clear h hf hg hr hs ht
    rcases hx with rfl | rfl
    all_goals
      go_enter Tryz.func36, Tryz.ntmps36
      go_wp2_with fail
      refine (HFS.out _ (Fr.refl _ _)).mono ?_
      rintro e w1 ⟨rfl, hF⟩
      go_wp2_with fail
      refine (HFT.out _ hF).mono ?_
      rintro e w2 ⟨rfl, hF2⟩
      go_wp2
      go_ret
      exact ⟨R, rfl, (Rp.refl HM.out).thenFr (hF.trans hF2)⟩
  · rw [hf] at HFS
    rw [hg] at HFT
    rw [hr]
    have q1 : (y == 121) = false := by simp [hy]
    clear h hf hg hr hs ht hy
    go_enter Tryz.func36, Tryz.ntmps36
    go_wp2_with fail
    refine (HFS.out _ (Fr.refl _ _)).mono ?_
    rintro e w1 ⟨rfl, hF⟩
    go_wp2_with fail
    refine (HFT.out _ hF).mono ?_
    rintro e w2 ⟨rfl, hF2⟩
    go_wp2
    go_ret
    exact ⟨R, rfl, (Rp.refl HM.out).thenFr (hF.trans hF2)⟩
  · rw [hf] at HFS
    rw [hg] at HFT
    rw [hr]
    clear h hf hg hr hs ht
    go_enter Tryz.func36, Tryz.ntmps36
    go_wp2_with fail
    refine (HFS.out _ (Fr.refl _ _)).mono ?_
    rintro e w1 ⟨rfl, hF⟩
    go_wp2_with fail
    refine (HFT.out _ hF).mono ?_
    rintro e w2 ⟨rfl, hF2⟩
    go_wp2
    go_ret
    exact ⟨R, rfl, (Rp.refl HM.out).thenFr (hF.trans hF2)⟩
  · rw [hf] at HFS
    rw [hg] at HFT
    rw [hr]
    obtain ⟨nm, sz, xs, hx⟩ : ∃ nm sz xs, L.getD k Nd.free = ⟨nm, sz, xs⟩ := ⟨_, _, _, rfl⟩
    rw [hx] at hnm ⊢
    dsimp only at hnm ⊢
    have htab := (tableF_iff _ _ _).1 htb
    have hkL : k < L.length := by rw [htab.len]; exact hk
    have hgo := good_at htab hk hx
    obtain ⟨-, -, f3, f4, f5, -⟩ := hgo.facts
    dsimp only at f3 f4 f5
    have hok : inoOk t sz xs = true := rename_ok (x := ⟨nm, sz, xs⟩) (hgo.resolve_left (fun e => by
      have : nm = noName := congrArg Nd.name e
      rw [hnm] at this; exact nameF_ne hn this)) htn
    have HND := Lib.hid (fun w1 (hF : Fr No w w1) => rnode_good (h.fr0 hF) htb hk hx (by rw [hnm]; exact nameF_ne hn))
    have hres : layT B k (L.set k ⟨t, sz, xs⟩) u = layF B (6144 + 64 * (1 + (k : Int))) (encF t sz xs) := by
      rw [layT_one h.blen htab k hk _ (by rw [getD_set hkL]; exact .inr hok), getD_set hkL, ndB_named (nameF_ne htn)]
    rw [hres]
    have HS15 := Lib.hid (inoOk_small hok).2.1
    have HOK := Lib.hid hok
    have HT := Lib.hid ht
    clear h hf hg hr hs ht hnm hn htn htb htab hkL hgo hok hres hx
    go_enter Tryz.func36, Tryz.ntmps36
    go_wp2_with fail
    refine (HFS.out _ (Fr.refl _ _)).mono ?_
    rintro e w1 ⟨rfl, hF1⟩
    go_wp2_with fail
    refine (HFT.out _ hF1).mono ?_
    rintro e w2 ⟨rfl, hF2⟩
    have hF02 := hF1.trans hF2
    go_wp2_with fail
    refine (HND.out _ hF02).mono ?_
    rintro e w3 ⟨a, c, rfl, hF3, hs3⟩
    have hF03 := Lib.hid (hF02.trans hF3)
    have HS3 := Lib.hid hs3.1
    have HFW := Lib.hid ((Fr.refl No w3).alloc (Obj.cells #[.string t, .int .i64 sz, .slice a xs.length c] 95))
    clear hF1 hF2 hF02 hF3 hs3
    have HEN := Lib.hid (fun w4 (hF : Fr No w3 w4) => rencode_calls t sz (.slice a xs.length c) xs w4 HT.out (by omega) (by omega) (by omega) (HS3.out.fr0 hF))
    go_wp2_with fail
    refine (HEN.out _ HFW.out).mono ?_
    rintro e w5 ⟨hF5, ⟨-, r, rfl, hr⟩ | ⟨hbad, -⟩⟩
    · obtain ⟨ar, cr, rfl⟩ := hr.1.form
      have HF5 := Lib.hid ((hF03.out.trans HFW.out).trans hF5)
      have HLY := Lib.hid (by
        have hl := encF_length t sz xs HS15.out
        exact rlayb_calls (HM.out.fr0 HF5.out) (1 + (k : Int)) (by omega) (.slice ar 64 cr) (encF t sz xs) (by rw [hl]; exact hr.1) (fun q e hne hA => by
          have h1 := hr.2 q e (bys_nil hne)
          have h2 := HM.out.low q hA
          have := (hF03.out.trans HFW.out).size
          omega) (encF_range t sz xs HS15.out) (by rw [hl]; omega))
      clear hr hF5
      go_wp2_with fail
      refine HLY.out.mono ?_
      rintro e w6 ⟨rfl, hp6⟩
      have HP := Lib.hid (((Rp.refl HM.out).thenFr HF5.out).trans hp6)
      clear hp6
      go_wp2
      go_ret
      exact ⟨R, rfl, HP.out⟩
    · rw [HOK.out] at hbad; cases hbad
end Go.Proofs.YtoajnmbbgbpbgaaGreat
