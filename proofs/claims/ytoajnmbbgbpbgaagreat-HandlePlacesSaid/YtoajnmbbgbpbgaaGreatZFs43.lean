/-
  Chapter 12, the reference: Create, Delete, Rename.
-/
import Derived.Test.YtoajnmbbgbpbgaaGreatZFs42
import Derived.Test.YtoajnmbbgbpbgaaGreatZH
namespace Go.Proofs.YtoajnmbbgbpbgaaGreat
set_option linter.unusedVariables false
set_option linter.unusedSimpArgs false
open Go.RowKit Go.Shelf Go.Maps

/-- Bytes laid where they are. -/
theorem layF_here {B : List Int} (hB : B.length = 8192) (i : Nat) (hi : i < 32) {l : List Int} (hl : l.length = 64) (h : blk B i = l) : layF B (6144 + 64 * (i : Int)) l = B := by
  refine ext_getD (layF_length _ _ _) (fun j hj => ?_)
  rw [layF_length, hB] at hj
  rw [layF_get B hB _ _ _ hj]
  by_cases hin : 6144 + 64 * (i : Int) ≤ j ∧ (j : Int) < 6144 + 64 * (i : Int) + l.length
  · rw [if_pos hin]
    obtain ⟨m, rfl⟩ : ∃ m, j = 6144 + 64 * i + m := ⟨j - (6144 + 64 * i), by omega⟩
    have e : (((6144 + 64 * i + m : Nat) : Int) - (6144 + 64 * (i : Int))).toNat = m := by omega
    rw [e, ← h, blk_get B i m hi (by omega)]
  · rw [if_neg hin]
/-- An inode laid down, the set of blocks as it was. -/
theorem layT_one {B : List Int} (hB : B.length = 8192) {L : List Nd} {u : Nat} (h : Tab B L u) (n : Nat) (hn : n < 8) (L' : List Nd) (hg : (L'.getD n Nd.free).good) : layT B n L' u = layF B (6144 + 64 * (1 + (n : Int))) (ndB (L'.getD n Nd.free)) := by
  have hl := ndB_length hg
  rw [layT, layF_comm B hB _ _ _ _ (by rw [hl, headF_length]; omega)]
  have h0 := layF_here hB 0 (by omega) (headF_length u) h.2
  rw [show (6144 : Int) + 64 * ((0 : Nat) : Int) = 6144 by omega] at h0
  rw [h0, show 6144 + 64 * ((n + 1 : Nat) : Int) = 6144 + 64 * (1 + (n : Int)) by omega]
theorem ndB_named {x : Nd} (h : x.name ≠ noName) : ndB x = encF x.name x.size x.ext := by rw [ndB, if_neg h]

set_option maxHeartbeats 4000000 in
set_option maxRecDepth 1000000 in
theorem rcreate_calls {w : World} {rb : Nat} {R : Nat → Prop} {F B : List Int} (h : RefAt w rb R F B) (s : ByteArray) (hs : s.size ≤ 140737488355328) :
    Calls Tryz.prog 63 #[.pointer (some ⟨rb, 0, none⟩), .string s] w (RsP w rb R F (createR B s).1 (.tuple #[.int .i64 (createR B s).2.1, .int .i64 (createR B s).2.2])) := by
  have HFI0 := rfind12_calls h s hs
  have HM := Lib.hid h
  have hcase : (∃ x, 0 < x ∧ x ≠ 123 ∧ findR B s = (0, x) ∧ createR B s = (B, 0, x)) ∨ (∃ k : Nat, findR B s = ((k : Int), 0) ∧ createR B s = (B, 0, 122)) ∨
      ∃ L u, tableF B = some (L, u) ∧ findR B s = (0, 123) ∧ nameF s = true ∧ (∀ x ∈ L, x.name ≠ s) := by
    cases ht : tableF B with
    | none =>
      refine .inl ⟨120, by omega, by omega, ?_, createR_none ht s⟩
      unfold findR; generalize tableF B = t at *; subst ht; rfl
    | some p =>
      obtain ⟨L, u⟩ := p
      have hr : findR B s = if nameF s = false then (0, 121) else if findI L s = -1 then (0, 123) else (findI L s, 0) := by unfold findR; generalize tableF B = t at *; subst ht; rfl
      have hc := createR_some ht s
      by_cases hn : nameF s = false
      · rw [if_pos hn] at hr hc
        exact .inl ⟨121, by omega, by omega, hr, hc⟩
      · rw [if_neg hn] at hr hc
        rcases findI_spec L s with ⟨h1, h2⟩ | ⟨k, hk, h1, -⟩
        · rw [if_pos h1] at hr
          exact .inr (.inr ⟨L, u, rfl, hr, by simpa using hn, h2⟩)
        · rw [if_neg (by omega)] at hr
          rw [if_pos (by omega)] at hc
          exact .inr (.inl ⟨k, by rw [hr, h1], hc⟩)
  rcases hcase with ⟨x, h0, h1, hf, hc⟩ | ⟨k, hf, hc⟩ | ⟨L, u, ht, hf, hn, hne⟩
  · rw [hf] at HFI0
    rw [hc]
    have HFI := Lib.hid HFI0
    have q1 : (x == 0) = false := by simp; omega
    have q2 : (x != 123) = true := by simp; omega
    have q3 : (x == 123) = false := by simp; omega
    clear h hf hc HFI0 hs h0 h1
    go_enter Tryz.func63, Tryz.ntmps63
    go_wp2_with fail
    refine HFI.out.mono ?_
    rintro e w1 ⟨rfl, hF⟩
    go_wp2
    go_ret2
    exact ⟨R, rfl, (Rp.refl HM.out).thenFr hF⟩
  · rw [hf] at HFI0
    rw [hc]
    have HFI := Lib.hid HFI0
    clear h hf hc HFI0 hs
    go_enter Tryz.func63, Tryz.ntmps63
    go_wp2_with fail
    refine HFI.out.mono ?_
    rintro e w1 ⟨rfl, hF⟩
    go_wp2
    go_ret2
    exact ⟨R, rfl, (Rp.refl HM.out).thenFr hF⟩
  · rw [hf] at HFI0
    have HFI := Lib.hid HFI0
    have HT := Lib.hid (fun w1 (hF : Fr No w w1) => rtable_good (h.fr0 hF) ht)
    have htab := (tableF_iff _ _ _).1 ht
    have HTAB := Lib.hid htab
    have HL := Lib.hid htab.len
    have HNM := Lib.hid (nameF_ne hn)
    have hok := new_ok hn
    have HEN := Lib.hid (fun w1 => (by
      have := rencode_calls s 0 (.slice none 0 0) [] w1 hs (by omega) (by omega) (by simp) (Sl.nil w1)
      exact this : Calls Tryz.prog 85 #[.agg #[.string s, .int .i64 0, .slice none 0 0]] w1 (EncPost w1 s 0 [])))
    have hcr : createR B s = if findI L noName = -1 then (B, 0, 124) else (layF B (6144 + 64 * (1 + ((findI L noName).toNat : Int))) (encF s 0 []), findI L noName, 0) := by
      rw [createR_some ht, if_neg (by simp [hn])]
      rcases findI_spec L s with ⟨h1, h2⟩ | ⟨k, hk, h1, h2, -⟩
      · rw [if_neg (by rw [h1]; decide)]
        by_cases h3 : findI L noName = -1
        · rw [if_pos h3, if_pos h3]
        · rw [if_neg h3, if_neg h3]
          rcases findI_spec L noName with ⟨h4, -⟩ | ⟨k, hk, h4, -, -⟩
          · exact absurd h4 h3
          · have hk8 : k < 8 := by have := htab.len; omega
            rw [h4, Int.toNat_natCast, layT_one HM.out.blen htab k hk8 _ (by rw [getD_set hk]; exact .inr hok), getD_set hk, ndB_named (nameF_ne hn)]
      · exact absurd h2 (hne _ (List.getElem_mem hk))
    have HCR := Lib.hid hcr
    have HOK := Lib.hid hok
    have HS15 : RowKit.Hid (s.size ≤ 15) := Lib.hid (inoOk_small hok).2.1
    clear h hf HFI0 hs ht hn hne htab hcr hok
    go_enter Tryz.func63, Tryz.ntmps63
    go_wp2_with fail
    refine HFI.out.mono ?_
    rintro e w1 ⟨rfl, hF1⟩
    go_wp2_with fail
    refine (HT.out _ hF1).mono ?_
    rintro e w2 ⟨T, a, c, N, hN8, rfl, hF2, hL⟩
    have HLL := Lib.hid hL
    have HN8 := Lib.hid hN8
    have HF2 := Lib.hid (hF1.trans hF2)
    clear hL hN8 hF1 hF2 HT HFI
    go_wp2_with fail
    go_loopw [34] (fun i wr => ∃ k : Nat, k ≤ N ∧ i = .int .i64 k ∧ Fr No w2 wr ∧ ∀ q (hq : q < L.length), q < k → L[q].name ≠ noName) (fun i _ => N - (intOf i).toNat)
    case atStart => exact ⟨0, Nat.zero_le _, rfl, Fr.refl _ _, fun q _ h => absurd h (Nat.not_lt_zero q)⟩
    case round =>
      obtain ⟨k, hk, rfl, hF, hne⟩ := hrel
      have HN := Lib.hid hne
      clear hne
      by_cases hkt : k < N
      · obtain ⟨g, c', a1, cc1, nm, sz1, xs1, e1, e2, x0, x1, x2, -⟩ := (HLL.out.fr0 hF).node k (by have := HN8.out; omega)
        obtain ⟨rfl, rfl⟩ : a = some ⟨g, 0, none⟩ ∧ c = c' := by cases e1; exact ⟨rfl, rfl⟩
        have hk9 : k < 9 := by have := HN8.out; omega
        have hkL : k < L.length := by have := HL.out; have := HN8.out; omega
        rw [getD_get hkL] at e2
        have HNK : RowKit.Hid (L[k].name = nm) := Lib.hid (by rw [e2])
        have HF := Lib.hid hF
        have HKL := Lib.hid hkL
        clear e2 e1 hF
        by_cases hnm : nm = noName
        · have qe := emp_true hnm
          have qe2 := (eq_str nm noName).trans (decide_eq_true hnm)
          have HE := Lib.hid hnm
          have hfi : findI L noName = (k : Int) := findI_at HKL.out (HNK.out.trans hnm) (fun q hq hqk => HN.out q hq hqk)
          have HFI := Lib.hid hfi
          clear hfi hnm
          go_wp2_with fail
          refine (HEN.out _).mono ?_
          rintro e w3 ⟨hF3, ⟨-, r, rfl, hr⟩ | ⟨hbad, -⟩⟩
          · obtain ⟨ar, cr, rfl⟩ := hr.1.form
            have HF3 := Lib.hid ((HF2.out.trans (HF.out.alloc _)).trans hF3)
            have HLY := Lib.hid (by
              have hl := encF_length s 0 [] HS15.out
              exact rlayb_calls (HM.out.fr0 HF3.out) (1 + (k : Int)) (by omega) (.slice ar 64 cr) (encF s 0 []) (by rw [hl]; exact hr.1) (fun q e hne hA => by
                have h1 := hr.2 q e (fun e2 => hne (by cases hh : encF s 0 [] with | nil => rfl | cons => rw [hh] at e2; simp [bys] at e2))
                have h2 := HM.out.low q hA
                have := HF2.out.size; have := (HF.out.alloc (Obj.cells #[.string nm, .int .i64 sz1, .slice a1 xs1.length cc1] 95)).size
                omega) (encF_range s 0 [] HS15.out) (by rw [hl]; omega))
            clear hr hF3
            go_wp2_with fail
            refine HLY.out.mono ?_
            rintro e w4 ⟨rfl, hp4⟩
            have HP := Lib.hid (((Rp.refl HM.out).thenFr HF3.out).trans hp4)
            clear hp4
            go_wp2
            go_ret2
            have hres : createR B s = (layF B (6144 + 64 * (1 + (k : Int))) (encF s 0 []), (k : Int), 0) := by
              rw [HCR.out, HFI.out, if_neg (by omega), Int.toNat_natCast]
            rw [hres]
            exact ⟨R, rfl, HP.out⟩
          · rw [HOK.out] at hbad; cases hbad
        · have qe := emp_false hnm
          have qe2 := (eq_str nm noName).trans (decide_eq_false hnm)
          have HE := Lib.hid hnm
          clear hnm
          go_wp2
          go_roundw
          case rel =>
            refine ⟨k + 1, by omega, by go_num, HF.out.alloc _, fun q hq hqk => ?_⟩
            by_cases e : q = k
            · subst e; exact fun e => HE.out (HNK.out.symm.trans e)
            · exact HN.out q hq (by omega)
          case measure => simp [intOf]; omega
      · have hfi : findI L noName = -1 := findI_no (fun q hq => HN.out q hq (by have := HL.out; have := HN8.out; omega))
        have HFI := Lib.hid hfi
        have HF := Lib.hid hF
        clear hfi hF
        go_wp2
        go_ret2
        have hres : createR B s = (B, 0, 124) := by rw [HCR.out, if_pos HFI.out]
        rw [hres]
        exact ⟨R, rfl, (Rp.refl HM.out).thenFr (HF2.out.trans HF.out)⟩
end Go.Proofs.YtoajnmbbgbpbgaaGreat
