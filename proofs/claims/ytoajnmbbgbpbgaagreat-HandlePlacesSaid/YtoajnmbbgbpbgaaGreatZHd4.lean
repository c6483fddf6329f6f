/-
  Chapter 13: Open, Create.
-/
import Derived.Test.YtoajnmbbgbpbgaaGreatZHd3
namespace Go.Proofs.YtoajnmbbgbpbgaaGreat
set_option linter.unusedVariables false
set_option linter.unusedSimpArgs false
open Go.RowKit Go.Shelf Go.Maps

def openHR (B : List Int) (s : ByteArray) : List Int × Int × Int :=
  if (findR B s).2 ≠ 0 then (B, 0, (findR B s).2) else if freeF B = 0 then (B, 0, 130) else (beginB B (freeF B) (findR B s).1, freeF B, 0)
/-- Create, of a file's inode (or none) and the memory behind it. -/
def createHN (B : List Int) (s : ByteArray) : List Int × Int × Int :=
  if (findR B s).2 = 0 then ((resizeR B (findR B s).1 0).1, (findR B s).1, (resizeR B (findR B s).1 0).2) else createR B s
def createHR (B : List Int) (s : ByteArray) : List Int × Int × Int :=
  if checkE B ≠ 0 then (B, 0, checkE B) else if nameF s = false then (B, 0, 121) else if freeF B = 0 then (B, 0, 130)
  else if (createHN B s).2.2 ≠ 0 then ((createHN B s).1, 0, (createHN B s).2.2) else (beginB (createHN B s).1 (freeF B) (createHN B s).2.1, freeF B, 0)

set_option maxHeartbeats 2000000 in
set_option maxRecDepth 1000000 in
theorem hopen_calls {w : World} {mb : Nat} {A : Nat → Prop} {F B : List Int} (hM : MemAt w mb A F B) (s : ByteArray) (hs : s.size ≤ 140737488355328) :
    Calls Tryz.prog 18 #[.pointer (some ⟨mb, 0, none⟩), .string s] w (FsP w mb A F (openHR B s).1 (.tuple #[.int .i64 (openHR B s).2.1, .int .i64 (openHR B s).2.2])) := by
  have HFI := Lib.hid (ffind_calls hM s hs)
  have HFR := Lib.hid (fun (w1 : World) A1 (hM1 : MemAt w1 mb A1 F B) => hfree_calls hM1)
  have hfr := freeF_range B
  have hrg : ∀ n, findR B s = (n, 0) → 0 ≤ n ∧ n < 8 := fun n => findR_range
  have HBG := Lib.hid (fun (w1 : World) A1 (hM1 : MemAt w1 mb A1 F B) (h1 : 1 ≤ freeF B ∧ freeF B ≤ 4) n (hn : 0 ≤ n ∧ n < 8) => hbegin_calls hM1 (freeF B) n h1 hn)
  rw [show openHR B s = if (findR B s).2 ≠ 0 then (B, 0, (findR B s).2) else if freeF B = 0 then (B, 0, 130) else (beginB B (freeF B) (findR B s).1, freeF B, 0) from rfl]
  generalize findR B s = p at *
  obtain ⟨n, x⟩ := p
  dsimp only at HFI ⊢
  generalize freeF B = f at *
  clear hM hs
  by_cases hx : x = 0
  · subst hx
    rw [if_neg (by decide)]
    have hn := hrg n rfl
    by_cases hf : f = 0
    · subst hf
      rw [if_pos rfl]
      clear hrg hn hfr
      go_enter Tryz.func18, Tryz.ntmps18
      go_wp2_with fail
      refine HFI.out.mono ?_
      rintro e w1 ⟨A1, rfl, hp⟩
      have HP := Lib.hid hp
      clear hp
      go_wp2_with fail
      refine (HFR.out _ _ HP.out.1).mono ?_
      rintro e w2 ⟨A2, rfl, hp⟩
      go_wp2
      go_ret2
      exact ⟨A2, rfl, HP.out.trans hp⟩
    · rw [if_neg hf]
      have q1 : (f == 0) = false := by simp [hf]
      have HB2 := Lib.hid (fun (w1 : World) A1 (hM1 : MemAt w1 mb A1 F B) => HBG.out w1 A1 hM1 (by omega) n hn)
      clear hrg hn hf HBG
      generalize beginB B f n = B2 at *
      go_enter Tryz.func18, Tryz.ntmps18
      go_wp2_with fail
      refine HFI.out.mono ?_
      rintro e w1 ⟨A1, rfl, hp⟩
      have HP := Lib.hid hp
      clear hp
      go_wp2_with fail
      refine (HFR.out _ _ HP.out.1).mono ?_
      rintro e w2 ⟨A2, rfl, hp⟩
      have HP2 := Lib.hid (HP.out.trans hp)
      clear hp
      go_wp2_with fail
      refine (HB2.out _ _ HP2.out.1).mono ?_
      rintro e w3 ⟨A3, rfl, hp⟩
      go_wp2
      go_ret2
      exact ⟨A3, rfl, HP2.out.trans hp⟩
  · rw [if_pos hx]
    have q1 : (x != 0) = true := by simp [hx]
    clear hx hrg HBG
    go_enter Tryz.func18, Tryz.ntmps18
    go_wp2_with fail
    refine HFI.out.mono ?_
    rintro e w1 ⟨A1, rfl, hp⟩
    go_wp2
    go_ret2
    exact ⟨A1, rfl, hp⟩

set_option maxHeartbeats 4000000 in
set_option maxRecDepth 1000000 in
theorem hcreate_calls {w : World} {mb : Nat} {A : Nat → Prop} {F B : List Int} (hM : MemAt w mb A F B) (s : ByteArray) (hs : s.size ≤ 140737488355328) :
    Calls Tryz.prog 17 #[.pointer (some ⟨mb, 0, none⟩), .string s] w (FsP w mb A F (createHR B s).1 (.tuple #[.int .i64 (createHR B s).2.1, .int .i64 (createHR B s).2.2])) := by
  have HFR := Lib.hid (hfree_calls hM)
  have HCK := Lib.hid (fun (w1 : World) A1 (hM1 : MemAt w1 mb A1 F B) => fcheck_calls hM1)
  have HNM := Lib.hid (fun (w1 : World) => name_calls s w1 hs)
  have HFI := Lib.hid (fun (w1 : World) A1 (hM1 : MemAt w1 mb A1 F B) => ffind_calls hM1 s hs)
  have HRZ := Lib.hid (fun (w1 : World) A1 (hM1 : MemAt w1 mb A1 F B) => fresize_calls hM1 (findR B s).1 0)
  have HCR := Lib.hid (fun (w1 : World) A1 (hM1 : MemAt w1 mb A1 F B) => fcreate_calls hM1 s hs)
  have HBG := Lib.hid (fun (w1 : World) A1 B1 (hM1 : MemAt w1 mb A1 F B1) h n (h1 : 1 ≤ h ∧ h ≤ 4) (hn : 0 ≤ n ∧ n < 8) => hbegin_calls hM1 h n h1 hn)
  have hfr := freeF_range B
  have hrg : ∀ n, findR B s = (n, 0) → 0 ≤ n ∧ n < 8 := fun n => findR_range
  have hrc : ∀ B2 n, createR B s = (B2, n, 0) → 0 ≤ n ∧ n < 8 := fun B2 n => createR_range
  rw [show createHR B s = if checkE B ≠ 0 then (B, 0, checkE B) else if nameF s = false then (B, 0, 121) else if freeF B = 0 then (B, 0, 130)
    else if (createHN B s).2.2 ≠ 0 then ((createHN B s).1, 0, (createHN B s).2.2) else (beginB (createHN B s).1 (freeF B) (createHN B s).2.1, freeF B, 0) from rfl]
  have hHN : createHN B s = if (findR B s).2 = 0 then ((resizeR B (findR B s).1 0).1, (findR B s).1, (resizeR B (findR B s).1 0).2) else createR B s := rfl
  generalize createHN B s = hn at *
  generalize findR B s = p at *
  obtain ⟨n, x⟩ := p
  dsimp only at HFI HRZ hHN
  generalize resizeR B n 0 = r at *
  obtain ⟨B2, y⟩ := r
  generalize createR B s = c at *
  obtain ⟨B3, n3, z⟩ := c
  dsimp only at HRZ HCR hHN
  generalize freeF B = f at *
  generalize checkE B = k at *
  clear hM hs
  by_cases hk : k = 0
  · subst hk
    rw [if_neg (by decide)]
    cases hnm : nameF s with
    | false =>
      rw [if_pos rfl]
      rw [hnm] at HNM
      clear hrg hrc hHN hfr hnm
      go_enter Tryz.func17, Tryz.ntmps17
      go_wp2_with fail
      refine HFR.out.mono ?_
      rintro e w1 ⟨A1, rfl, hp⟩
      have HP := Lib.hid hp
      clear hp
      go_wp2_with fail
      refine (HCK.out _ _ HP.out.1).mono ?_
      rintro e w2 ⟨A2, rfl, hp⟩
      have HP2 := Lib.hid (HP.out.trans hp)
      clear hp
      go_wp2_with fail
      refine (HNM.out _).mono ?_
      rintro e w3 ⟨rfl, hF3⟩
      go_wp2
      go_ret2
      exact ⟨A2, rfl, HP2.out.thenFr hF3⟩
    | true =>
      rw [if_neg (by decide)]
      rw [hnm] at HNM
      clear hnm
      by_cases hf : f = 0
      · subst hf
        rw [if_pos rfl]
        clear hrg hrc hHN hfr
        go_enter Tryz.func17, Tryz.ntmps17
        go_wp2_with fail
        refine HFR.out.mono ?_
        rintro e w1 ⟨A1, rfl, hp⟩
        have HP := Lib.hid hp
        clear hp
        go_wp2_with fail
        refine (HCK.out _ _ HP.out.1).mono ?_
        rintro e w2 ⟨A2, rfl, hp⟩
        have HP2 := Lib.hid (HP.out.trans hp)
        clear hp
        go_wp2_with fail
        refine (HNM.out _).mono ?_
        rintro e w3 ⟨rfl, hF3⟩
        go_wp2
        go_ret2
        exact ⟨A2, rfl, HP2.out.thenFr hF3⟩
      · rw [if_neg hf]
        obtain ⟨⟨r1, r2, r3⟩, hres⟩ : ∃ r : List Int × Int × Int, (if hn.2.2 ≠ 0 then (hn.1, 0, hn.2.2) else (beginB hn.1 f hn.2.1, f, 0)) = r := ⟨_, rfl⟩
        rw [hres]
        dsimp only
        have HRS : RowKit.Hid ((hn.2.2 ≠ 0 → r1 = hn.1 ∧ r2 = 0 ∧ r3 = hn.2.2) ∧ (hn.2.2 = 0 → r1 = beginB hn.1 f hn.2.1 ∧ r2 = f ∧ r3 = 0)) := Lib.hid (by
          constructor
          · intro h; rw [if_pos h] at hres; injection hres with a b; injection b with b c; exact ⟨a.symm, b.symm, c.symm⟩
          · intro h; rw [if_neg (fun h' => h' h)] at hres; injection hres with a b; injection b with b c; exact ⟨a.symm, b.symm, c.symm⟩)
        clear hres
        have q1 : (f == 0) = false := by simp [hf]
        have hf4 : 1 ≤ f ∧ f ≤ 4 := by omega
        have HF4 := Lib.hid hf4
        have HHN := Lib.hid hHN
        have HRG := Lib.hid hrg
        have HRC := Lib.hid hrc
        clear hf hrg hrc hHN hfr hf4
        go_enter Tryz.func17, Tryz.ntmps17
        go_wp2_with fail
        refine HFR.out.mono ?_
        rintro e w1 ⟨A1, rfl, hp⟩
        have HP := Lib.hid hp
        clear hp
        go_wp2_with fail
        refine (HCK.out _ _ HP.out.1).mono ?_
        rintro e w2 ⟨A2, rfl, hp⟩
        have HP2 := Lib.hid (HP.out.trans hp)
        clear hp
        go_wp2_with fail
        refine (HNM.out _).mono ?_
        rintro e w3 ⟨rfl, hF3⟩
        have HP3 := Lib.hid (HP2.out.thenFr hF3)
        clear hF3
        go_wp2_with fail
        refine (HFI.out _ _ HP3.out.1).mono ?_
        rintro e w4 ⟨A4, rfl, hp⟩
        have HP4 := Lib.hid (HP3.out.trans hp)
        clear hp
        by_cases hx : x = 0
        · have HX := Lib.hid hx
          have q2 : (x == 0) = true := by simp [hx]
          have HE : RowKit.Hid (hn = (B2, n, y)) := Lib.hid (by rw [HHN.out, if_pos hx])
          have HR8 : RowKit.Hid (0 ≤ n ∧ n < 8) := Lib.hid (HRG.out n (by rw [hx]))
          clear hx
          go_wp2_with fail
          refine (HRZ.out _ _ HP4.out.1).mono ?_
          rintro e w5 ⟨A5, rfl, hp⟩
          have HP5 := Lib.hid (HP4.out.trans hp)
          clear hp
          by_cases hy : y = 0
          · have q3 : (y != 0) = false := by simp [hy]
            have HY := Lib.hid hy
            clear hy
            go_wp2_with fail
            refine (HBG.out _ _ _ HP5.out.1 f n HF4.out HR8.out).mono ?_
            rintro e w6 ⟨A6, rfl, hp⟩
            go_wp2
            go_ret2
            obtain ⟨e1, e2, e3⟩ := HRS.out.2 (by rw [HE.out]; exact HY.out)
            rw [HE.out] at e1
            rw [e1, e2, e3]
            exact ⟨A6, rfl, HP5.out.trans hp⟩
          · have q3 : (y != 0) = true := by simp [hy]
            have HY := Lib.hid hy
            clear hy
            go_wp2
            go_ret2
            obtain ⟨e1, e2, e3⟩ := HRS.out.1 (by rw [HE.out]; exact HY.out)
            rw [HE.out] at e1 e3
            rw [e1, e2, e3]
            exact ⟨A5, rfl, HP5.out⟩
        · have HX := Lib.hid hx
          have q2 : (x == 0) = false := by simp [hx]
          have HE : RowKit.Hid (hn = (B3, n3, z)) := Lib.hid (by rw [HHN.out, if_neg hx])
          clear hx
          go_wp2_with fail
          refine (HCR.out _ _ HP4.out.1).mono ?_
          rintro e w5 ⟨A5, rfl, hp⟩
          have HP5 := Lib.hid (HP4.out.trans hp)
          clear hp
          by_cases hy : z = 0
          · have q3 : (z != 0) = false := by simp [hy]
            have HY := Lib.hid hy
            have HR8 : RowKit.Hid (0 ≤ n3 ∧ n3 < 8) := Lib.hid (HRC.out B3 n3 (by rw [hy]))
            clear hy
            go_wp2_with fail
            refine (HBG.out _ _ _ HP5.out.1 f n3 HF4.out HR8.out).mono ?_
            rintro e w6 ⟨A6, rfl, hp⟩
            go_wp2
            go_ret2
            obtain ⟨e1, e2, e3⟩ := HRS.out.2 (by rw [HE.out]; exact HY.out)
            rw [HE.out] at e1
            rw [e1, e2, e3]
            exact ⟨A6, rfl, HP5.out.trans hp⟩
          · have q3 : (z != 0) = true := by simp [hy]
            have HY := Lib.hid hy
            clear hy
            go_wp2
            go_ret2
            obtain ⟨e1, e2, e3⟩ := HRS.out.1 (by rw [HE.out]; exact HY.out)
            rw [HE.out] at e1 e3
            rw [e1, e2, e3]
            exact ⟨A5, rfl, HP5.out⟩
  · rw [if_pos hk]
    have q1 : (k != 0) = true := by simp [hk]
    clear hk hrg hrc hHN
    go_enter Tryz.func17, Tryz.ntmps17
    go_wp2_with fail
    refine HFR.out.mono ?_
    rintro e w1 ⟨A1, rfl, hp⟩
    have HP := Lib.hid hp
    clear hp
    go_wp2_with fail
    refine (HCK.out _ _ HP.out.1).mono ?_
    rintro e w2 ⟨A2, rfl, hp⟩
    go_wp2
    go_ret2
    exact ⟨A2, rfl, HP.out.trans hp⟩
end Go.Proofs.YtoajnmbbgbpbgaaGreat
