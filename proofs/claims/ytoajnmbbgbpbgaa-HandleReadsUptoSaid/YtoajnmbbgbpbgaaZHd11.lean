/-
  Chapter 13: HandleReads.
-/
import Derived.Test.YtoajnmbbgbpbgaaZHd10
import Derived.Test.YtoajnmbbgbpbgaaZA
namespace Go.Proofs.Ytoajnmbbgbpbgaa
set_option linter.unusedVariables false
set_option linter.unusedSimpArgs false
open Go.RowKit Go.Shelf Go.Maps

/-- A part: where it lies, its capacity, its bytes. -/
abbrev Part := Option Addr × Nat × List Int
def partC (y : Part) : Value := .slice y.1 y.2.2.length y.2.1
def sumP (P : List Part) : Nat := (P.map fun y => y.2.2.length + 1).sum
theorem sumP_take {P : List Part} {j : Nat} (h : j < P.length) : sumP (P.take (j + 1)) = sumP (P.take j) + (P[j].2.2.length + 1) := by
  rw [List.take_succ_eq_append_getElem h, sumP, sumP, List.map_append, List.sum_append]; simp
def fName : ByteArray := ⟨#[102]⟩
theorem nameF_f : nameF fName = true := by decide +kernel
def allP (P : List Part) : List Int := P.flatMap fun y => y.2.2
theorem allP_take {P : List Part} {j : Nat} (h : j < P.length) : allP (P.take (j + 1)) = allP (P.take j) ++ P[j].2.2 := by
  rw [List.take_succ_eq_append_getElem h, allP, allP, List.flatMap_append]; simp
theorem allP_len (P : List Part) : (allP P).length ≤ sumP P := by
  induction P with
  | nil => exact Nat.le_refl _
  | cons y P ih => simp only [allP, sumP, List.flatMap_cons, List.length_append, List.map_cons, List.sum_cons] at *; omega
theorem strOf_app (z l : List Int) : strOfNums z ++ strOfNums l = strOfNums (z ++ l) := by
  apply ByteArray.ext
  simp [strOfNums, ByteArray.data_append]
theorem ints_1 (l : List Int) : ∀ u ∈ ints l, u.oneCell' = true := by
  intro u hu; simp only [ints, List.mem_map] at hu; obtain ⟨x, _, rfl⟩ := hu; rfl
theorem sumP_le (P : List Part) (j : Nat) : sumP (P.take j) ≤ sumP P := by
  conv => rhs; rw [← List.take_append_drop j P]
  rw [sumP, sumP, List.map_append, List.sum_append]; omega

theorem take_read (l : List Int) (p k : Nat) : l.take p ++ (l.drop p).take k = l.take (p + ((l.drop p).take k).length) := by
  rw [List.take_add]
  congr 1
  rw [List.length_take, List.take_eq_take_iff]
  omega
theorem sizes_get (Z : List Int) (hz : ∀ n ∈ Z, -9223372036854775808 ≤ n ∧ n ≤ 9223372036854775807) (j : Nat) (h : j < Z.length + 1) :
    ∃ k : Int, (ints Z ++ [Value.int .i64 1472])[j]? = some (.int .i64 k) ∧ (-9223372036854775808 ≤ k ∧ k ≤ 9223372036854775807) ∧ (j = Z.length → k = 1472) := by
  by_cases hj : j < Z.length
  · refine ⟨Z[j], ?_, hz _ (List.getElem_mem hj), fun e => by omega⟩
    rw [List.getElem?_append_left (by simp [ints]; omega), ints, List.getElem?_map, List.getElem?_eq_getElem hj]; rfl
  · obtain rfl : j = Z.length := by omega
    refine ⟨1472, ?_, by omega, fun _ => rfl⟩
    rw [List.getElem?_append_right (by simp [ints])]
    simp [ints]

set_option maxHeartbeats 8000000 in
set_option maxRecDepth 1000000 in
theorem handleReads_calls (ap : Option Addr) (cp : Nat) (P : List Part) (az : Option Addr) (cz : Nat) (Z : List Int) (w : World) (hp : Sl w (.slice ap P.length cp) P.length (P.map partC)) (hy : ∀ y ∈ P, Sl w (partC y) y.2.2.length (bys y.2.2) ∧ ∀ b ∈ y.2.2, 0 ≤ b ∧ b < 256)
    (hs : sumP P ≤ 4194304) (hz : Sl w (.slice az Z.length cz) Z.length (ints Z)) (hzr : ∀ n ∈ Z, -9223372036854775808 ≤ n ∧ n ≤ 9223372036854775807) (hzl : Z.length ≤ 4194304) (hpl : P.length ≤ 4194304) :
    Calls Try.prog 9 #[.slice ap P.length cp, .slice az Z.length cz] w fun e w' => e = .returned (.bool true) ∧ Fr No w w' := by
  have HP := Lib.hid hp
  have HY := Lib.hid hy
  have HSM := Lib.hid hs
  have HZ := Lib.hid hz
  have HZR := Lib.hid hzr
  clear hp hy hs hz hzr
  go_enter Try.func9, Try.ntmps9
  go_wp2_with fail
  refine (awake13_calls _).mono ?_
  rintro e w1 ⟨rfl, hF1⟩
  have HF1 := Lib.hid hF1
  clear hF1
  go_wp2_with fail
  go_loopw [5, 27] (fun n i wr => ∃ j : Nat, j ≤ P.length ∧ i = .int .i64 j ∧ n = .int .i64 (sumP (P.take j) : Nat) ∧ wr = w1) (fun _ i _ => P.length - (intOf i).toNat)
  case atStart => exact ⟨0, Nat.zero_le _, rfl, rfl, rfl⟩
  case round =>
    obtain ⟨j, hj, rfl, rfl, rfl⟩ := hrel
    by_cases hlt : j < P.length
    · have hg : (P.map partC)[j]? = some (.slice P[j].1 P[j].2.2.length P[j].2.1) := by rw [List.getElem?_map, List.getElem?_eq_getElem hlt]; rfl
      obtain ⟨vb, off, rfl, -, hc⟩ := (HP.out.fr0 HF1.out).at (by intro e; rw [e] at hg; simp at hg)
      have x1 := hc _ _ hg
      have hst := sumP_take hlt
      have hsl := sumP_le P (j + 1)
      have hsb := HSM.out
      have HST := Lib.hid hst
      obtain ⟨a1, ha1⟩ : ∃ a, P[j].1 = a := ⟨_, rfl⟩
      obtain ⟨c1, hc1⟩ : ∃ c, P[j].2.1 = c := ⟨_, rfl⟩
      obtain ⟨l1, hl1⟩ : ∃ l, P[j].2.2.length = l := ⟨_, rfl⟩
      rw [ha1, hc1, hl1] at x1
      rw [hl1] at hst
      obtain ⟨s0, hs0⟩ : ∃ s, sumP (P.take j) = s := ⟨_, rfl⟩
      rw [hs0] at hst ⊢
      have hw1 : IntKind.i64.wrap ((l1 : Int) + 1) = (l1 : Int) + 1 := IntWalk.i64_in _ (by omega)
      have hw2 : IntKind.i64.wrap ((s0 : Int) + ((l1 : Int) + 1)) = ((sumP (P.take (j + 1)) : Nat) : Int) := by rw [hst]; exact (IntWalk.i64_in _ (by omega)).trans (by omega)
      clear hc hg hst hsl hsb ha1 hc1 hl1 hs0
      go_wp2_with fail
      go_roundw
      case rel => exact ⟨j + 1, by omega, by go_num, rfl, trivial⟩
      case measure => simp [intOf]; omega
    · obtain rfl : j = P.length := by omega
      rw [List.take_length]
      by_cases hbig : 1472 < sumP P ∨ 100 < Z.length
      · have hd : decide ((1472 : Int) < (sumP P : Nat)) = true ∨ (decide ((1472 : Int) < (sumP P : Nat)) = false ∧ decide ((100 : Int) < (Z.length : Nat)) = true) := by
          by_cases h1 : 1472 < sumP P
          · exact .inl (decide_eq_true (by omega))
          · exact .inr ⟨decide_eq_false (by omega), decide_eq_true (by omega)⟩
        clear hbig
        rcases hd with d1 | ⟨d1, d2⟩
        all_goals
          go_wp2
          go_ret
          exact ⟨rfl, HF1.out⟩
      · have d1 : decide ((1472 : Int) < (sumP P : Nat)) = false := decide_eq_false (by omega)
        have d2 : decide ((100 : Int) < (Z.length : Nat)) = false := decide_eq_false (by omega)
        have HSP := Lib.hid (show sumP P ≤ 1472 by omega)
        have HZ100 := Lib.hid (show Z.length ≤ 100 by omega)
        have HFl := Lib.hid (flat_calls (.slice none 0 0) [] wr (by simp) (Sl.nil wr))
        obtain ⟨B1, B2, h1, h2, hst⟩ := hs_start (flatF_length []) (getF_flat0 64) (getF_flat0 80) nameF_f
        generalize flatF [] = F at *
        have C0 := Lib.hid (fun (w1 : World) (mb : Nat) (A : Nat → Prop) (h : MemAt w1 mb A F F) => fformat_calls h)
        generalize formatF F = B0 at *
        have C1 := Lib.hid (fun (w1 : World) (mb : Nat) (A : Nat → Prop) (h : MemAt w1 mb A F B0) => (by have := hcreate_calls h fName (by decide); rw [h1] at this; exact this :
          Calls Try.prog 33 #[.pointer (some ⟨mb, 0, none⟩), .string ⟨#[102]⟩] w1 (FsP w1 mb A F B1 (.tuple #[.int .i64 1, .int .i64 0]))))
        have C2 := Lib.hid (fun (w1 : World) (mb : Nat) (A : Nat → Prop) (h : MemAt w1 mb A F B1) => (by have := hopen_calls h fName (by decide); rw [h2] at this; exact this :
          Calls Try.prog 34 #[.pointer (some ⟨mb, 0, none⟩), .string ⟨#[102]⟩] w1 (FsP w1 mb A F B2 (.tuple #[.int .i64 2, .int .i64 0]))))
        have HST := Lib.hid hst
        clear h1 h2 hst hbig
        go_wp2_with fail
        refine HFl.out.mono ?_
        rintro e w1 ⟨mb, A1, rfl, hM1, hF1, hA1⟩
        go_wp2_with fail
        refine (C0.out _ _ _ hM1).mono ?_
        rintro e w2 ⟨A2, rfl, hp2⟩
        obtain ⟨hF2, hA2⟩ := hp2.step hF1 hA1
        have HM2 : RowKit.Hid (MemAt w2 mb A2 F B0) := Lib.hid hp2.1
        clear hM1 hp2
        go_wp2_with fail
        refine (C1.out _ _ _ HM2.out).mono ?_
        rintro e w3 ⟨A3, rfl, hp3⟩
        obtain ⟨hF3, hA3⟩ := hp3.step hF2 hA2
        have HM3 : RowKit.Hid (MemAt w3 mb A3 F B1) := Lib.hid hp3.1
        clear hp3
        go_wp2_with fail
        refine (C2.out _ _ _ HM3.out).mono ?_
        rintro e w4 ⟨A4, rfl, hp4⟩
        obtain ⟨hF4, hA4⟩ := hp4.step hF3 hA3
        have HM4 : RowKit.Hid (MemAt w4 mb A4 F B2) := Lib.hid hp4.1
        have HF4 := Lib.hid hF4
        have HA4 := Lib.hid hA4
        clear hp4 hF1 hF2 hF3 hF4 hA1 hA2 hA3 hA4 C0 C1 C2 HFl
        have HF1r := Lib.hid HF1.out
        go_wp2_with fail
        go_loopw [13, 67] (fun sv i wx => ∃ (j : Nat) (A : Nat → Prop) (B : List Int), j ≤ P.length ∧ i = .int .i64 j ∧ sv = .string (strOfNums (allP (P.take j))) ∧ HS fName 0 (allP (P.take j)) 0 B ∧ MemAt wx mb A F B ∧ Fr No wr wx ∧ ∀ k, A k → wr.heap.size ≤ k) (fun _ i _ => P.length - (intOf i).toNat)
        case atStart => exact ⟨0, A4, B2, Nat.zero_le _, rfl, rfl, HST.out, HM4.out, HF4.out, HA4.out⟩
        case round =>
          rename_i wx
          obtain ⟨j, A, B, hj, rfl, rfl, hS, hM, hF, hA⟩ := hrel
          by_cases hlt : j < P.length
          · have hg : (P.map partC)[j]? = some (.slice P[j].1 P[j].2.2.length P[j].2.1) := by rw [List.getElem?_map, List.getElem?_eq_getElem hlt]; rfl
            obtain ⟨vb, off, rfl, -, hc⟩ := (HP.out.fr0 (HF1r.out.trans hF)).at (by intro e; rw [e] at hg; simp at hg)
            have x1 := hc _ _ hg
            have hyj := HY.out _ (List.getElem_mem hlt)
            have hal := allP_take hlt
            have hln : (allP (P.take (j + 1))).length ≤ 1472 := Nat.le_trans (allP_len _) (Nat.le_trans (sumP_le _ _) HSP.out)
            rw [hal] at hln
            have HAL := Lib.hid hal
            revert x1 hyj hal hln
            generalize P[j] = y
            obtain ⟨a1, c1, l⟩ := y
            intro x1 hyj hal hln
            dsimp only [partC] at x1 hyj hal hln
            have hsl := hyj.1.fr0 (HF1r.out.trans hF)
            have hown : ∀ k, (Value.slice a1 l.length c1).ownBlock = some k → bys l ≠ [] → ¬ A k := fun k e hne hA' => by
              have h1 := hyj.1.lt e hne
              have h2 := hA k hA'
              have h3 := HF1r.out.size
              omega
            rw [List.length_append] at hln
            obtain ⟨B', e', hs'⟩ := hS.write l hln
            have HW := Lib.hid (by
              have := hwrite_calls hM 1 a1 c1 l hsl (fun k e hne => hown k e (by intro h; apply hne; cases l with | nil => rfl | cons _ _ => simp [bys] at h)) hyj.2 (by omega)
              rw [e'] at this; exact this)
            have HCV := Lib.hid (fun w2 A2 (hp2 : Mp wr mb A F B' w2 A2) => conv_sl (hsl.fr hp2.2.1 hown))
            have hz1 : ((strOfNums (allP (P.take j))).size : Int) ≤ 8388608 := by rw [strOfNums_size]; omega
            have hz2 : ((strOfNums l).size : Int) ≤ 8388608 := by rw [strOfNums_size]; omega
            have hap := strOf_app (allP (P.take j)) l
            rw [← hal] at hs' hap
            have HHS := Lib.hid hs'
            have HAPP := Lib.hid hap
            have HF := Lib.hid hF
            have HA := Lib.hid hA
            clear hal hln hyj hsl hown e' hs' hap hS hM hF hA hc hg
            generalize strOfNums (allP (P.take j)) = st1 at *
            generalize strOfNums l = st2 at *
            go_wp2_with fail
            refine HW.out.mono ?_
            rintro e w2 ⟨A2, rfl, hp2⟩
            obtain ⟨hF2, hA2⟩ := hp2.step HF.out HA.out
            have hcv := HCV.out _ _ hp2
            have HM2 : RowKit.Hid (MemAt w2 mb A2 F B') := Lib.hid hp2.1
            have HF2 := Lib.hid hF2
            have HA2 := Lib.hid hA2
            clear hp2 hF2 hA2 HCV HW
            go_wp2_with fail
            go_roundw
            case rel => exact ⟨j + 1, A2, B', by omega, by go_num, by rw [HAPP.out], HHS.out, HM2.out, HF2.out, HA2.out⟩
            case measure => simp [intOf]; omega
          · obtain rfl : j = P.length := by omega
            rw [List.take_length] at hS ⊢
            have HSS := Lib.hid hS
            have HMM := Lib.hid hM
            have HFF := Lib.hid hF
            have HAA := Lib.hid hA
            have HZW := Lib.hid (HZ.out.fr0 (HF1r.out.trans hF))
            have hz100 := HZ100.out
            have hle := hF.size
            clear hS hM hF hA hlt
            generalize hsall : strOfNums (allP P) = sall at *
            have HSALL := Lib.hid hsall
            have HSZ := Lib.hid (show ((allP P).length : Int) = (sall.size : Int) by rw [← hsall, strOfNums_size])
            have HAL := Lib.hid (show (allP P).length ≤ 1472 from Nat.le_trans (allP_len _) HSP.out)
            clear hsall
            go_wp2_with (first | (at_builtin; refine append_lie el_int rfl _ (.tmp 81) rfl wr.heap.size (.slice none 0 0) 0 [] rfl (World.ownsRow_nil _ _ _ _) rfl HZW.out (by simp [ints]) (ints_1 _) (by unfold maxLen; omega) (by omega) (Nat.le_refl _) ?_; intro v3 w3 hown3 hgrow3 hlie3; rw [Nat.zero_add, List.nil_append] at hown3) | (at_builtin; refine append_lie (m := 1) el_int rfl (.tmp 82) (.tmp 83) rfl wr.heap.size v3 Z.length (ints Z) rfl (hown3.alloc _) rfl (sl_new w3 [.int .i64 1472] _ (by simp)) (by simp) (by intro u hu; simp at hu; subst hu; rfl) (by unfold maxLen; omega) (by omega) (by have := (fr_grown hgrow3).size; simp; omega) ?_; intro v5 w5 hown5 hgrow5 hlie5; obtain ⟨a5, c5, rfl⟩ := (Sl.of_owns hown5).form) | fail "arm")
            have hFr3 : Fr No wr w3 := (Fr.refl No wr).trans' (fr_grown hgrow3) (fun i hi e => by cases e)
            have hFr5 : Fr No wr w5 := (hFr3.alloc (Obj.cells #[Value.int .i64 1472] 3)).trans' (fr_grown hgrow5) (fun i hi e => by have := (hown3.lt i e).1; omega)
            have HF5 := Lib.hid hFr5
            have HN5 := Lib.hid (show ∀ k, (Value.slice a5 (Z.length + 1) c5).ownBlock = some k → ¬ A k from fun k e hA => by have := (hown5.lt k e).1; have := HMM.out.low k hA; omega)
            have HS5 := Lib.hid (Sl.of_owns hown5)
            have HM5 := Lib.hid (Mp.refl (HMM.out.fr0 hFr5))
            clear hFr3 hFr5 hown3 hown5 hgrow3 hgrow5 hlie3 hlie5
            go_loopw [16, 86] (fun gv i wy => ∃ (j p : Nat) (A' : Nat → Prop) (B' : List Int), j ≤ Z.length + 1 ∧ i = .int .i64 j ∧ gv = .string (strOfNums ((allP P).take p)) ∧ HS fName 0 (allP P) p B' ∧ Mp w5 mb A F B' wy A' ∧ (j = Z.length + 1 → p = (allP P).length)) (fun _ i _ => Z.length + 1 - (intOf i).toNat)
            case atStart => exact ⟨0, 0, A, B, Nat.zero_le _, rfl, rfl, HSS.out, HM5.out, fun e => by omega⟩
            case round =>
              obtain ⟨j, p, A', B', hj, rfl, rfl, hS, hM, hend⟩ := hrel
              by_cases hlt : j < Z.length + 1
              · obtain ⟨k, hg, hkr, hkl⟩ := sizes_get Z HZR.out j hlt
                obtain ⟨vb, off, rfl, -, hc⟩ := (HS5.out.fr hM.2.1 (fun k e _ => HN5.out k e)).at (by simp)
                have x1 := hc _ _ hg
                by_cases hk : k < 0
                · have d1 : decide (k < 0) = true := decide_eq_true hk
                  have HSs := Lib.hid hS
                  have HMs := Lib.hid hM
                  clear hc hg hS hM hk hend hkr
                  go_wp2_with fail
                  go_roundw
                  case rel => exact ⟨j + 1, p, A', B', by omega, by go_num, rfl, HSs.out, HMs.out, fun e => by have := hkl (by omega); subst this; cases d1⟩
                  case measure => simp [intOf]; omega
                · have d1 : decide (k < 0) = false := decide_eq_false hk
                  obtain ⟨B2', e', hs'⟩ := hS.read k (by omega)
                  have HRD := Lib.hid (by
                    have := hread_calls hM.1 2 k hkr
                    rw [e'] at this; exact this)
                  obtain ⟨t, ht⟩ : ∃ t, ((allP P).drop p).take k.toNat = t := ⟨_, rfl⟩
                  have htk := take_read (allP P) p k.toNat
                  rw [ht] at HRD hs' htk
                  have htl : t.length ≤ k.toNat := by rw [← ht, List.length_take]; omega
                  have d2 : decide (k < (t.length : Nat)) = false := decide_eq_false (by omega)
                  have hend' : j + 1 = Z.length + 1 → p + t.length = (allP P).length := fun e => by
                    have := hkl (by omega)
                    subst this
                    have hle := HAL.out
                    have hpl := hS.le
                    rw [← ht, List.length_take, List.length_drop]
                    omega
                  have hz1 : ((strOfNums ((allP P).take p)).size : Int) ≤ 8388608 := by rw [strOfNums_size, List.length_take]; have := HAL.out; omega
                  have hz2 : ((strOfNums t).size : Int) ≤ 8388608 := by
                    rw [strOfNums_size]
                    have hle := HAL.out
                    have : t.length ≤ (allP P).length := by rw [← ht, List.length_take, List.length_drop]; omega
                    omega
                  have hap := strOf_app ((allP P).take p) t
                  rw [htk] at hap
                  have HAPP := Lib.hid hap
                  have HSs := Lib.hid hs'
                  have HMs := Lib.hid hM
                  have HEND := Lib.hid hend'
                  clear hc hg hS hM hk hend hkr hkl e' hs' htk hap hend' ht htl
                  generalize strOfNums ((allP P).take p) = st1 at *
                  obtain ⟨st2, hst2⟩ : ∃ s, strOfNums t = s := ⟨_, rfl⟩
                  rw [hst2] at HAPP hz2
                  have HST2 := Lib.hid hst2
                  obtain ⟨tl, htl⟩ : ∃ n, t.length = n := ⟨_, rfl⟩
                  rw [htl] at d2
                  have HTL := Lib.hid htl
                  clear hst2 htl
                  go_wp2_with fail
                  refine HRD.out.mono ?_
                  rintro e w6 ⟨A6, r, rfl, hp6, hr6, hout⟩
                  dsimp only at hp6 hr6 ⊢
                  obtain ⟨ar, cr, rfl⟩ := (Sl.of_owns hr6).form
                  have hcv := conv_sl (Sl.of_owns hr6)
                  rw [HTL.out, HST2.out] at hcv
                  rw [HTL.out]
                  have HMs6 := Lib.hid (HMs.out.trans hp6)
                  clear hp6 hr6 hout HRD HMs
                  go_wp2_with fail
                  go_roundw
                  case rel => exact ⟨j + 1, p + t.length, A6, B2', by omega, by go_num, by rw [← HAPP.out], HSs.out, HMs6.out, HEND.out⟩
                  case measure => simp [intOf]; omega
              · obtain rfl : j = Z.length + 1 := by omega
                obtain rfl : p = (allP P).length := hend rfl
                rw [List.take_length, HSALL.out]
                have HSI := Lib.hid (by
                  have := hsize_calls hM.1 2
                  rw [hS.size2] at this
                  dsimp only at this
                  rw [HSZ.out] at this; exact this)
                have HMs := Lib.hid hM
                clear hS hM hend hlt
                go_wp2_with fail
                refine HSI.out.mono ?_
                rintro e w7 ⟨A7, rfl, hp7⟩
                obtain ⟨hF7, -⟩ := (HMs.out.trans hp7).step (HFF.out.trans HF5.out) HAA.out
                go_wp2
                go_ret
                exact ⟨rfl, HF1r.out.trans hF7⟩
end Go.Proofs.Ytoajnmbbgbpbgaa
