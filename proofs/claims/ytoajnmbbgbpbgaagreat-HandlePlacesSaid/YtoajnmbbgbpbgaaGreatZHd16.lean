/-
  Chapter 13, the reference: Opened, Delete; the law's opened.
-/
import Derived.Test.YtoajnmbbgbpbgaaGreatZHd13
import Derived.Test.YtoajnmbbgbpbgaaGreatZHd15c
import Derived.Test.YtoajnmbbgbpbgaaGreatZFs44
import Derived.Test.YtoajnmbbgbpbgaaGreatZFs57
namespace Go.Proofs.YtoajnmbbgbpbgaaGreat
set_option linter.unusedVariables false
set_option linter.unusedSimpArgs false
open Go.RowKit Go.Shelf Go.Maps

theorem openedN_one (B : List Int) : openedN B 1 = [] := by
  have h0 : lookF B ((0 : Nat) : Int) = none := by rw [lookF, if_pos (.inl (by decide))]
  rw [openedN_none h0]; rfl

set_option maxHeartbeats 4000000 in
set_option maxRecDepth 1000000 in
theorem ropened_calls {w : World} {rb : Nat} {R : Nat → Prop} {F B : List Int} (hR : RefAt w rb R F B) :
    Calls Tryz.prog 46 #[.pointer (some ⟨rb, 0, none⟩)] w fun e w' => ∃ r, e = .returned r ∧ Fr No w w' ∧ w'.ownsRow w.heap.size 3 1 r (openedF B).length (ints (openedF B)) := by
  have HOP := Lib.hid (fun (w1 : World) (hF : Fr No w w1) (k : Int) => ropen13_calls (hR.fr0 hF) k)
  clear hR
  go_enter Tryz.func46, Tryz.ntmps46
  go_wp2_with fail
  go_loopw [3, 4] (fun lv i wr => ∃ (k : Nat), 1 ≤ k ∧ k ≤ 5 ∧ i = .int .i64 k ∧ Fr No w wr ∧ wr.ownsRow w.heap.size 3 1 lv (openedN B k).length (ints (openedN B k))) (fun _ i _ => 5 - (intOf i).toNat)
  case atStart => exact ⟨1, by omega, by omega, rfl, Fr.refl _ _, by rw [openedN_one]; exact World.ownsRow_nil _ _ _ _⟩
  case round =>
    obtain ⟨k, hk1, hk, rfl, hF, hown⟩ := hrel
    obtain ⟨al, cl, rfl⟩ := (Sl.of_owns hown).form
    have HF := Lib.hid hF
    have HOW := Lib.hid hown
    clear hF hown
    by_cases hk5 : k < 5
    · have hd : decide ((k : Int) ≤ 4) = true := decide_eq_true (by omega)
      have HO := Lib.hid (HOP.out _ HF.out k)
      cases hl : lookF B k with
      | none =>
        rw [openV_none hl] at HO
        have HE := Lib.hid (openedN_none hl)
        clear hl
        go_wp2_with fail
        refine HO.out.mono ?_
        rintro e w2 ⟨rfl, hF2⟩
        have HF2 := Lib.hid (HF.out.trans hF2)
        have HOW2 := Lib.hid (ownsRow_fr HOW.out hF2 (fun q _ h => h))
        clear hF2
        go_wp2
        go_roundw
        case rel => exact ⟨k + 1, by omega, by omega, by go_num, HF2.out, by rw [HE.out]; exact HOW2.out⟩
        case measure => simp [intOf]; omega
      | some p =>
        obtain ⟨n, s, a⟩ := p
        rw [openV_some hl] at HO
        have HE := Lib.hid (openedN_some hl)
        have hlen := openedN_len B k
        clear hl
        generalize openedN B k = L at *
        go_wp2_with fail
        refine HO.out.mono ?_
        rintro e w2 ⟨rfl, hF2⟩
        have HF2 := Lib.hid (HF.out.trans hF2)
        have HOW2 := Lib.hid (ownsRow_fr HOW.out hF2 (fun q _ h => h))
        have HSZ := Lib.hid HF2.out.size
        clear hF2
        go_wp2_with (first | (at_builtin; refine append_lie (m := 1) el_int rfl (.tmp 20) (.tmp 22) rfl w.heap.size (.slice al L.length cl) L.length (ints L) rfl (HOW2.out.alloc _) rfl (sl_new w2 [.int .i64 (k : Int)] _ (List.cons_ne_nil _ _)) rfl (fun u hu => by rw [List.mem_singleton] at hu; subst hu; rfl) (by unfold maxLen; omega) (by omega) (Nat.le_trans HSZ.out ((Fr.refl No _).alloc _).size) ?_; intro v3 w3 hown3 hgrow3 hlie3) | fail "arm")
        have HF3 := Lib.hid (show Fr No w w3 from (HF2.out.alloc (Obj.cells #[Value.int .i64 (k : Int)] 3)).trans' (fr_grown hgrow3) (fun i hi e => by have := (HOW.out.lt i e).1; omega))
        have HO3 := Lib.hid hown3
        clear hown3 hgrow3 hlie3
        go_wp2_with fail
        go_roundw
        case rel => exact ⟨k + 1, by omega, by omega, by go_num, HF3.out, by rw [HE.out, List.length_append, ints_app]; exact HO3.out⟩
        case measure => simp [intOf]; omega
    · obtain rfl : k = 5 := by omega
      have hd : decide (((5 : Nat) : Int) ≤ 4) = false := decide_eq_false (by omega)
      go_wp2
      go_ret
      exact ⟨_, rfl, HF.out, HOW.out⟩

theorem hclose_if {B : List Int} {h n : Int} (e : (openV B h).1 = n) : (hcloseR B h).1 = closeIf B n h := by
  cases hl : lookF B h with
  | none => rw [hcloseR, closeIf, hl]
  | some p =>
    obtain ⟨a, b, c⟩ := p
    rw [openV_some hl] at e
    rw [hcloseR, closeIf, hl]
    dsimp only at e ⊢
    rw [if_pos e]
theorem hclose_ifn {B : List Int} {h n : Int} (e : ¬ (openV B h).1 = n) : B = closeIf B n h := by
  cases hl : lookF B h with
  | none => rw [closeIf, hl]
  | some p =>
    obtain ⟨a, b, c⟩ := p
    rw [openV_some hl] at e
    rw [closeIf, hl]
    dsimp only at e ⊢
    rw [if_neg e]

set_option maxHeartbeats 4000000 in
set_option maxRecDepth 1000000 in
theorem rdeleteh_calls {w : World} {rb : Nat} {R : Nat → Prop} {F B : List Int} (hR : RefAt w rb R F B) (s : ByteArray) (hs : s.size ≤ 140737488355328) :
    Calls Tryz.prog 34 #[.pointer (some ⟨rb, 0, none⟩), .string s] w (RsP w rb R F (deleteHR B s).1 (.int .i64 (deleteHR B s).2)) := by
  have HFD := Lib.hid (rfind12_calls hR s hs)
  have hdef : deleteHR B s = if (findR B s).2 ≠ 0 then (B, (findR B s).2) else deleteR (closeAll B (findR B s).1 (openedF B)) s := rfl
  have HM := Lib.hid (Rp.refl hR)
  generalize deleteHR B s = r at *
  generalize findR B s = f at *
  obtain ⟨n, x⟩ := f
  dsimp only at HFD hdef
  by_cases hx : x = 0
  · subst hx
    rw [if_neg (by decide)] at hdef
    have HOP := Lib.hid (fun (w1 : World) (hF : Fr No w w1) => ropened_calls (hR.fr0 hF))
    have HLK := Lib.hid (fun (w1 : World) R1 B1 (hM1 : RefAt w1 rb R1 F B1) (h : Int) => ropen13_calls hM1 h)
    have HCL := Lib.hid (fun (w1 : World) R1 B1 (hM1 : RefAt w1 rb R1 F B1) (h : Int) => rclose13_calls hM1 h)
    have HDL := Lib.hid (fun (w1 : World) R1 B1 (hM1 : RefAt w1 rb R1 F B1) => rdelete_calls hM1 s hs)
    have HR := Lib.hid hdef
    have h5 : (openedF B).length ≤ 5 := openedN_len B 5
    have HLW := Lib.hid hR.low
    generalize openedF B = L at *
    clear hR hs hdef
    go_enter Tryz.func34, Tryz.ntmps34
    go_wp2_with fail
    refine HFD.out.mono ?_
    rintro e w1 ⟨rfl, hF1⟩
    go_wp2_with fail
    refine (HOP.out _ hF1).mono ?_
    rintro e w2 ⟨r2, rfl, hF2, hown⟩
    have HP2 := Lib.hid (HM.out.thenFr (hF1.trans hF2))
    have HOW := Lib.hid hown
    have HNO : RowKit.Hid (∀ k, r2.ownBlock = some k → ¬ R k) := Lib.hid (fun k e hR => by have := (hown.lt k e).1; have := HLW.out k hR; have := hF1.size; omega)
    obtain ⟨a2, c2, rfl⟩ := (Sl.of_owns hown).form
    clear hF2 hown hF1
    go_wp2_with fail
    go_loopw [24] (fun i wr => ∃ (j : Nat) (R' : Nat → Prop) (B' : List Int), j ≤ L.length ∧ i = .int .i64 j ∧ B' = closeAll B n (L.take j) ∧ Rp w2 rb R F B' wr R') (fun i _ => L.length - (intOf i).toNat)
    case atStart => exact ⟨0, R, B, Nat.zero_le _, rfl, rfl, Rp.refl HP2.out.1⟩
    case round =>
      obtain ⟨j, R', B', hj, rfl, hB, hp⟩ := hrel
      by_cases hlt : j < L.length
      · have hg : (ints L)[j]? = some (.int .i64 L[j]) := by rw [ints, List.getElem?_map, List.getElem?_eq_getElem hlt]; rfl
        have hst := closeAll_take (B := B) (n := n) hlt
        rw [← hB] at hst
        obtain ⟨vb, off, rfl, -, hc⟩ := ((Sl.of_owns HOW.out).fr hp.2.1 (fun k e _ => HNO.out k e)).at (by intro e; rw [e] at hg; simp at hg)
        have x1 := hc _ _ hg
        have HST := Lib.hid hst
        generalize L[j] = h at *
        have HP := Lib.hid hp
        have HL := Lib.hid (HLK.out _ _ _ hp.1 h)
        have hq1 : (openV B' h).1 = n → (hcloseR B' h).1 = closeIf B' n h := hclose_if
        have hq2 : ¬ (openV B' h).1 = n → B' = closeIf B' n h := hclose_ifn
        generalize openV B' h = ov at *
        obtain ⟨a, b, c⟩ := ov
        dsimp only at HL hq1 hq2
        clear hc hg hp hst hB
        by_cases ha : a = n
        · have q1 : (a == n) = true := by simp [ha]
          have HEQ := Lib.hid (hq1 ha)
          clear hq1 hq2 ha
          go_wp2_with fail
          refine HL.out.mono ?_
          rintro e w3 ⟨rfl, hF3⟩
          have HP3 := Lib.hid (HP.out.thenFr hF3)
          have HC := Lib.hid (HCL.out _ _ _ HP3.out.1 h)
          clear hF3
          go_wp2_with fail
          refine HC.out.mono ?_
          rintro e w4 ⟨R4, rfl, hp4⟩
          rw [HEQ.out] at hp4
          have HP4 := Lib.hid (HP3.out.trans hp4)
          clear hp4
          go_wp2
          go_roundw
          case rel => exact ⟨j + 1, R4, _, by omega, by go_num, HST.out.symm, HP4.out⟩
          case measure => simp [intOf]; omega
        · have q1 : (a == n) = false := by simp [ha]
          have HEQ := Lib.hid (hq2 ha)
          clear hq1 hq2 ha
          go_wp2_with fail
          refine HL.out.mono ?_
          rintro e w3 ⟨rfl, hF3⟩
          have HP3 := Lib.hid (HP.out.thenFr hF3)
          clear hF3
          go_wp2
          go_roundw
          case rel => exact ⟨j + 1, R', _, by omega, by go_num, HEQ.out.trans HST.out.symm, HP3.out⟩
          case measure => simp [intOf]; omega
      · obtain rfl : j = L.length := by omega
        rw [List.take_length] at hB
        have HD := Lib.hid (HDL.out _ _ _ hp.1)
        have HP := Lib.hid hp
        rw [hB] at HD
        rw [← HR.out] at HD
        clear hp hB hlt
        go_wp2_with fail
        refine HD.out.mono ?_
        rintro e w4 ⟨R4, rfl, hp4⟩
        have HPE := Lib.hid (HP2.out.trans (HP.out.trans hp4))
        clear hp4
        go_wp2
        go_ret
        exact ⟨R4, rfl, HPE.out⟩
  · have q1 : (x != 0) = true := by simp [hx]
    rw [if_pos hx] at hdef
    subst hdef
    clear hR hs hx
    go_enter Tryz.func34, Tryz.ntmps34
    go_wp2_with fail
    refine HFD.out.mono ?_
    rintro e w1 ⟨rfl, hF1⟩
    go_wp2
    go_ret
    exact ⟨R, rfl, HM.out.thenFr hF1⟩

set_option maxHeartbeats 4000000 in
set_option maxRecDepth 1000000 in
/-- The open handles of both, alike. -/
theorem lopened_calls {mb rb : Nat} {A R : Nat → Prop} {F B : List Int} {w : World} (hT : Two w mb A rb R F B B) :
    Calls Tryz.prog 15 #[.pointer (some ⟨mb, 0, none⟩), .pointer (some ⟨rb, 0, none⟩)] w fun e w' => e = .returned (.bool true) ∧ Tz w mb A rb R F B w' := by
  have HT := Lib.hid hT
  have HC := Lib.hid (hopened_calls hT.1)
  have HC2 := Lib.hid (fun (w1 : World) (h : RefAt w1 rb R F B) => ropened_calls h)
  unfold HdO at HC
  have h5 : (openedF B).length ≤ 5 := openedN_len B 5
  generalize openedF B = L at *
  clear hT
  go_enter Tryz.func15, Tryz.ntmps15
  go_wp2_with fail
  refine HC.out.mono ?_
  rintro e w1 ⟨A1, r1, rfl, hp1, hown1, hno1⟩
  have HP1 := Lib.hid hp1
  have HT1 := Lib.hid (HT.out.mem hp1)
  have HS1 := Lib.hid (Sl.of_owns hown1)
  obtain ⟨a1, c1, rfl⟩ := (Sl.of_owns hown1).form
  clear hp1 hown1 hno1
  go_wp2_with fail
  refine (HC2.out _ HT1.out.2.1).mono ?_
  rintro e w2 ⟨r2, rfl, hF2, hown2⟩
  have HF2 := Lib.hid hF2
  have HSA := Lib.hid (HS1.out.fr0 hF2)
  have HSB := Lib.hid (Sl.of_owns hown2)
  obtain ⟨a2, c2, rfl⟩ := (Sl.of_owns hown2).form
  have HTZ := Lib.hid (Tz.of HT.out HP1.out ⟨HT1.out.2.1.fr0 hF2, hF2.no, Gr.refl _ _⟩)
  clear hF2 hown2
  go_wp2_with fail
  go_loopw [19] (fun i wr => ∃ (j : Nat), j ≤ L.length ∧ i = .int .i64 j ∧ Fr No w2 wr) (fun i _ => L.length - (intOf i).toNat)
  case atStart => exact ⟨0, Nat.zero_le _, rfl, Fr.refl _ _⟩
  case round =>
    obtain ⟨j, hj, rfl, hF⟩ := hrel
    by_cases hlt : j < L.length
    · have hg : (ints L)[j]? = some (.int .i64 L[j]) := by rw [ints, List.getElem?_map, List.getElem?_eq_getElem hlt]; rfl
      obtain ⟨vb, off, rfl, -, hc⟩ := (HSA.out.fr0 hF).at (by intro e; rw [e] at hg; simp at hg)
      have x1 := hc _ _ hg
      obtain ⟨vb2, off2, rfl, -, hc2⟩ := (HSB.out.fr0 hF).at (by intro e; rw [e] at hg; simp at hg)
      have x2 := hc2 _ _ hg
      generalize L[j] = h at *
      have HF := Lib.hid hF
      clear hc hc2 hg hF
      go_wp2_with fail
      go_quiet (fail)
      go_wp2_with fail
      go_roundw
      case rel => exact ⟨j + 1, by omega, by go_num, HF.out.drewN _⟩
      case measure => simp [intOf]; omega
    · obtain rfl : j = L.length := by omega
      have HF := Lib.hid hF
      clear hF
      go_wp2
      go_ret
      exact ⟨rfl, HTZ.out.fr HF.out⟩
end Go.Proofs.YtoajnmbbgbpbgaaGreat
