/-
  Chapter 13: Opened, Delete.
-/
import Derived.Test.YtoajnmbbgbpbgaaGreatZHd12
import Derived.Test.YtoajnmbbgbpbgaaGreatZA
namespace Go.Proofs.YtoajnmbbgbpbgaaGreat
set_option linter.unusedVariables false
set_option linter.unusedSimpArgs false
open Go.RowKit Go.Shelf Go.Maps

/-- The open handles below k. -/
def openedN (B : List Int) : Nat → List Int
  | 0 => []
  | k + 1 => openedN B k ++ if (lookF B k).isSome then [(k : Int)] else []
def openedF (B : List Int) : List Int := openedN B 5
theorem openedN_len (B : List Int) (k : Nat) : (openedN B k).length ≤ k := by
  induction k with
  | zero => exact Nat.le_refl _
  | succ k ih => rw [openedN, List.length_append]; split <;> simp <;> omega
theorem openedN_none {B : List Int} {k : Nat} (h : lookF B k = none) : openedN B (k + 1) = openedN B k := by rw [openedN, h]; simp
theorem openedN_some {B : List Int} {k : Nat} {p : Int × Int × Int} (h : lookF B k = some p) : openedN B (k + 1) = openedN B k ++ [(k : Int)] := by rw [openedN, h]; simp
theorem openedN_mem {B : List Int} {k : Nat} {h : Int} (hm : h ∈ openedN B k) : ∃ p, lookF B h = some p := by
  induction k with
  | zero => simp [openedN] at hm
  | succ k ih =>
    rw [openedN, List.mem_append] at hm
    rcases hm with hm | hm
    · exact ih hm
    · cases hl : lookF B k with
      | none => rw [hl] at hm; simp at hm
      | some p => rw [hl] at hm; simp at hm; exact ⟨p, by rw [hm]; exact hl⟩
theorem ints_app (a b : List Int) : ints (a ++ b) = ints a ++ ints b := by simp [ints]
theorem ints_len (a : List Int) : (ints a).length = a.length := by simp [ints]

theorem Mp.grown {w w1 w2 : World} {mb : Nat} {A A1 : Nat → Prop} {F B : List Int} {v : Value} (h : Mp w mb A F B w1 A1) (hg : w1.grownBy w2 v.ownBlock) (hv : ∀ k, v.ownBlock = some k → w.heap.size ≤ k ∧ ¬ A1 k) : Mp w mb A F B w2 A1 :=
  ⟨h.1.fr (fr_grown hg) (fun k e hA => (hv k e).2 hA), h.2.1.trans' (fr_grown hg) (fun i hi e => by have := (hv i e).1; omega), h.2.2⟩

def HdO (w : World) (mb : Nat) (A : Nat → Prop) (F B : List Int) (e : Ending) (w' : World) : Prop :=
  ∃ A' r, e = .returned r ∧ Mp w mb A F B w' A' ∧ w'.ownsRow w.heap.size 3 1 r (openedF B).length (ints (openedF B)) ∧ ∀ k, r.ownBlock = some k → ¬ A' k

set_option maxHeartbeats 4000000 in
set_option maxRecDepth 1000000 in
theorem hopened_calls {w : World} {mb : Nat} {A : Nat → Prop} {F B : List Int} (hM : MemAt w mb A F B) :
    Calls Tryz.prog 10 #[.pointer (some ⟨mb, 0, none⟩)] w (HdO w mb A F B) := by
  have HLK := Lib.hid (fun (w1 : World) A1 (hM1 : MemAt w1 mb A1 F B) (h : Int) => look_calls hM1 h)
  have HM := Lib.hid hM
  clear hM
  go_enter Tryz.func10, Tryz.ntmps10
  go_wp2_with fail
  go_loopw [3, 7] (fun lv i wr => ∃ (k : Nat) (A' : Nat → Prop), k ≤ 5 ∧ i = .int .i64 k ∧ Mp w mb A F B wr A' ∧ wr.ownsRow w.heap.size 3 1 lv (openedN B k).length (ints (openedN B k)) ∧ ∀ q, lv.ownBlock = some q → ¬ A' q) (fun _ i _ => 5 - (intOf i).toNat)
  case atStart => exact ⟨0, A, by omega, rfl, Mp.refl HM.out, World.ownsRow_nil _ _ _ _, fun q e => by cases e⟩
  case round =>
    obtain ⟨k, A1, hk, rfl, hp, hown, hno⟩ := hrel
    obtain ⟨al, cl, rfl⟩ := (Sl.of_owns hown).form
    have HP := Lib.hid hp
    have HOW := Lib.hid hown
    have HNO := Lib.hid hno
    clear hp hown hno
    by_cases hk5 : k < 5
    · have hd : decide ((k : Int) < 5) = true := decide_eq_true (by omega)
      go_wp2_with fail
      refine (HLK.out _ _ HP.out.1 k).mono ?_
      rintro e w2 ⟨A2, a, b, c, rfl, hp2, -⟩
      have HP2 := Lib.hid ((HP.out.trans hp2).thenFr ((Fr.refl _ _).alloc (Obj.cells #[.int .i64 a, .int .i64 b, .int .i64 c] 68)))
      have HOW2 := Lib.hid ((ownsRow_fr HOW.out hp2.2.1 HNO.out).alloc (Obj.cells #[.int .i64 a, .int .i64 b, .int .i64 c] 68))
      have HNO2 := Lib.hid (show ∀ q, (Value.slice al (openedN B k).length cl).ownBlock = some q → ¬ A2 q from fun q e => hp2.notA (HNO.out q e) ((HOW.out.lt q e).2))
      clear hp2
      cases hl : lookF B k with
      | none =>
        have HE := Lib.hid (openedN_none hl)
        clear hl
        go_wp2
        go_roundw
        case rel => exact ⟨k + 1, A2, by omega, by go_num, HP2.out, by rw [HE.out]; exact HOW2.out, HNO2.out⟩
        case measure => simp [intOf]; omega
      | some p =>
        have HE := Lib.hid (openedN_some hl)
        have hlen := openedN_len B k
        have HSZ := Lib.hid HP2.out.2.1.size
        have hsn := sl_new (w2.alloc (Obj.cells #[.int .i64 a, .int .i64 b, .int .i64 c] 68)) [.int .i64 (k : Int)] 3 (List.cons_ne_nil _ _)
        rw [show (w2.alloc (Obj.cells #[.int .i64 a, .int .i64 b, .int .i64 c] 68)).heap.size = w2.heap.size + 1 by simp] at hsn
        have HSN := Lib.hid hsn
        clear hl hsn
        generalize openedN B k = L at *
        go_wp2_with (first | (at_builtin; go_loud (refine append_lie (m := 1) el_int rfl (.tmp 17) (.tmp 19) rfl w.heap.size (.slice al L.length cl) L.length (ints L) rfl (HOW2.out.alloc _) rfl HSN.out rfl (fun u hu => by rw [List.mem_singleton] at hu; subst hu; rfl) (by unfold maxLen; omega) (by omega) (Nat.le_trans HSZ.out ((Fr.refl No _).alloc _).size) ?_; intro v3 w3 hown3 hgrow3 hlie3)) | fail "arm")
        have HP3 := Lib.hid ((HP2.out.thenFr ((Fr.refl _ _).alloc (Obj.cells #[Value.int .i64 (k : Int)] 3))).grown hgrow3 (fun q e => ⟨(HOW.out.lt q e).1, HNO2.out q e⟩))
        have HN3 := Lib.hid (show ∀ q, v3.ownBlock = some q → ¬ A2 q from fun q e hA => by
          rcases hlie3 with h | h
          · exact HNO2.out q (h ▸ e) hA
          · rw [h] at e
            injection e with e
            have := HP2.out.1.low q hA
            simp at this e
            omega)
        have HO3 := Lib.hid hown3
        clear hown3 hgrow3 hlie3
        go_wp2_with fail
        go_roundw
        case rel => exact ⟨k + 1, A2, by omega, by go_num, HP3.out, by rw [HE.out, List.length_append, ints_app]; exact HO3.out, HN3.out⟩
        case measure => simp [intOf]; omega
    · obtain rfl : k = 5 := by omega
      have hd : decide (((5 : Nat) : Int) < 5) = false := decide_eq_false (by omega)
      go_wp2
      go_ret
      exact ⟨A1, _, rfl, HP.out, HOW.out, HNO.out⟩

/-- A handle of file n is shut. -/
def closeIf (B : List Int) (n h : Int) : List Int := match lookF B h with | none => B | some p => if p.1 = n then closeB B h else B
def closeAll (B : List Int) (n : Int) (L : List Int) : List Int := L.foldl (fun B h => closeIf B n h) B
theorem closeAll_take {B : List Int} {n : Int} {L : List Int} {j : Nat} (h : j < L.length) : closeAll B n (L.take (j + 1)) = closeIf (closeAll B n (L.take j)) n L[j] := by
  rw [List.take_succ_eq_append_getElem h, closeAll, List.foldl_append]; rfl
def deleteHR (B : List Int) (s : ByteArray) : List Int × Int :=
  if (findR B s).2 ≠ 0 then (B, (findR B s).2) else deleteR (closeAll B (findR B s).1 (openedF B)) s
theorem close_if {B : List Int} {h n a b c : Int} (hq : ∀ p, lookF B h = some p → p = (a, b, c)) (e : a = n) : (hcloseR B h).1 = closeIf B n h := by
  cases hl : lookF B h with
  | none => rw [hcloseR, closeIf, hl]
  | some p =>
    have := hq p hl
    subst this
    rw [hcloseR, closeIf, hl]
    dsimp only
    rw [if_pos e]
theorem close_ifn {B : List Int} {h n a b c : Int} (hq : ∀ p, lookF B h = some p → p = (a, b, c)) (e : ¬ a = n) : B = closeIf B n h := by
  cases hl : lookF B h with
  | none => rw [closeIf, hl]
  | some p =>
    have := hq p hl
    subst this
    rw [closeIf, hl]
    dsimp only
    rw [if_neg e]

set_option maxHeartbeats 4000000 in
set_option maxRecDepth 1000000 in
theorem hdelete_calls {w : World} {mb : Nat} {A : Nat → Prop} {F B : List Int} (hM : MemAt w mb A F B) (s : ByteArray) (hs : s.size ≤ 140737488355328) :
    Calls Tryz.prog 33 #[.pointer (some ⟨mb, 0, none⟩), .string s] w (FsP w mb A F (deleteHR B s).1 (.int .i64 (deleteHR B s).2)) := by
  have HFD := Lib.hid (ffind_calls hM s hs)
  have hdef : deleteHR B s = if (findR B s).2 ≠ 0 then (B, (findR B s).2) else deleteR (closeAll B (findR B s).1 (openedF B)) s := rfl
  generalize deleteHR B s = r at *
  generalize findR B s = f at *
  obtain ⟨n, x⟩ := f
  dsimp only at HFD hdef
  by_cases hx : x = 0
  · subst hx
    rw [if_neg (by decide)] at hdef
    have HOP := Lib.hid (fun (w1 : World) A1 (hM1 : MemAt w1 mb A1 F B) => hopened_calls hM1)
    have HLK := Lib.hid (fun (w1 : World) A1 B1 (hM1 : MemAt w1 mb A1 F B1) (h : Int) => look_calls hM1 h)
    have HCL := Lib.hid (fun (w1 : World) A1 B1 (hM1 : MemAt w1 mb A1 F B1) (h : Int) => hclose_calls hM1 h)
    have HDL := Lib.hid (fun (w1 : World) A1 B1 (hM1 : MemAt w1 mb A1 F B1) => fdelete_calls hM1 s hs)
    have HR := Lib.hid hdef
    have hlen := openedN_len B 5
    unfold HdO at HOP
    have h5 : (openedF B).length ≤ 5 := hlen
    generalize openedF B = L at *
    clear hM hs hdef hlen
    go_enter Tryz.func33, Tryz.ntmps33
    go_wp2_with fail
    refine HFD.out.mono ?_
    rintro e w1 ⟨A1, rfl, hp1⟩
    have HP1 := Lib.hid hp1
    clear hp1
    go_wp2_with fail
    refine (HOP.out _ _ HP1.out.1).mono ?_
    rintro e w2 ⟨A2, r2, rfl, hp2, hown, hno⟩
    have HP2 := Lib.hid (HP1.out.trans hp2)
    have HOW := Lib.hid hown
    have HNO := Lib.hid hno
    obtain ⟨a2, c2, rfl⟩ := (Sl.of_owns hown).form
    clear hp2 hown hno
    go_wp2_with fail
    go_loopw [23] (fun i wr => ∃ (j : Nat) (A' : Nat → Prop) (B' : List Int), j ≤ L.length ∧ i = .int .i64 j ∧ B' = closeAll B n (L.take j) ∧ Mp w2 mb A2 F B' wr A') (fun i _ => L.length - (intOf i).toNat)
    case atStart => exact ⟨0, A2, B, Nat.zero_le _, rfl, rfl, Mp.refl HP2.out.1⟩
    case round =>
      obtain ⟨j, A', B', hj, rfl, hB, hp⟩ := hrel
      by_cases hlt : j < L.length
      · have hg : (ints L)[j]? = some (.int .i64 L[j]) := by rw [ints, List.getElem?_map, List.getElem?_eq_getElem hlt]; rfl
        have hst := closeAll_take (B := B) (n := n) hlt
        rw [← hB] at hst
        obtain ⟨vb, off, rfl, -, hc⟩ := ((Sl.of_owns HOW.out).fr hp.2.1 (fun k e _ => HNO.out k e)).at (by intro e; rw [e] at hg; simp at hg)
        have x1 := hc _ _ hg
        have HST := Lib.hid hst
        generalize L[j] = h at *
        have HP := Lib.hid hp
        have HL := Lib.hid (HLK.out _ _ _ hp.1 h)
        clear hc hg hp hst hB
        go_wp2_with fail
        refine HL.out.mono ?_
        rintro e w3 ⟨A3, a, b, c, rfl, hp3, hq⟩
        have HP3 := Lib.hid ((HP.out.trans hp3).thenFr ((Fr.refl _ _).alloc (Obj.cells #[.int .i64 a, .int .i64 b, .int .i64 c] 68)))
        have c0 := heap_cell (o := 0) (heap_new w3 (Obj.cells #[.int .i64 a, .int .i64 b, .int .i64 c] 68)) rfl
        clear hp3
        by_cases ha : a = n
        · have q1 : (a == n) = true := by simp [ha]
          have HEQ := Lib.hid (close_if hq ha)
          have HC := Lib.hid (HCL.out _ _ _ HP3.out.1 h)
          clear hq ha
          go_wp2_with fail
          refine HC.out.mono ?_
          rintro e w4 ⟨A4, rfl, hp4⟩
          rw [HEQ.out] at hp4
          have HP4 := Lib.hid (HP3.out.trans hp4)
          clear hp4
          go_wp2
          go_roundw
          case rel => exact ⟨j + 1, A4, _, by omega, by go_num, HST.out.symm, HP4.out⟩
          case measure => simp [intOf]; omega
        · have q1 : (a == n) = false := by simp [ha]
          have HEQ := Lib.hid (close_ifn hq ha)
          clear hq ha
          go_wp2
          go_roundw
          case rel => exact ⟨j + 1, A3, _, by omega, by go_num, HEQ.out.trans HST.out.symm, HP3.out⟩
          case measure => simp [intOf]; omega
      · obtain rfl : j = L.length := by omega
        rw [List.take_length] at hB
        have HD := Lib.hid (HDL.out _ _ _ hp.1)
        have HP := Lib.hid hp
        rw [hB] at HD
        have HRR := Lib.hid HR.out
        rw [← HR.out] at HD
        clear hp hB hlt
        go_wp2_with fail
        refine HD.out.mono ?_
        rintro e w4 ⟨A4, rfl, hp4⟩
        have HPE := Lib.hid (HP2.out.trans (HP.out.trans hp4))
        clear hp4
        go_wp2
        go_ret
        exact ⟨A4, rfl, HPE.out⟩
  · have q1 : (x != 0) = true := by simp [hx]
    rw [if_pos hx] at hdef
    subst hdef
    clear hM hs hx
    go_enter Tryz.func33, Tryz.ntmps33
    go_wp2_with fail
    refine HFD.out.mono ?_
    rintro e w1 ⟨A1, rfl, hp1⟩
    go_wp2
    go_ret
    exact ⟨A1, rfl, hp1⟩
end Go.Proofs.YtoajnmbbgbpbgaaGreat
