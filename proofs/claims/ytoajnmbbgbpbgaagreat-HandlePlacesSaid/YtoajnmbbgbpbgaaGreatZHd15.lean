/-
  Chapter 13, the reference: the calls at a handle. (Printed by wip/tools/hd15.py.)
-/
import Derived.Test.YtoajnmbbgbpbgaaGreatZHd12
import Derived.Test.YtoajnmbbgbpbgaaGreatZHd14
import Derived.Test.YtoajnmbbgbpbgaaGreatZFs43
import Derived.Test.YtoajnmbbgbpbgaaGreatZFs48
import Derived.Test.YtoajnmbbgbpbgaaGreatZFs49
import Derived.Test.YtoajnmbbgbpbgaaGreatZFs51
namespace Go.Proofs.YtoajnmbbgbpbgaaGreat
set_option linter.unusedVariables false
set_option linter.unusedSimpArgs false
open Go.RowKit Go.Shelf Go.Maps

theorem cellF_0 : cellF 0 = zs 8 := by decide +kernel
theorem zs_16 : zs 16 = zs 8 ++ zs 8 := by decide +kernel
/-- Bytes laid in two pieces. -/
theorem layF_split {B : List Int} (hB : B.length = 8192) (a : Int) (l l' : List Int) : layF B a (l ++ l') = layF (layF B a l) (a + l.length) l' := by
  refine ext_getD (by simp [layF_length]) (fun j hj => ?_)
  rw [layF_length, hB] at hj
  rw [layF_get B hB _ _ _ hj, layF_get _ (by rw [layF_length]; exact hB) _ _ _ hj, layF_get B hB _ _ _ hj, List.length_append]
  by_cases h1 : a ≤ j ∧ (j : Int) < a + l.length
  · rw [if_pos (by omega), if_neg (by omega), if_pos h1, List.getD_eq_getElem?_getD, List.getElem?_append_left (by omega), ← List.getD_eq_getElem?_getD]
  · by_cases h2 : a + l.length ≤ j ∧ (j : Int) < a + l.length + l'.length
    · rw [if_pos (by omega), if_pos h2, List.getD_eq_getElem?_getD, List.getElem?_append_right (by omega), ← List.getD_eq_getElem?_getD]
      congr 1; omega
    · rw [if_neg (by omega), if_neg h2, if_neg h1]
theorem closeB_sets {B : List Int} (hB : B.length = 8192) (h : Int) : closeB B h = setF (setF B (cellH h) 0) (cellH h + 8) 0 := by
  rw [closeB, setF, setF, cellF_0, zs_16, layF_split hB, zs_length]; rfl

set_option maxHeartbeats 2000000 in
set_option maxRecDepth 1000000 in
theorem rsize13_calls {w : World} {rb : Nat} {R : Nat → Prop} {F B : List Int} (hR : RefAt w rb R F B) (h : Int) :
    Calls Tryz.prog 27 #[.pointer (some ⟨rb, 0, none⟩), .int .i64 h] w fun e w' => e = .returned (.tuple #[.int .i64 (hsizeR B h).1, .int .i64 (hsizeR B h).2]) ∧ Fr No w w' := by
  cases hl : lookF B h with
  | none =>
    have hr : hsizeR B h = (0, badE B) := by rw [hsizeR, hl]
    rw [hr]
    have HO := Lib.hid (by have := ropen13_calls hR h; rw [openV_none hl] at this; exact this)
    have HBD := Lib.hid (fun w1 (hF : Fr No w w1) => rbad13_calls (hR.fr0 hF))
    have HM := Lib.hid hR
    clear hR hl hr
    generalize badE B = be at *
    go_enter Tryz.func27, Tryz.ntmps27
    go_wp2_with fail
    refine HO.out.mono ?_
    rintro e w1 ⟨rfl, hF1⟩
    go_wp2_with fail
    refine (HBD.out _ hF1).mono ?_
    rintro e w2 ⟨rfl, hF2⟩
    go_wp2
    go_ret2
    exact ⟨rfl, hF1.trans hF2⟩
  | some p =>
    obtain ⟨n, s, a⟩ := p
    have HO := Lib.hid (by have := ropen13_calls hR h; rw [openV_some hl] at this; exact this)
    obtain ⟨l1, l2, l3, l4, l5, l6, l7⟩ := look_facts hl
    have hr : hsizeR B h = (s, 0) := by rw [hsizeR, hl]
    rw [hr]
    have HS := Lib.hid (fun w1 (hF : Fr No w w1) => (by have := rsize_calls (hR.fr0 hF) n; rw [l2] at this; exact this))
    clear hR hl hr l1 l2 l3 l4 l5 l6 l7
    go_enter Tryz.func27, Tryz.ntmps27
    go_wp2_with fail
    refine HO.out.mono ?_
    rintro e w1 ⟨rfl, hF1⟩
    go_wp2_with fail
    refine (HS.out _ hF1).mono ?_
    rintro e w2 ⟨rfl, hF2⟩
    go_wp2
    go_ret2
    exact ⟨rfl, hF1.trans hF2⟩

set_option maxHeartbeats 2000000 in
set_option maxRecDepth 1000000 in
theorem rplace13_calls {w : World} {rb : Nat} {R : Nat → Prop} {F B : List Int} (hR : RefAt w rb R F B) (h : Int) :
    Calls Tryz.prog 30 #[.pointer (some ⟨rb, 0, none⟩), .int .i64 h] w fun e w' => e = .returned (.tuple #[.int .i64 (hplaceR B h).1, .int .i64 (hplaceR B h).2]) ∧ Fr No w w' := by
  cases hl : lookF B h with
  | none =>
    have hr : hplaceR B h = (0, badE B) := by rw [hplaceR, hl]
    rw [hr]
    have HO := Lib.hid (by have := ropen13_calls hR h; rw [openV_none hl] at this; exact this)
    have HBD := Lib.hid (fun w1 (hF : Fr No w w1) => rbad13_calls (hR.fr0 hF))
    have HM := Lib.hid hR
    clear hR hl hr
    generalize badE B = be at *
    go_enter Tryz.func30, Tryz.ntmps30
    go_wp2_with fail
    refine HO.out.mono ?_
    rintro e w1 ⟨rfl, hF1⟩
    go_wp2_with fail
    refine (HBD.out _ hF1).mono ?_
    rintro e w2 ⟨rfl, hF2⟩
    go_wp2
    go_ret2
    exact ⟨rfl, hF1.trans hF2⟩
  | some p =>
    obtain ⟨n, s, a⟩ := p
    have HO := Lib.hid (by have := ropen13_calls hR h; rw [openV_some hl] at this; exact this)
    obtain ⟨l1, l2, l3, l4, l5, l6, l7⟩ := look_facts hl
    have hr : hplaceR B h = (a, 0) := by rw [hplaceR, hl]
    rw [hr]
    clear hR hl hr l1 l2 l3 l4 l5 l6 l7
    go_enter Tryz.func30, Tryz.ntmps30
    go_wp2_with fail
    refine HO.out.mono ?_
    rintro e w1 ⟨rfl, hF1⟩
    go_wp2
    go_ret2
    exact ⟨rfl, hF1⟩

set_option maxHeartbeats 2000000 in
set_option maxRecDepth 1000000 in
theorem rresize13_calls {w : World} {rb : Nat} {R : Nat → Prop} {F B : List Int} (hR : RefAt w rb R F B) (h m : Int) :
    Calls Tryz.prog 29 #[.pointer (some ⟨rb, 0, none⟩), .int .i64 h, .int .i64 m] w (RsP w rb R F (hresizeR B h m).1 (.int .i64 (hresizeR B h m).2)) := by
  cases hl : lookF B h with
  | none =>
    have hr : hresizeR B h m = (B, badE B) := by rw [hresizeR, hl]
    rw [hr]
    have HO := Lib.hid (by have := ropen13_calls hR h; rw [openV_none hl] at this; exact this)
    have HBD := Lib.hid (fun w1 (hF : Fr No w w1) => rbad13_calls (hR.fr0 hF))
    have HM := Lib.hid hR
    clear hR hl hr
    generalize badE B = be at *
    go_enter Tryz.func29, Tryz.ntmps29
    go_wp2_with fail
    refine HO.out.mono ?_
    rintro e w1 ⟨rfl, hF1⟩
    go_wp2_with fail
    refine (HBD.out _ hF1).mono ?_
    rintro e w2 ⟨rfl, hF2⟩
    go_wp2
    go_ret
    exact ⟨R, rfl, (Rp.refl HM.out).thenFr (hF1.trans hF2)⟩
  | some p =>
    obtain ⟨n, s, a⟩ := p
    have HO := Lib.hid (by have := ropen13_calls hR h; rw [openV_some hl] at this; exact this)
    obtain ⟨l1, l2, l3, l4, l5, l6, l7⟩ := look_facts hl
    have hr : hresizeR B h m = resizeR B n m := by rw [hresizeR, hl]
    rw [hr]
    have HS := Lib.hid (fun w1 (hF : Fr No w w1) => rresize12_calls (hR.fr0 hF) n m)
    generalize resizeR B n m = r at *
    clear hR hl hr l1 l2 l3 l4 l5 l6 l7
    go_enter Tryz.func29, Tryz.ntmps29
    go_wp2_with fail
    refine HO.out.mono ?_
    rintro e w1 ⟨rfl, hF1⟩
    go_wp2_with fail
    refine (HS.out _ hF1).mono ?_
    rintro e w2 ⟨R2, rfl, hp2⟩
    have HP := Lib.hid (Rp.ahead hF1 hp2)
    clear hp2
    go_wp2
    go_ret
    exact ⟨R2, rfl, HP.out⟩

set_option maxHeartbeats 2000000 in
set_option maxRecDepth 1000000 in
theorem rseek13_calls {w : World} {rb : Nat} {R : Nat → Prop} {F B : List Int} (hR : RefAt w rb R F B) (h at_ : Int) :
    Calls Tryz.prog 32 #[.pointer (some ⟨rb, 0, none⟩), .int .i64 h, .int .i64 at_] w (RsP w rb R F (hseekR B h at_).1 (.int .i64 (hseekR B h at_).2)) := by
  cases hl : lookF B h with
  | none =>
    have hr : hseekR B h at_ = (B, badE B) := by rw [hseekR, hl]
    rw [hr]
    have HO := Lib.hid (by have := ropen13_calls hR h; rw [openV_none hl] at this; exact this)
    have HBD := Lib.hid (fun w1 (hF : Fr No w w1) => rbad13_calls (hR.fr0 hF))
    have HM := Lib.hid hR
    clear hR hl hr
    generalize badE B = be at *
    go_enter Tryz.func32, Tryz.ntmps32
    go_wp2_with fail
    refine HO.out.mono ?_
    rintro e w1 ⟨rfl, hF1⟩
    go_wp2_with fail
    refine (HBD.out _ hF1).mono ?_
    rintro e w2 ⟨rfl, hF2⟩
    go_wp2
    go_ret
    exact ⟨R, rfl, (Rp.refl HM.out).thenFr (hF1.trans hF2)⟩
  | some p =>
    obtain ⟨n, s, a⟩ := p
    have HO := Lib.hid (by have := ropen13_calls hR h; rw [openV_some hl] at this; exact this)
    obtain ⟨l1, l2, l3, l4, l5, l6, l7⟩ := look_facts hl
    have hr : hseekR B h at_ = seek1R B h s at_ := by rw [hseekR, hl]
    rw [hr]
    have HS := Lib.hid (fun w1 (hF : Fr No w w1) => (by have := rsize_calls (hR.fr0 hF) n; rw [l2] at this; exact this))
    have HCE := Lib.hid (fun w1 => rcell13_calls h w1 l1)
    have hrg := cellH_range l1
    have hw8 : IntKind.i64.wrap (cellH h + 8) = cellH h + 8 := IntWalk.i64_in _ (by omega)
    have HST := Lib.hid (fun w1 (hF : Fr No w w1) => rset_calls (hR.fr0 hF) (cellH h + 8) at_ (by omega))
    have HM := Lib.hid (Rp.refl hR)
    have hcase : (decide (at_ < 0) = true ∧ seek1R B h s at_ = (B, 1)) ∨ (decide (at_ < 0) = false ∧ decide (s < at_) = true ∧ seek1R B h s at_ = (B, 1)) ∨ (decide (at_ < 0) = false ∧ decide (s < at_) = false ∧ seek1R B h s at_ = (setF B (cellH h + 8) at_, 0)) := by
      by_cases q1 : at_ < 0
      · exact .inl ⟨decide_eq_true q1, by rw [seek1R, if_pos (.inl q1)]⟩
      · by_cases q2 : s < at_
        · exact .inr (.inl ⟨decide_eq_false q1, decide_eq_true q2, by rw [seek1R, if_pos (.inr q2)]⟩)
        · exact .inr (.inr ⟨decide_eq_false q1, decide_eq_false q2, by rw [seek1R, if_neg (by omega)]⟩)
    generalize seek1R B h s at_ = r at *
    generalize setF B (cellH h + 8) at_ = B2 at *
    generalize cellH h = ch at *
    clear hR hl hr l1 l2 l3 l4 l5 l6 l7 hrg
    rcases hcase with ⟨d1, rfl⟩ | ⟨d1, d2, rfl⟩ | ⟨d1, d2, rfl⟩
    · go_enter Tryz.func32, Tryz.ntmps32
      go_wp2_with fail
      refine HO.out.mono ?_
      rintro e w1 ⟨rfl, hF1⟩
      go_wp2_with fail
      refine (HS.out _ hF1).mono ?_
      rintro e w2 ⟨rfl, hF2⟩
      go_wp2
      go_ret
      exact ⟨R, rfl, HM.out.thenFr (hF1.trans hF2)⟩
    · go_enter Tryz.func32, Tryz.ntmps32
      go_wp2_with fail
      refine HO.out.mono ?_
      rintro e w1 ⟨rfl, hF1⟩
      go_wp2_with fail
      refine (HS.out _ hF1).mono ?_
      rintro e w2 ⟨rfl, hF2⟩
      go_wp2
      go_ret
      exact ⟨R, rfl, HM.out.thenFr (hF1.trans hF2)⟩
    · go_enter Tryz.func32, Tryz.ntmps32
      go_wp2_with fail
      refine HO.out.mono ?_
      rintro e w1 ⟨rfl, hF1⟩
      go_wp2_with fail
      refine (HS.out _ hF1).mono ?_
      rintro e w2 ⟨rfl, hF2⟩
      go_wp2_with fail
      refine (HCE.out _).mono ?_
      rintro e w3 ⟨rfl, rfl⟩
      go_wp2_with fail
      refine (HST.out _ (hF1.trans hF2)).mono ?_
      rintro e w4 ⟨R4, rfl, hp4⟩
      have HP := Lib.hid (Rp.ahead (hF1.trans hF2) hp4)
      clear hp4
      go_wp2
      go_ret
      exact ⟨R4, rfl, HP.out⟩

set_option maxHeartbeats 2000000 in
set_option maxRecDepth 1000000 in
theorem rclose13_calls {w : World} {rb : Nat} {R : Nat → Prop} {F B : List Int} (hR : RefAt w rb R F B) (h : Int) :
    Calls Tryz.prog 24 #[.pointer (some ⟨rb, 0, none⟩), .int .i64 h] w (RsP w rb R F (hcloseR B h).1 (.int .i64 (hcloseR B h).2)) := by
  cases hl : lookF B h with
  | none =>
    have hr : hcloseR B h = (B, badE B) := by rw [hcloseR, hl]
    rw [hr]
    have HO := Lib.hid (by have := ropen13_calls hR h; rw [openV_none hl] at this; exact this)
    have HBD := Lib.hid (fun w1 (hF : Fr No w w1) => rbad13_calls (hR.fr0 hF))
    have HM := Lib.hid hR
    clear hR hl hr
    generalize badE B = be at *
    go_enter Tryz.func24, Tryz.ntmps24
    go_wp2_with fail
    refine HO.out.mono ?_
    rintro e w1 ⟨rfl, hF1⟩
    go_wp2_with fail
    refine (HBD.out _ hF1).mono ?_
    rintro e w2 ⟨rfl, hF2⟩
    go_wp2
    go_ret
    exact ⟨R, rfl, (Rp.refl HM.out).thenFr (hF1.trans hF2)⟩
  | some p =>
    obtain ⟨n, s, a⟩ := p
    have HO := Lib.hid (by have := ropen13_calls hR h; rw [openV_some hl] at this; exact this)
    obtain ⟨l1, l2, l3, l4, l5, l6, l7⟩ := look_facts hl
    have hr : hcloseR B h = (closeB B h, 0) := by rw [hcloseR, hl]
    rw [hr, closeB_sets hR.blen]
    have HCE := Lib.hid (fun w1 => rcell13_calls h w1 l1)
    have hrg := cellH_range l1
    have hw8 : IntKind.i64.wrap (cellH h + 8) = cellH h + 8 := IntWalk.i64_in _ (by omega)
    have HS1 := Lib.hid (fun w1 (hF : Fr No w w1) => rset_calls (hR.fr0 hF) (cellH h) 0 (by omega))
    have HS2 := Lib.hid (fun w1 R1 (hR1 : RefAt w1 rb R1 F (setF B (cellH h) 0)) => rset_calls hR1 (cellH h + 8) 0 (by omega))
    generalize setF (setF B (cellH h) 0) (cellH h + 8) 0 = B3 at *
    generalize setF B (cellH h) 0 = B2 at *
    generalize cellH h = ch at *
    clear hR hl hr l1 l2 l3 l4 l5 l6 l7 hrg
    go_enter Tryz.func24, Tryz.ntmps24
    go_wp2_with fail
    refine HO.out.mono ?_
    rintro e w1 ⟨rfl, hF1⟩
    go_wp2_with fail
    refine (HCE.out _).mono ?_
    rintro e w3 ⟨rfl, rfl⟩
    go_wp2_with fail
    refine (HS1.out _ hF1).mono ?_
    rintro e w4 ⟨R4, rfl, hp4⟩
    have HP4 := Lib.hid (Rp.ahead hF1 hp4)
    clear hp4
    go_wp2_with fail
    refine (HCE.out _).mono ?_
    rintro e w5 ⟨rfl, rfl⟩
    go_wp2_with fail
    refine (HS2.out _ _ HP4.out.1).mono ?_
    rintro e w6 ⟨R6, rfl, hp6⟩
    have HP6 := Lib.hid (HP4.out.trans hp6)
    clear hp6
    go_wp2
    go_ret
    exact ⟨R6, rfl, HP6.out⟩

set_option maxHeartbeats 2000000 in
set_option maxRecDepth 1000000 in
theorem rwrite13_calls {w : World} {rb : Nat} {R : Nat → Prop} {F B : List Int} (hR : RefAt w rb R F B) (h : Int) (v : Value) (l : List Int) (hv : Sl w v l.length (bys l)) (hvR : ∀ k, v.ownBlock = some k → l ≠ [] → ¬ R k) (h0 : ∀ b ∈ l, 0 ≤ b ∧ b < 256) (hlen : l.length ≤ 140737488355328) :
    Calls Tryz.prog 26 #[.pointer (some ⟨rb, 0, none⟩), .int .i64 h, v] w (RsP w rb R F (hwriteR B h l).1 (.int .i64 (hwriteR B h l).2)) := by
  cases hl : lookF B h with
  | none =>
    have hr : hwriteR B h l = (B, badE B) := by rw [hwriteR, hl]
    rw [hr]
    have HO := Lib.hid (by have := ropen13_calls hR h; rw [openV_none hl] at this; exact this)
    have HBD := Lib.hid (fun w1 (hF : Fr No w w1) => rbad13_calls (hR.fr0 hF))
    have HM := Lib.hid hR
    clear hR hl hr hv hvR h0 hlen
    generalize badE B = be at *
    go_enter Tryz.func26, Tryz.ntmps26
    go_wp2_with fail
    refine HO.out.mono ?_
    rintro e w1 ⟨rfl, hF1⟩
    go_wp2_with fail
    refine (HBD.out _ hF1).mono ?_
    rintro e w2 ⟨rfl, hF2⟩
    go_wp2
    go_ret
    exact ⟨R, rfl, (Rp.refl HM.out).thenFr (hF1.trans hF2)⟩
  | some p =>
    obtain ⟨n, s, a⟩ := p
    have HO := Lib.hid (by have := ropen13_calls hR h; rw [openV_some hl] at this; exact this)
    obtain ⟨l1, l2, l3, l4, l5, l6, l7⟩ := look_facts hl
    have hr : hwriteR B h l = write1R B h n a l := by rw [hwriteR, hl]
    rw [hr]
    obtain ⟨av, cv, rfl⟩ := hv.form
    have HW := Lib.hid (fun w1 (hF : Fr No w w1) => rwrite12_calls (hR.fr0 hF) n a (.slice av l.length cv) l (hv.fr0 hF) hvR h0 hlen)
    have HCE := Lib.hid (fun w1 => rcell13_calls h w1 l1)
    have hrg := cellH_range l1
    have hw8 : IntKind.i64.wrap (cellH h + 8) = cellH h + 8 := IntWalk.i64_in _ (by omega)
    have hwl : IntKind.i64.wrap (a + (l.length : Int)) = a + (l.length : Int) := IntWalk.i64_in _ (by omega)
    have HST := Lib.hid (fun w1 R1 B1 (hR1 : RefAt w1 rb R1 F B1) => rset_calls hR1 (cellH h + 8) (a + l.length) (by omega))
    have hrr : write1R B h n a l = if (writeR B n a l).2 = 0 then (setF (writeR B n a l).1 (cellH h + 8) (a + l.length), 0) else writeR B n a l := rfl
    generalize write1R B h n a l = r at *
    obtain ⟨r1, r2⟩ := r
    generalize writeR B n a l = p at *
    obtain ⟨B2, x⟩ := p
    dsimp only at HW hrr ⊢
    generalize cellH h = ch at *
    clear hR hl hr l1 l2 l3 l4 l5 l6 l7 hrg hv hvR h0 hlen
    by_cases hx : x = 0
    · have q1 : (x == 0) = true := by simp [hx]
      rw [if_pos hx] at hrr
      injection hrr with e1 e2
      subst e1; subst e2
      have HX := Lib.hid hx
      clear hx
      go_enter Tryz.func26, Tryz.ntmps26
      go_wp2_with fail
      refine HO.out.mono ?_
      rintro e w1 ⟨rfl, hF1⟩
      go_wp2_with fail
      refine (HW.out _ hF1).mono ?_
      rintro e w2 ⟨R2, rfl, hp2⟩
      have HP2 := Lib.hid (Rp.ahead hF1 hp2)
      clear hp2
      go_wp2_with fail
      refine (HCE.out _).mono ?_
      rintro e w3 ⟨rfl, rfl⟩
      go_wp2_with fail
      refine (HST.out _ _ _ HP2.out.1).mono ?_
      rintro e w4 ⟨R4, rfl, hp4⟩
      have HP4 := Lib.hid (HP2.out.trans hp4)
      clear hp4
      go_wp2
      go_ret
      exact ⟨R4, by rw [HX.out]; rfl, HP4.out⟩
    · have q1 : (x == 0) = false := by simp [hx]
      rw [if_neg hx] at hrr
      injection hrr with e1 e2
      subst e1; subst e2
      clear hx
      go_enter Tryz.func26, Tryz.ntmps26
      go_wp2_with fail
      refine HO.out.mono ?_
      rintro e w1 ⟨rfl, hF1⟩
      go_wp2_with fail
      refine (HW.out _ hF1).mono ?_
      rintro e w2 ⟨R2, rfl, hp2⟩
      have HP2 := Lib.hid (Rp.ahead hF1 hp2)
      clear hp2
      go_wp2
      go_ret
      exact ⟨R2, rfl, HP2.out⟩

theorem readR_emp (B : List Int) (n o m : Int) (h : (readR B n o m).2 ≠ 0) : (readR B n o m).1 = [] := by
  rcases open_cases B n with ⟨x, hx, h0⟩ | ⟨hx, L, u, k, ht, hk, rfl, hnm⟩
  · rw [readR_bad hx h0]
  · rw [readR_good ht hk hnm] at h ⊢
    split at h
    · next q => rw [if_pos q]
    · exact absurd rfl h
def RdR (w : World) (rb : Nat) (R : Nat → Prop) (F : List Int) (p : List Int × List Int × Int) (e : Ending) (w' : World) : Prop :=
  ∃ R' r, e = .returned (.tuple #[r, .int .i64 p.2.2]) ∧ Rp w rb R F p.1 w' R' ∧ Sl w' r p.2.1.length (bys p.2.1) ∧ ∀ k, r.ownBlock = some k → w.heap.size ≤ k

set_option maxHeartbeats 2000000 in
set_option maxRecDepth 1000000 in
theorem rread13_calls {w : World} {rb : Nat} {R : Nat → Prop} {F B : List Int} (hR : RefAt w rb R F B) (h m : Int) (hm : -9223372036854775808 ≤ m ∧ m ≤ 9223372036854775807) :
    Calls Tryz.prog 25 #[.pointer (some ⟨rb, 0, none⟩), .int .i64 h, .int .i64 m] w (RdR w rb R F (hreadR B h m)) := by
  cases hl : lookF B h with
  | none =>
    have hr : hreadR B h m = (B, [], badE B) := by rw [hreadR, hl]
    rw [hr]
    have HO := Lib.hid (by have := ropen13_calls hR h; rw [openV_none hl] at this; exact this)
    have HBD := Lib.hid (fun w1 (hF : Fr No w w1) => rbad13_calls (hR.fr0 hF))
    have HM := Lib.hid hR
    clear hR hl hr hm
    generalize badE B = be at *
    go_enter Tryz.func25, Tryz.ntmps25
    go_wp2_with fail
    refine HO.out.mono ?_
    rintro e w1 ⟨rfl, hF1⟩
    go_wp2_with fail
    refine (HBD.out _ hF1).mono ?_
    rintro e w2 ⟨rfl, hF2⟩
    go_wp2
    go_ret2
    exact ⟨R, _, rfl, (Rp.refl HM.out).thenFr (hF1.trans hF2), Sl.nil _, fun k e => by cases e⟩
  | some p =>
    obtain ⟨n, s, a⟩ := p
    have HO := Lib.hid (by have := ropen13_calls hR h; rw [openV_some hl] at this; exact this)
    obtain ⟨l1, l2, l3, l4, l5, l6, l7⟩ := look_facts hl
    have hr : hreadR B h m = read1R B h n a m := by rw [hreadR, hl]
    rw [hr]
    have HRD := Lib.hid (fun w1 (hF : Fr No w w1) => rread2_calls (hR.fr0 hF) n a m (by omega) hm)
    have HCE := Lib.hid (fun w1 => rcell13_calls h w1 l1)
    have hrg := cellH_range l1
    have hw8 : IntKind.i64.wrap (cellH h + 8) = cellH h + 8 := IntWalk.i64_in _ (by omega)
    have hlen := readR_len B n a m
    have hwl : IntKind.i64.wrap (a + ((readR B n a m).1.length : Int)) = a + ((readR B n a m).1.length : Int) := IntWalk.i64_in _ (by omega)
    have HST := Lib.hid (fun w1 (hF : Fr No w w1) => rset_calls (hR.fr0 hF) (cellH h + 8) (a + (readR B n a m).1.length) (by omega))
    have hrr : read1R B h n a m = if (readR B n a m).2 = 0 then (setF B (cellH h + 8) (a + (readR B n a m).1.length), (readR B n a m).1, 0) else (B, [], (readR B n a m).2) := rfl
    have hemp := readR_emp B n a m
    generalize read1R B h n a m = r at *
    obtain ⟨r1, r2, r3⟩ := r
    generalize readR B n a m = p at *
    obtain ⟨l, x⟩ := p
    unfold RsB2 at HRD
    dsimp only at HRD hrr hwl HST hemp hlen
    have HM := Lib.hid (Rp.refl hR)
    have HLW := Lib.hid hR.low
    generalize cellH h = ch at *
    clear hR hl hr l1 l2 l3 l4 l5 l6 l7 hrg hm hlen
    by_cases hx : x = 0
    · have q1 : (x == 0) = true := by simp [hx]
      rw [if_pos hx] at hrr
      injection hrr with e1 e2
      injection e2 with e2 e3
      subst e1; subst e2; subst e3
      have HX := Lib.hid hx
      clear hx hemp
      go_enter Tryz.func25, Tryz.ntmps25
      go_wp2_with fail
      refine HO.out.mono ?_
      rintro e w1 ⟨rfl, hF1⟩
      go_wp2_with fail
      refine (HRD.out _ hF1).mono ?_
      rintro e w2 ⟨r, rfl, hF2, hs2, hb2⟩
      obtain ⟨ar, cr, rfl⟩ := hs2.form
      have HS2 := Lib.hid hs2
      have HB2 := Lib.hid (show ∀ k, (Value.slice ar r2.length cr).ownBlock = some k → w.heap.size ≤ k from fun k e => Nat.le_trans hF1.size (hb2 k e))
      clear hs2 hb2
      go_wp2_with fail
      refine (HCE.out _).mono ?_
      rintro e w3 ⟨rfl, rfl⟩
      go_wp2_with fail
      refine (HST.out _ (hF1.trans hF2)).mono ?_
      rintro e w4 ⟨R4, rfl, hp4⟩
      have HP4 := Lib.hid (Rp.ahead (hF1.trans hF2) hp4)
      have HS4 := Lib.hid (HS2.out.fr hp4.2.1 (fun k e _ hR => by have := HB2.out k e; have := HLW.out k hR; omega))
      clear hp4
      go_wp2
      go_ret2
      exact ⟨R4, _, by rw [HX.out]; rfl, HP4.out, HS4.out, HB2.out⟩
    · have q1 : (x == 0) = false := by simp [hx]
      rw [if_neg hx] at hrr
      injection hrr with e1 e2
      injection e2 with e2 e3
      obtain rfl : l = [] := hemp hx
      subst e1; subst e2; subst e3
      clear hx hemp
      go_enter Tryz.func25, Tryz.ntmps25
      go_wp2_with fail
      refine HO.out.mono ?_
      rintro e w1 ⟨rfl, hF1⟩
      go_wp2_with fail
      refine (HRD.out _ hF1).mono ?_
      rintro e w2 ⟨r, rfl, hF2, hs2, hb2⟩
      obtain ⟨ar, cr, rfl⟩ := hs2.form
      have HS2 := Lib.hid hs2
      have HB2 := Lib.hid (show ∀ k, (Value.slice ar ([] : List Int).length cr).ownBlock = some k → w.heap.size ≤ k from fun k e => Nat.le_trans hF1.size (hb2 k e))
      clear hs2 hb2
      go_wp2
      go_ret2
      exact ⟨R, _, rfl, HM.out.thenFr (hF1.trans hF2), HS2.out, HB2.out⟩

set_option maxHeartbeats 2000000 in
set_option maxRecDepth 1000000 in
theorem ropenh_calls {w : World} {rb : Nat} {R : Nat → Prop} {F B : List Int} (hR : RefAt w rb R F B) (s : ByteArray) (hs : s.size ≤ 140737488355328) :
    Calls Tryz.prog 22 #[.pointer (some ⟨rb, 0, none⟩), .string s] w (RsP w rb R F (openHR B s).1 (.tuple #[.int .i64 (openHR B s).2.1, .int .i64 (openHR B s).2.2])) := by
  have HFD := Lib.hid (rfind12_calls hR s hs)
  have hdef : openHR B s = if (findR B s).2 ≠ 0 then (B, 0, (findR B s).2) else if freeF B = 0 then (B, 0, 130) else (beginB B (freeF B) (findR B s).1, freeF B, 0) := rfl
  have hfr : ∀ n, findR B s = (n, 0) → 0 ≤ n ∧ n < 8 := fun n h => findR_range h
  have HFR := Lib.hid (fun w1 (hF : Fr No w w1) => rfree13_calls (hR.fr0 hF))
  have hfg := freeF_range B
  have HM := Lib.hid (Rp.refl hR)
  generalize openHR B s = r at *
  generalize findR B s = f at *
  obtain ⟨n, x⟩ := f
  dsimp only at HFD hdef
  by_cases hx : x = 0
  · subst hx
    have hn := hfr n rfl
    rw [if_neg (by decide)] at hdef
    have HBG := Lib.hid (fun w1 (hF : Fr No w w1) (h1 : 1 ≤ freeF B ∧ freeF B ≤ 4) => rbegin13_calls (hR.fr0 hF) (freeF B) n h1 hn)
    generalize freeF B = k at *
    by_cases hk : k = 0
    · subst hk
      rw [if_pos rfl] at hdef
      subst hdef
      clear hR hs hfr hfg hn HBG
      go_enter Tryz.func22, Tryz.ntmps22
      go_wp2_with fail
      refine HFD.out.mono ?_
      rintro e w1 ⟨rfl, hF1⟩
      go_wp2_with fail
      refine (HFR.out _ hF1).mono ?_
      rintro e w2 ⟨rfl, hF2⟩
      go_wp2
      go_ret2
      exact ⟨R, rfl, HM.out.thenFr (hF1.trans hF2)⟩
    · have q1 : (k == 0) = false := by simp [hk]
      rw [if_neg hk] at hdef
      subst hdef
      have HBB := Lib.hid (fun w1 (hF : Fr No w w1) => HBG.out w1 hF (by omega))
      generalize beginB B k n = B2 at *
      clear hR hs hfr hfg hn HBG hk
      go_enter Tryz.func22, Tryz.ntmps22
      go_wp2_with fail
      refine HFD.out.mono ?_
      rintro e w1 ⟨rfl, hF1⟩
      go_wp2_with fail
      refine (HFR.out _ hF1).mono ?_
      rintro e w2 ⟨rfl, hF2⟩
      go_wp2_with fail
      refine (HBB.out _ (hF1.trans hF2)).mono ?_
      rintro e w3 ⟨R3, rfl, hp3⟩
      have HP3 := Lib.hid (Rp.ahead (hF1.trans hF2) hp3)
      clear hp3
      go_wp2
      go_ret2
      exact ⟨R3, rfl, HP3.out⟩
  · have q1 : (x != 0) = true := by simp [hx]
    rw [if_pos hx] at hdef
    subst hdef
    clear hR hs hfr hfg hx
    go_enter Tryz.func22, Tryz.ntmps22
    go_wp2_with fail
    refine HFD.out.mono ?_
    rintro e w1 ⟨rfl, hF1⟩
    go_wp2
    go_ret2
    exact ⟨R, rfl, HM.out.thenFr hF1⟩

end Go.Proofs.YtoajnmbbgbpbgaaGreat
