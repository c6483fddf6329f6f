/-
  Chapter 12, the reference: Read.
-/
import Derived.Test.YtoajnmbbgbpbgaaGreatZFs48
import Derived.Test.YtoajnmbbgbpbgaaGreatZH
import Derived.Test.YtoajnmbbgbpbgaaGreatZC
namespace Go.Proofs.YtoajnmbbgbpbgaaGreat
set_option linter.unusedVariables false
set_option linter.unusedSimpArgs false
open Go.RowKit Go.Shelf Go.Maps

def RsB (w : World) (p : List Int × Int) (e : Ending) (w' : World) : Prop := ∃ r, e = .returned (.tuple #[r, .int .i64 p.2]) ∧ Fr No w w' ∧ Sl w' r p.1.length (bys p.1)
/-- .. and the bytes lie in a block of their own. -/
def RsB2 (w : World) (p : List Int × Int) (e : Ending) (w' : World) : Prop := ∃ r, e = .returned (.tuple #[r, .int .i64 p.2]) ∧ Fr No w w' ∧ Sl w' r p.1.length (bys p.1) ∧ ∀ k, r.ownBlock = some k → w.heap.size ≤ k
theorem bys_take (l : List Int) (k : Nat) : (bys l).take k = bys (l.take k) := by simp [bys, List.map_take]
theorem bys_drop (l : List Int) (k : Nat) : (bys l).drop k = bys (l.drop k) := by simp [bys, List.map_drop]
theorem contF_take {B : List Int} {xs : List (Int × Int)} {o n k : Nat} (h : k ≤ n) : (contF B xs o n).take k = contF B xs o k := by
  rw [contF, ← List.map_take, List.take_range, Nat.min_eq_left h]; rfl
theorem contF_drop {B : List Int} {xs : List (Int × Int)} {k c : Nat} : (contF B xs 0 (k + c)).drop k = contF B xs k c := by
  refine List.ext_getElem (by simp [contF]) (fun i h1 h2 => ?_)
  simp [contF]

set_option maxHeartbeats 4000000 in
set_option maxRecDepth 1000000 in
theorem rread2_calls {w : World} {rb : Nat} {R : Nat → Prop} {F B : List Int} (h : RefAt w rb R F B) (n o m : Int) (ho : -9223372036854775808 ≤ o ∧ o ≤ 9223372036854775807) (hm : -9223372036854775808 ≤ m ∧ m ≤ 9223372036854775807) :
    Calls Tryz.prog 73 #[.pointer (some ⟨rb, 0, none⟩), .int .i64 n, .int .i64 o, .int .i64 m] w (RsB2 w (readR B n o m)) := by
  have HM := Lib.hid h
  rcases open_cases B n with ⟨x, hx, h0⟩ | ⟨hx, L, u, k, ht, hk, rfl, hnm⟩
  · rw [readR_bad hx h0]
    have HND := Lib.hid (rnode_calls h n)
    have HX := Lib.hid hx
    have q1 : (x != 0) = true := by simp; omega
    have H0 := Lib.hid h0
    clear h hx h0 ho hm
    go_enter Tryz.func73, Tryz.ntmps73
    go_wp2_with fail
    refine HND.out.mono ?_
    rintro e w1 ⟨hF, ⟨x', h0', hx', rfl⟩ | ⟨L, u, k, ht, hk, rfl, hE, hnm, a, c, rfl, hs⟩⟩
    · obtain rfl : x = x' := HX.out.symm.trans hx'
      clear h0' hx'
      go_wp2
      go_ret2
      exact ⟨_, rfl, hF.alloc _, Sl.nil _, fun k e => by cases e⟩
    · have := HX.out; have := H0.out; omega
  · obtain ⟨nm, sz, xs, hxx⟩ : ∃ nm sz xs, L.getD k Nd.free = ⟨nm, sz, xs⟩ := ⟨_, _, _, rfl⟩
    have hnm' := hnm
    rw [hxx] at hnm'
    have HND := Lib.hid (rnode_good h ht hk hxx hnm')
    obtain ⟨-, f2, f3, f4, f5, -⟩ := tab_facts ht hk
    rw [readR_good ht hk hnm]
    rw [hxx] at f2 f3 f4 f5 ⊢
    dsimp only at f2 f3 f4 f5 ⊢
    clear h hx ht hk hnm hxx hnm'
    by_cases hneg : o < 0 ∨ m < 0
    · rw [if_pos hneg]
      clear f2 f3 f4 f5 ho hm
      have hd : decide (o < 0) = true ∨ (decide (o < 0) = false ∧ decide (m < 0) = true) := by
        by_cases h1 : o < 0
        · exact .inl (decide_eq_true h1)
        · exact .inr ⟨decide_eq_false h1, decide_eq_true (by omega)⟩
      clear hneg
      rcases hd with d1 | ⟨d1, d2⟩
      all_goals
        go_enter Tryz.func73, Tryz.ntmps73
        go_wp2_with fail
        refine HND.out.mono ?_
        rintro e w1 ⟨a, c, rfl, hF, hs⟩
        clear hs
        go_wp2
        go_ret2
        exact ⟨_, rfl, hF.alloc _, Sl.nil _, fun k e => by cases e⟩
    · rw [if_neg hneg]
      have d1 : decide (o < 0) = false := decide_eq_false (by omega)
      have d2 : decide (m < 0) = false := decide_eq_false (by omega)
      obtain ⟨oo, rfl⟩ := Int.eq_ofNat_of_zero_le (show 0 ≤ o by omega)
      obtain ⟨sn, rfl⟩ := Int.eq_ofNat_of_zero_le f3
      obtain ⟨cl, hcl⟩ : ∃ cl, 64 * (listF xs).length = cl := ⟨_, rfl⟩
      have hsc : sn ≤ cl := by
        rw [← hcl, f2, needF]; split <;> omega
      have HCT := Lib.hid (fun (w1 : World) v (hR : RefAt w1 rb R F B) (hv : Sl w1 v xs.length (extCells xs)) => (by
        have := rcontent_calls hR nm (sn : Int) v xs hv f5
        rw [hcl] at this; exact this))
      obtain ⟨c, hc⟩ : ∃ c : Nat, min m ((sn : Int) - oo) = (c : Int) ∨ sn ≤ oo := by
        by_cases h1 : sn ≤ oo
        · exact ⟨0, .inr h1⟩
        · exact ⟨(min m ((sn : Int) - oo)).toNat, .inl (by omega)⟩
      have HCC := Lib.hid hc
      have hob := ho.2
      have hsn : (sn : Int) ≤ 1472 := f4
      have hm0 : 0 ≤ m := by omega
      clear f2 f3 f4 f5 hcl hneg hc ho
      go_enter Tryz.func73, Tryz.ntmps73
      go_wp2_with fail
      refine HND.out.mono ?_
      rintro e w1 ⟨a, cp, rfl, hF1, hs⟩
      have HS1 := Lib.hid hs.1
      have HF1 := Lib.hid hF1
      clear hs hF1
      go_upto_region 6 with fail
      have HFa : RowKit.Hid (Fr No w1 (w1.alloc (Obj.cells #[.string nm, .int .i64 (sn : Int), .slice a xs.length cp] 95))) := Lib.hid ((Fr.refl _ _).alloc _)
      have hb := heap_new w1 (Obj.cells #[.string nm, .int .i64 (sn : Int), .slice a xs.length cp] 95)
      generalize w1.alloc (Obj.cells #[.string nm, .int .i64 (sn : Int), .slice a xs.length cp] 95) = W at *
      have c0 := heap_cell (o := 0) hb rfl
      have c1 := heap_cell (o := 1) hb rfl
      have c2 := heap_cell (o := 2) hb rfl
      clear hb
      generalize hb7 : w1.heap.size = b7 at *
      clear hb7
      have HCU := Lib.hid (HCT.out W.drew (.slice a xs.length cp) (HM.out.fr0 (HF1.out.trans (HFa.out.trans (Fr.refl _ _).drew))) (HS1.out.fr0 (HFa.out.trans (Fr.refl _ _).drew)))
      refine wp_region_held_drew (S := (fun w' => w'.cell? ⟨b7, 0, none⟩ = some (.string nm) ∧ w'.cell? ⟨b7, 1, none⟩ = some (.int .i64 (sn : Int)) ∧ w'.cell? ⟨b7, 2, none⟩ = some (.slice a xs.length cp))) (by kernel_rfl) ⟨c0, c1, c2⟩ (fun hS0 => ?_)
      refine take_at (i := 0) (d := some 30) (v := ?_) rfl rfl (by kernel_rfl) (by kernel_rfl) (by kernel_rfl) (fun _ _ _ h => h) (Or.inl ⟨by rfl, ?_⟩) (by assumption) ?_
      rotate_left
      · intro w hSw; go_simp; try (with_reducible rfl)
      try simp only [Act.put, List.setIfInBounds_toArray, List.set_cons_zero, List.set_cons_succ]
      refine take_at (i := 1) (d := some 31) (v := ?_) rfl rfl (by kernel_rfl) (by kernel_rfl) (by kernel_rfl) (fun _ _ _ h => h) (Or.inl ⟨by rfl, ?_⟩) (by assumption) ?_
      rotate_left
      · intro w hSw; go_simp; try (with_reducible rfl)
      try simp only [Act.put, List.setIfInBounds_toArray, List.set_cons_zero, List.set_cons_succ]
      refine take_at (i := 3) (d := some 33) (v := ?_) rfl rfl (by kernel_rfl) (by kernel_rfl) (by kernel_rfl) (fun _ _ _ h => h) (Or.inl ⟨by rfl, ?_⟩) (by assumption) ?_
      rotate_left
      · intro w hSw; go_simp; try (with_reducible rfl)
      try simp only [Act.put, List.setIfInBounds_toArray, List.set_cons_zero, List.set_cons_succ]
      refine take_at (i := 4) (d := some 34) (v := ?_) rfl rfl (by kernel_rfl) (by kernel_rfl) (by kernel_rfl) (fun _ _ _ h => h) (Or.inl ⟨by rfl, ?_⟩) (by assumption) ?_
      rotate_left
      · intro w hSw; go_simp; try (with_reducible rfl)
      try simp only [Act.put, List.setIfInBounds_toArray, List.set_cons_zero, List.set_cons_succ]
      refine wpAnyH_ready (rs := [2]) (by kernel_rfl) (by simp) ?_
      refine AllReadyH.cons rfl (fun K hK => ?_) AllReadyH.nil
      go_simp
      go_wp2_with (go_at_call 105; ((with_reducible refine HCU.out.mono ?_); rintro e w2 ⟨r, rfl, hF2, hr⟩; have g0 := hF2.cell c0 (fun h => h); have g1 := hF2.cell c1 (fun h => h); have g2 := hF2.cell c2 (fun h => h); obtain ⟨ar, cr, rfl⟩ := (Sl.of_owns hr).form; have HSR := Lib.hid (Sl.of_owns hr); have HOW := Lib.hid (show ∀ k, (Value.slice ar cl cr).ownBlock = some k → w.heap.size ≤ k from fun k e => by have := (hr.lt k e).1; have := HF1.out.size; have := HFa.out.size; have : W.drew.heap.size = W.heap.size := rfl; omega); have hcr : cl ≤ cr := (by obtain ⟨_, _, e, ⟨-, h⟩, -⟩ := Sl.of_owns hr; cases e; exact h); have hscr : sn ≤ cr := Nat.le_trans hsc hcr; have HF2 := Lib.hid (HFa.out.trans ((Fr.refl _ _).drew.trans hF2)); clear hF2 hr))
      refine hK.out _ _ ⟨g0, g1, g2⟩ (fun hHeld => ?_)
      clear hK K
      try simp only [Act.put, List.setIfInBounds_toArray, List.set_cons_zero, List.set_cons_succ]
      refine take_at (i := 5) (d := some 35) (v := ?_) rfl rfl (by kernel_rfl) (by kernel_rfl) (by kernel_rfl) (fun _ _ _ h => h) (Or.inl ⟨by rfl, ?_⟩) (by assumption) ?_
      rotate_left
      · intro w hSw; go_simp; try (with_reducible rfl)
      try simp only [Act.put, List.setIfInBounds_toArray, List.set_cons_zero, List.set_cons_succ]
      refine take_at (i := 6) (d := some 13) (v := ?_) rfl rfl (by kernel_rfl) (by kernel_rfl) (by kernel_rfl) (fun _ _ _ h => h) (Or.inl ⟨by rfl, ?_⟩) (by assumption) ?_
      rotate_left
      · intro w hSw; go_simp; try (with_reducible rfl)
      try simp only [Act.put, List.setIfInBounds_toArray, List.set_cons_zero, List.set_cons_succ]
      refine wpAnyH_done (by kernel_rfl) ?_ _
      have HSN := Lib.hid (HSR.out.take hsc 1)
      by_cases hlt : sn ≤ oo
      · have hres : (contF B xs (min (oo : Int) (sn : Int)).toNat (min m ((sn : Int) - min (oo : Int) (sn : Int))).toNat, (0 : Int)) = ([], 0) := by
          rw [show (min m ((sn : Int) - min (oo : Int) (sn : Int))).toNat = 0 by omega]; rfl
        have HRES := Lib.hid hres
        clear hres
        go_wp2
        go_ret2
        refine ⟨_, rfl, HF1.out.trans HF2.out, ?_⟩
        rw [HRES.out]
        exact ⟨Sl.nil _, fun k e => by cases e⟩
      · have hc := HCC.out.resolve_right hlt
        have hres : (contF B xs (min (oo : Int) (sn : Int)).toNat (min m ((sn : Int) - min (oo : Int) (sn : Int))).toNat, (0 : Int)) = (contF B xs oo c, 0) := by
          rw [show min (oo : Int) (sn : Int) = oo by omega, hc, Int.toNat_natCast, Int.toNat_natCast]
        have HRES := Lib.hid hres
        have hc1 : (if (sn : Int) - (oo : Int) < m then (sn : Int) - (oo : Int) else m) = (c : Int) := by rw [← hc]; split <;> omega
        have hw1 : IntKind.i64.wrap ((sn : Int) - (oo : Int)) = (sn : Int) - (oo : Int) := IntWalk.i64_in _ (by omega)
        obtain ⟨oc, hoc⟩ : ∃ oc : Nat, oo + c = oc := ⟨_, rfl⟩
        have hw2 : IntKind.i64.wrap ((oo : Int) + (c : Int)) = (oc : Int) := by rw [← hoc]; exact IntWalk.i64_in _ (by omega)
        have hoc1 : oc ≤ sn := by omega
        have hoc2 : oo ≤ oc := by omega
        have hoc3 : oc ≤ cr := by omega
        have hoc4 : cr ≠ oo := by omega
        have HD := Lib.hid ((HSN.out.take hoc1 1).drop (k := oo) hoc2 (size := 1) (by simp [bys, contF]; omega))
        have HOC := Lib.hid (show oc - oo = c by omega)
        have HEQ : RowKit.Hid ((((bys (contF B xs 0 cl)).take (sn * 1)).take (oc * 1)).drop (oo * 1) = bys (contF B xs oo c)) := Lib.hid (by
          rw [Nat.mul_one, Nat.mul_one, Nat.mul_one, bys_take, bys_take, bys_drop, contF_take hsc, contF_take hoc1, ← hoc, contF_drop])
        clear hc hoc hres
        go_wp2
        go_ret2
        refine ⟨_, rfl, HF1.out.trans HF2.out, ?_, ?_⟩
        · have h9 := HD.out
          rw [HEQ.out, HOC.out] at h9
          rw [HRES.out, contF_length]
          simpa [hoc4, HOC.out] using h9
        · intro k e
          refine HOW.out k ?_
          cases ar with
          | none => simp [Value.ownBlock] at e
          | some ad =>
            have e2 := e
            simp [Value.ownBlock, hoc4, Addr.add] at e2 ⊢
            split at e2 <;> simpa using e2

theorem rread_calls {w : World} {rb : Nat} {R : Nat → Prop} {F B : List Int} (h : RefAt w rb R F B) (n o m : Int) (ho : -9223372036854775808 ≤ o ∧ o ≤ 9223372036854775807) (hm : -9223372036854775808 ≤ m ∧ m ≤ 9223372036854775807) :
    Calls Tryz.prog 73 #[.pointer (some ⟨rb, 0, none⟩), .int .i64 n, .int .i64 o, .int .i64 m] w (RsB w (readR B n o m)) :=
  (rread2_calls h n o m ho hm).mono (fun e w' ⟨r, e1, h2, h3, _⟩ => ⟨r, e1, h2, h3⟩)
end Go.Proofs.YtoajnmbbgbpbgaaGreat
