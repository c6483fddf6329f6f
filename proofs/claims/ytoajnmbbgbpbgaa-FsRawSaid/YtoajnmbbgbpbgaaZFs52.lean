/-
  Chapter 12, the reference: Files.
-/
import Derived.Test.YtoajnmbbgbpbgaaZFs51
import Derived.Test.YtoajnmbbgbpbgaaZK
import Derived.Test.YtoajnmbbgbpbgaaZFs35
namespace Go.Proofs.Ytoajnmbbgbpbgaa
set_option linter.unusedVariables false
set_option linter.unusedSimpArgs false
open Go.RowKit Go.Shelf Go.Maps

theorem ownsRow_take {w : World} {base e n cap k : Nat} {a : Option Addr} {xs : List Value} (h : w.ownsRow base e 1 (.slice a n cap) n xs) (hk : k ≤ n) : w.ownsRow base e 1 (.slice a k cap) k (xs.take k) := by
  obtain ⟨h1, ⟨e1, e2⟩ | ⟨g, cap', cur, e1, hg, hh, hn, hm, hc, ht⟩⟩ := h
  · injection e1 with q1 q2 q3
    subst q1; subst q2; subst q3
    obtain rfl : k = 0 := by omega
    exact World.ownsRow_nil _ _ _ _
  · injection e1 with q1 q2 q3
    subst q1; subst q3
    refine ⟨by rw [List.length_take]; omega, .inr ⟨g, cap, cur, rfl, hg, hh, by omega, hm, hc, ?_⟩⟩
    rw [← ht, List.take_take]
    congr 1
    omega
theorem filesL_take {B : List Int} {L : List Nd} {k : Nat} (h : k < L.length) : filesL B (L.take (k + 1)) = if L[k].name = noName then filesL B (L.take k) else filesL B (L.take k) ++ [entry B L[k]] := by
  rw [List.take_succ_eq_append_getElem h]
  by_cases hn : L[k].name = noName
  · have hd : named L[k] = false := by simp [named, hn]
    rw [if_pos hn, filesL, List.filter_append, List.map_append, List.filter_cons_of_neg (by rw [hd]; decide)]; simp [filesL]
  · have hd : named L[k] = true := by simp [named, hn]
    rw [if_neg hn, filesL, List.filter_append, List.map_append, List.filter_cons_of_pos hd]; simp [filesL]
theorem filesL_len (B : List Int) (L : List Nd) : (filesL B L).length ≤ L.length := by
  rw [filesL, List.length_map]; exact List.length_filter_le _ _

set_option maxHeartbeats 8000000 in
set_option maxRecDepth 1000000 in
theorem rfiles12_calls {w : World} {rb : Nat} {R : Nat → Prop} {F B : List Int} (h : RefAt w rb R F B) :
    Calls Try.prog 64 #[.pointer (some ⟨rb, 0, none⟩)] w fun e w' => ∃ r vs, e = .returned (.tuple #[r, .int .i64 (filesR B).2]) ∧ Fr No w w' ∧
      w'.ownsRow w.heap.size 45 2 r (filesR B).1.length (fileCells vs) ∧ FilesV (filesR B).1 vs w' No := by
  have HM := Lib.hid h
  cases ht : tableF B with
  | none =>
    have HT := Lib.hid (rtable_bad h ht)
    have hr : filesR B = ([], 120) := by unfold filesR; generalize tableF B = t at *; subst ht; rfl
    rw [hr]
    clear h ht hr
    go_enter Try.func64, Try.ntmps64
    go_wp2_with fail
    refine HT.out.mono ?_
    rintro e w1 ⟨rfl, hF⟩
    go_wp2
    go_ret2
    exact ⟨_, [], rfl, hF, World.ownsRow_nil _ _ _ _, .nil⟩
  | some p =>
    obtain ⟨L, u⟩ := p
    have HT := Lib.hid (rtable_good h ht)
    have hr : filesR B = (filesL B L, 0) := by unfold filesR; generalize tableF B = t at *; subst ht; rfl
    rw [hr]
    have HL := Lib.hid (tableF_len ht)
    have HTF := Lib.hid (fun k (hk : k < 8) => tab_facts ht hk)
    have HCT := Lib.hid (fun (w1 : World) (hF : Fr No w w1) s n v xs hv hxl => rcontent_calls (h.fr0 hF) s n v xs hv hxl)
    clear h ht hr
    go_enter Try.func64, Try.ntmps64
    go_wp2_with fail
    refine HT.out.mono ?_
    rintro e w1 ⟨T, a, c, N, hN8, rfl, hF1, hL⟩
    have HLL := Lib.hid hL
    have HN8 := Lib.hid hN8
    have HF1 := Lib.hid hF1
    clear hL HT hN8 hF1
    go_wp2_with fail
    go_loopw [7, 20] (fun r i wr => ∃ k vs, k ≤ N ∧ i = .int .i64 (k : Nat) ∧ Fr No w1 wr ∧ wr.ownsRow w1.heap.size 45 2 r (filesL B (L.take k)).length (fileCells vs) ∧ FilesV (filesL B (L.take k)) vs wr No) (fun _ i _ => N - (intOf i).toNat)
    case atStart => exact ⟨0, [], Nat.zero_le _, rfl, Fr.refl _ _, by rw [List.take_zero]; exact World.ownsRow_nil _ _ _ _, by rw [List.take_zero]; exact .nil⟩
    case round =>
      obtain ⟨k, vs, hk, rfl, hF, hr, hfv⟩ := hrel
      by_cases hkt : k < N
      · obtain ⟨g, c', a1, cc1, nm, sz1, xs1, e1, e2, x0, x1, x2, hsn⟩ := (HLL.out.fr0 hF).node k (by have := HN8.out; omega)
        obtain ⟨rfl, rfl⟩ : a = some ⟨g, 0, none⟩ ∧ c = c' := by cases e1; exact ⟨rfl, rfl⟩
        have hk9 : k < 9 := by have := HN8.out; omega
        have hkL : k < L.length := by have := HL.out; have := HN8.out; omega
        have htf := HTF.out k (by have := HN8.out; omega)
        rw [e2] at htf
        rw [getD_get hkL] at e2
        have HNM : RowKit.Hid (L[k] = ⟨nm, sz1, xs1⟩) := Lib.hid e2
        have HTK := Lib.hid (filesL_take (B := B) hkL)
        have HF := Lib.hid hF
        have HR := Lib.hid hr
        have HV := Lib.hid hfv
        have HSN := Lib.hid hsn.1
        have HTL : RowKit.Hid ((filesL B (L.take k)).length ≤ k) := Lib.hid (Nat.le_trans (filesL_len _ _) (by rw [List.length_take]; omega))
        obtain ⟨ar, cr, rfl⟩ := (Sl.of_owns hr).form
        obtain ⟨-, f2, f3, f4, f5, -⟩ := htf
        dsimp only at f2 f3 f4 f5
        obtain ⟨sn, rfl⟩ := Int.eq_ofNat_of_zero_le f3
        have HFA : RowKit.Hid (Fr No wr (wr.alloc (Obj.cells #[.string nm, .int .i64 (sn : Int), .slice a1 xs1.length cc1] 80))) := Lib.hid ((Fr.refl _ _).alloc _)
        have hb := heap_new wr (Obj.cells #[.string nm, .int .i64 (sn : Int), .slice a1 xs1.length cc1] 80)
        have HB := Lib.hid hb
        have hnle : (filesL B (L.take k)).length ≤ 8 := by have := HTL.out; omega
        generalize hfl : (filesL B (L.take k)).length = fl at *
        have HFL := Lib.hid hfl
        clear e1 e2 hsn hF hr hfv hfl hb
        by_cases hnm : nm = noName
        · have he := emp_true hnm
          have HE := Lib.hid hnm
          clear hnm f2 f3 f4 f5
          go_wp2_with fail
          go_roundw
          case rel =>
            refine ⟨k + 1, vs, by omega, by go_num, HF.out.alloc _, ?_, ?_⟩
            · rw [HTK.out, if_pos (by rw [HNM.out]; exact HE.out), HFL.out]
              exact ownsRow_fr HR.out HFA.out (fun _ _ h => h)
            · rw [HTK.out, if_pos (by rw [HNM.out]; exact HE.out)]
              exact HV.out.fr0 HFA.out
          case measure => simp [intOf]; omega
        · have he := emp_false hnm
          have HE := Lib.hid hnm
          obtain ⟨cl, hcl⟩ : ∃ cl, 64 * (listF xs1).length = cl := ⟨_, rfl⟩
          have hsc : sn ≤ cl := by
            rw [← hcl, f2, needF]; split <;> omega
          have F5 := Lib.hid f5
          have HCL := Lib.hid hcl
          clear hnm f2 f3 f4 f5 hcl
          go_upto_region 9 with fail
          generalize wr.alloc (Obj.cells #[.string nm, .int .i64 (sn : Int), .slice a1 xs1.length cc1] 80) = W at *
          have c0 := heap_cell (o := 0) HB.out rfl
          have c1 := heap_cell (o := 1) HB.out rfl
          have c2 := heap_cell (o := 2) HB.out rfl
          generalize wr.heap.size = b7 at *
          have HCU := Lib.hid (by
            have := HCT.out W.drew (HF1.out.trans (HF.out.trans (HFA.out.trans (Fr.refl _ _).drew))) nm (sn : Int) (.slice a1 xs1.length cc1) xs1 (HSN.out.fr0 (HFA.out.trans (Fr.refl _ _).drew)) F5.out
            rw [HCL.out] at this; exact this)
          refine wp_region_held_drew (S := (fun w' => w'.cell? ⟨b7, 0, none⟩ = some (.string nm) ∧ w'.cell? ⟨b7, 1, none⟩ = some (.int .i64 (sn : Int)) ∧ w'.cell? ⟨b7, 2, none⟩ = some (.slice a1 xs1.length cc1))) (by kernel_rfl) ⟨c0, c1, c2⟩ (fun hS0 => ?_)
          refine take_at (i := 0) (d := some 27) (v := ?_) rfl rfl (by kernel_rfl) (by kernel_rfl) (by kernel_rfl) (fun _ _ _ h => h) (Or.inl ⟨by rfl, ?_⟩) (by assumption) ?_
          rotate_left
          · intro w hSw; go_simp; try (with_reducible rfl)
          try simp only [Act.put, List.setIfInBounds_toArray, List.set_cons_zero, List.set_cons_succ]
          refine take_at (i := 1) (d := some 28) (v := ?_) rfl rfl (by kernel_rfl) (by kernel_rfl) (by kernel_rfl) (fun _ _ _ h => h) (Or.inl ⟨by rfl, ?_⟩) (by assumption) ?_
          rotate_left
          · intro w hSw; go_simp; try (with_reducible rfl)
          try simp only [Act.put, List.setIfInBounds_toArray, List.set_cons_zero, List.set_cons_succ]
          refine take_at (i := 2) (d := some 29) (v := ?_) rfl rfl (by kernel_rfl) (by kernel_rfl) (by kernel_rfl) (fun _ _ _ h => h) (Or.inl ⟨by rfl, ?_⟩) (by assumption) ?_
          rotate_left
          · intro w hSw; go_simp; try (with_reducible rfl)
          try simp only [Act.put, List.setIfInBounds_toArray, List.set_cons_zero, List.set_cons_succ]
          refine take_at (i := 3) (d := some 30) (v := ?_) rfl rfl (by kernel_rfl) (by kernel_rfl) (by kernel_rfl) (fun _ _ _ h => h) (Or.inl ⟨by rfl, ?_⟩) (by assumption) ?_
          rotate_left
          · intro w hSw; go_simp; try (with_reducible rfl)
          try simp only [Act.put, List.setIfInBounds_toArray, List.set_cons_zero, List.set_cons_succ]
          refine take_at (i := 4) (d := some 31) (v := ?_) rfl rfl (by kernel_rfl) (by kernel_rfl) (by kernel_rfl) (fun _ _ _ h => h) (Or.inl ⟨by rfl, ?_⟩) (by assumption) ?_
          rotate_left
          · intro w hSw; go_simp; try (with_reducible rfl)
          try simp only [Act.put, List.setIfInBounds_toArray, List.set_cons_zero, List.set_cons_succ]
          refine take_at (i := 6) (d := some 33) (v := ?_) rfl rfl (by kernel_rfl) (by kernel_rfl) (by kernel_rfl) (fun _ _ _ h => h) (Or.inl ⟨by rfl, ?_⟩) (by assumption) ?_
          rotate_left
          · intro w hSw; go_simp; try (with_reducible rfl)
          try simp only [Act.put, List.setIfInBounds_toArray, List.set_cons_zero, List.set_cons_succ]
          refine take_at (i := 7) (d := some 34) (v := ?_) rfl rfl (by kernel_rfl) (by kernel_rfl) (by kernel_rfl) (fun _ _ _ h => h) (Or.inl ⟨by rfl, ?_⟩) (by assumption) ?_
          rotate_left
          · intro w hSw; go_simp; try (with_reducible rfl)
          try simp only [Act.put, List.setIfInBounds_toArray, List.set_cons_zero, List.set_cons_succ]
          refine wpAnyH_ready (rs := [5]) (by kernel_rfl) (by simp) ?_
          refine AllReadyH.cons rfl (fun K hK => ?_) AllReadyH.nil
          go_simp
          go_wp2_with (go_at_call 96; ((with_reducible refine HCU.out.mono ?_); rintro e w2 ⟨r2, rfl, hF2, hr2⟩; have g0 := hF2.cell c0 (fun h => h); have g1 := hF2.cell c1 (fun h => h); have g2 := hF2.cell c2 (fun h => h); obtain ⟨ar2, cr2, rfl⟩ := (Sl.of_owns hr2).form; have hcr : cl ≤ cr2 := (Sl.of_owns hr2).le; have hscr : sn ≤ cr2 := Nat.le_trans hsc hcr; have HR2 := Lib.hid (ownsRow_take hr2 hsc); have HF2 := Lib.hid (HFA.out.trans ((Fr.refl _ _).drew.trans hF2)); clear hF2 hr2))
          refine hK.out _ _ ⟨g0, g1, g2⟩ (fun hHeld => ?_)
          clear hK K
          try simp only [Act.put, List.setIfInBounds_toArray, List.set_cons_zero, List.set_cons_succ]
          refine take_at (i := 8) (d := some 35) (v := ?_) rfl rfl (by kernel_rfl) (by kernel_rfl) (by kernel_rfl) (fun _ _ _ h => h) (Or.inl ⟨by rfl, ?_⟩) (by assumption) ?_
          rotate_left
          · intro w hSw; go_simp; try (with_reducible rfl)
          try simp only [Act.put, List.setIfInBounds_toArray, List.set_cons_zero, List.set_cons_succ]
          refine take_at (i := 9) (d := some 36) (v := ?_) rfl rfl (by kernel_rfl) (by kernel_rfl) (by kernel_rfl) (fun _ _ _ h => h) (Or.inl ⟨by rfl, ?_⟩) (by assumption) ?_
          rotate_left
          · intro w hSw; go_simp; try (with_reducible rfl)
          try simp only [Act.put, List.setIfInBounds_toArray, List.set_cons_zero, List.set_cons_succ]
          refine wpAnyH_ready (rs := [10]) (by kernel_rfl) (by simp) ?_
          refine AllReadyH.cons rfl (fun K hK => ?_) AllReadyH.nil
          go_simp
          have HF3 : RowKit.Hid (Fr No w2 (w2.alloc (Obj.cells #[.string nm, .slice ar2 sn cr2] 45))) := Lib.hid ((Fr.refl _ _).alloc _)
          have HB3 := Lib.hid (heap_new w2 (Obj.cells #[.string nm, .slice ar2 sn cr2] 45))
          generalize w2.alloc (Obj.cells #[.string nm, .slice ar2 sn cr2] 45) = W3 at *
          have HB3' : RowKit.Hid (Sl W3 (.slice (some ⟨w2.heap.size, 0, none⟩) 1 1) 1 [.string nm, .slice ar2 sn cr2]) := Lib.hid ⟨_, _, rfl, ⟨by simp, Nat.le_refl _⟩, fun _ => ⟨_, _, rfl⟩, by
            rintro b off j uu ⟨rfl, rfl⟩ hj
            rw [Nat.zero_add]
            exact heap_cell HB3.out (by simpa using hj)⟩
          have k0 := HF3.out.cell g0 (fun h => h)
          have k1 := HF3.out.cell g1 (fun h => h)
          have k2 := HF3.out.cell g2 (fun h => h)
          generalize w2.heap.size = b8 at *
          refine hK.out _ _ ⟨k0, k1, k2⟩ (fun hHeld => ?_)
          clear hK K
          try simp only [Act.put, List.setIfInBounds_toArray, List.set_cons_zero, List.set_cons_succ]
          have HF23 := Lib.hid (HF2.out.trans HF3.out)
          have HR3 := Lib.hid (ownsRow_fr HR.out HF23.out (fun _ _ h => h))
          have HRC3 := Lib.hid (ownsRow_fr HR2.out HF3.out (fun _ _ h => h))
          refine wpAnyH_ready (rs := [11]) (by kernel_rfl) (by simp) ?_
          refine AllReadyH.cons rfl (fun K hK => ?_) AllReadyH.nil
          refine step_append_sl el_file rfl _ _ rfl w1.heap.size (.slice ar fl cr) fl _ rfl HR3.out rfl HB3'.out (by simp) (by intro u hu; simp at hu; rcases hu with rfl | rfl <;> rfl) (by unfold maxLen; omega) (by omega) (Nat.le_trans HF.out.size HF23.out.size) ?_
          intro a4 n4 c4 w4 hown4 hgrow4 hlie4
          have hF4 : Fr (fun k => (Value.slice ar fl cr).ownBlock = some k) W3 w4 := fr_grown hgrow4
          have HF4 := Lib.hid hF4
          have HO4 := Lib.hid hown4
          have HLO : RowKit.Hid (∀ q, (Value.slice ar fl cr).ownBlock = some q → w1.heap.size ≤ q ∧ q ≠ b7) := Lib.hid (fun q e => ⟨(HR.out.lt q e).1, fun e' => by subst e'; exact not_row HB.out (by decide) (ownsRow_fr HR.out HFA.out (fun _ _ h => h)) e.symm⟩)
          have d0 := hF4.cell k0 (fun e => (HLO.out _ e).2 rfl)
          have d1 := hF4.cell k1 (fun e => (HLO.out _ e).2 rfl)
          have d2 := hF4.cell k2 (fun e => (HLO.out _ e).2 rfl)
          clear hown4 hgrow4 hlie4 hF4
          refine hK.out _ _ ⟨d0, d1, d2⟩ (fun hHeld => ?_)
          clear hK K
          try simp only [Act.put, List.setIfInBounds_toArray, List.set_cons_zero, List.set_cons_succ]
          refine take_at (i := 12) (d := some 7) (v := ?_) rfl rfl (by kernel_rfl) (by kernel_rfl) (by kernel_rfl) (fun _ _ _ h => h) (Or.inl ⟨by rfl, ?_⟩) (by assumption) ?_
          rotate_left
          · intro w hSw; go_simp; try (with_reducible rfl)
          try simp only [Act.put, List.setIfInBounds_toArray, List.set_cons_zero, List.set_cons_succ]
          refine wpAnyH_done (by kernel_rfl) ?_ _
          go_wp2_with fail
          go_roundw
          case rel =>
            have hfs : filesL B (L.take (k + 1)) = filesL B (L.take k) ++ [entry B ⟨nm, (sn : Int), xs1⟩] := by
              rw [HTK.out, if_neg (by rw [HNM.out]; exact HE.out), HNM.out]
            have hap : ∀ {n : Nat} {v : Value} {xs : List Value}, W3.ownsRow 0 5 1 v n xs → w4.ownsRow 0 5 1 v n xs := fun hv => ownsRow_fr hv HF4.out (fun q e e' => rows_apart HR3.out hv (by decide) q e' e)
            refine ⟨k + 1, vs ++ [(nm, .slice ar2 sn cr2)], by omega, by go_num, HF.out.trans' (HF23.out.no.trans HF4.out) (fun i hi e => by have := (HLO.out i e).1; omega), ?_, ?_⟩
            · rw [hfs, List.length_append, List.length_singleton, HFL.out, fileCells_snoc]
              have h9 := HO4.out
              obtain ⟨_, _, e9⟩ := (Sl.of_owns h9).form
              exact h9
            · rw [hfs]
              have h8 : FilesV (filesL B (L.take k)) vs w4 No := forall2_imp (HV.out.fr0 HF23.out) (fun x p ⟨q1, q2, q3⟩ => ⟨q1, hap q2, q3⟩)
              refine FilesV.snoc h8 (x := entry B ⟨nm, (sn : Int), xs1⟩) ?_ (fun _ _ h => h)
              have h9 := hap (ownsRow_base HRC3.out (Nat.zero_le _))
              rw [bys_take, contF_take hsc] at h9
              simp only [entry, Int.toNat_natCast, contF_length]
              exact h9
          case measure => simp [intOf]; omega
      · obtain rfl : k = N := by omega
        have hk8 : L.take k = L := List.take_of_length_le (by have := HL.out; have := HN8.out; omega)
        rw [hk8] at hr hfv
        have HR := Lib.hid hr
        have HV := Lib.hid hfv
        have HF := Lib.hid hF
        clear hr hfv hF hk8
        obtain ⟨ar, cr, rfl⟩ := (Sl.of_owns HR.out).form
        go_wp2_with fail
        go_ret2
        exact ⟨_, vs, rfl, HF1.out.trans HF.out, ownsRow_base HR.out HF1.out.size, HV.out⟩
end Go.Proofs.Ytoajnmbbgbpbgaa
