/-
  Chapter 7: the law's same: what lies on the disk now is what the changes say.
-/
import Derived.Test.YtpcikbloflpahaaDoorZLo2
import Derived.Test.YtpcikbloflpahaaDoorYD
import Derived.Test.YtpcikbloflpahaaDoorZSh3
namespace Go.Proofs.YtpcikbloflpahaaDoor
set_option linter.unusedVariables false
set_option linter.unusedSimpArgs false
open Go.RowKit Go.Shelf Go.Maps

theorem manyS_sec {N : Nat} (hN : N ≤ 2000) : manyS (64 * N) = N := by unfold manyS; omega
theorem ofB_id {B : List Int} {N : Nat} (hB : B.length = 64 * N) (hN : N ≤ 2000) : ofB B = B := by
  unfold ofB
  rw [hB, manyS_sec hN]
  apply List.ext_getElem (by rw [laidB_len, hB])
  intro i h1 h2
  simp only [laidB, List.getElem_map, List.getElem_range]
  rw [if_pos (by omega), List.getD_eq_getElem?_getD, List.getElem?_eq_getElem h2]
  rfl
theorem take_sec {B : List Int} (j : Nat) : B.take (64 * j) ++ secB B j = B.take (64 * (j + 1)) := by
  unfold secB
  rw [show 64 * (j + 1) = 64 * j + 64 by omega, List.take_add]
theorem memB_len {B : List Int} {N : Nat} (hB : B.length = 64 * N) {t : Int} (h : ∃ s, treeB B N t = some s) : (memB B t).length = 8192 := (memJ_sec hB (tree_fit h) 128).1
theorem conv_8k {w : World} {a : Option Addr} {cap : Nat} {l : List Int} (hl : l.length = 8192) (hv : Sl w (.slice a 8192 cap) 8192 (bys l)) : (convert 30 9 (.slice a 8192 cap)).run Tryd.prog w = .ok (.string (strOfNums l)) w := by
  have := conv_sl (w := w) (a := a) (cap := cap) (l := l) (by rw [hl]; exact hv)
  rwa [hl] at this
attribute [local irreducible] chgB memB treeB pagesG outG secB
set_option maxHeartbeats 8000000 in
set_option maxRecDepth 1000000 in
theorem same7_calls {w : World} {db rb N N' acts : Nat} {A : Nat → Prop} {B B' : List Int} (h : DkR w db A acts N B) (hN : N ≤ 2000) (hl : B.length = 64 * N) (hbr : ∀ x ∈ B, 0 ≤ x ∧ x < 256) (hr : RfR w rb N' B')
    (t' t : Int) (ht1 : -9223372036854775808 ≤ t' ∧ t' ≤ 9223372036854775807) (ht2 : -9223372036854775808 ≤ t ∧ t ≤ 9223372036854775807) (hs1 : ∃ s, treeB B N t' = some s) (hs2 : ∃ s, treeB B' N' t = some s)
    (v : Value) (Lc : List ChA) (hv : Sl w v Lc.length (Lc.flatMap chaC)) (hok : ∀ y ∈ Lc, chaOk w y) (hlen : Lc.length ≤ 140737488355328) (hgl : ∀ y ∈ Lc, goodC y) (heq : memB B t' = chgB (memB B' t) (outG (pagesG Lc 128))) :
    Calls Tryd.prog 21 #[.pointer (some ⟨db, 0, none⟩), .int .i64 t', .pointer (some ⟨rb, 0, none⟩), .int .i64 t, v] w fun e w' => e = .returned (.bool true) ∧ Fr No w w' := by
  have hmk : ∀ w : World, (Instr.makeSlice 30 (.int .i64 0) (.int .i64 0)).run Tryd.prog w = .ok (.slice (some ⟨w.heap.size, 0, none⟩) 0 0) (w.alloc (.cells (bys (zs 0)).toArray 5)) := fun w => mk_bytes w 0 (by decide)
  obtain ⟨av, cv, rfl⟩ := hv.form
  have HO0 := Lib.hid (row_owns7 (base := w.heap.size) (heap_new w (.cells (bys (zs 0)).toArray 5)) (by rfl : (zs 0).length = 0) (by decide) (Nat.le_refl _))
  have HF0 := Lib.hid (show Fr No w (w.alloc (.cells (bys (zs 0)).toArray 5)) from (Fr.refl No w).alloc _)
  have HLN := Lib.hid (fun w1 (hF : Fr No w w1) => glen_calls (h.fr0 hF))
  have HRD := Lib.hid (fun w1 (hF : Fr No w w1) i hi => gread_calls (h.fr0 hF) i hi)
  have HLR := Lib.hid (fun w1 (hF : Fr No w w1) => trload_calls (hr.fr0 hF) t ht2)
  have HMG := Lib.hid (fun w1 (hF : Fr No w w1) => rmerge_calls (.slice av Lc.length cv) Lc w1 (hv.fr0 hF) (fun y hy => ⟨(hok y hy).1, (hok y hy).2.1.fr0 hF, (hok y hy).2.2⟩) hlen)
  have HB := Lib.hid (And.intro hl (And.intro hbr hN))
  have HT := Lib.hid (And.intro ht1 (And.intro hs1 hs2))
  have HG := Lib.hid (And.intro hgl heq)
  have HPG := Lib.hid (outG_good hgl)
  have HM1 := Lib.hid (memB_len hl hs1)
  have HM2 := Lib.hid (memB_len hr.2.1 hs2)
  clear h hr hv hok hl hbr ht1 ht2 hs1 hs2 hgl heq
  go_enter Tryd.func21, Tryd.ntmps21
  go_wp2_with fail
  generalize w.alloc (.cells (bys (zs 0)).toArray 5) = W0 at *
  generalize hws : w.heap.size = ws at *
  clear hmk
  go_loopw [11, 12] (fun a i wr => ∃ (j : Nat) (aa : Option Addr) (ac : Nat), j ≤ N ∧ i = .int .i64 (j : Int) ∧ a = .slice aa (64 * j) ac ∧ wr.ownsRow ws 5 1 (.slice aa (64 * j) ac) (64 * j) (bys (B.take (64 * j))) ∧ Fr No w wr) (fun _ i _ => N - (intOf i).toNat)
  case atStart => exact ⟨0, _, _, by omega, rfl, rfl, HO0.out, HF0.out⟩
  case round =>
    obtain ⟨j, aa, ac, hj, rfl, rfl, hro, hF⟩ := hrel
    have HL1 := Lib.hid (HLN.out wr hF)
    have HR1 := Lib.hid (HRD.out wr hF)
    have HX := Lib.hid (And.intro hro hF)
    clear hro hF
    by_cases hlt : j < N
    · have dj : decide ((j : Int) < (N : Int)) = true := decide_eq_true (by omega)
      go_wp2_with fail
      refine HL1.out.mono ?_
      rintro e w2 ⟨rfl, rfl⟩
      go_wp2_with fail
      refine (HR1.out j hlt).mono ?_
      rintro e w3 ⟨r, rfl, hF3, hrg⟩
      have HS := Lib.hid (readG_sl hrg (Fr.refl No _) HB.out.1 hlt)
      obtain ⟨g, rfl, -, -⟩ := hrg
      have HO := Lib.hid (ownsRow_fr7 HX.out.1 hF3 (fun _ _ h => h))
      have HF := Lib.hid (HX.out.2.trans hF3)
      have hsz : ws ≤ w3.heap.size := by rw [← hws]; exact HF.out.size
      have hls : (bys (secB B j)).length = 64 * 1 := by rw [bys_len, secB_len (by rw [HB.out.1]; omega)]
      have hNN := HB.out.2.2
      clear hF3
      go_wp2_with (first
        | (at_builtin; (refine append_at7 el_u8 rfl _ (.tmp 35) rfl ws (.slice aa (64 * j) ac) (64 * j) (bys (B.take (64 * j))) rfl HO.out rfl HS.out hls (bys_one _) (by unfold maxLen; omega) (by omega) hsz ?_; intro a3 n3 c3 w4 hown4 hgrow4 hlie4))
        | fail "arm")
      rw [← bys_app7, take_sec] at hown4
      obtain ⟨a5, c5, e5⟩ := (Sl.of_owns hown4).form
      injection e5 with e5 e6 e7
      subst e5 e6 e7
      have HF4 := Lib.hid (HF.out.trans' (fr_grown7 hgrow4) (fun k hk e => by have := (HO.out.lt k e).1; omega))
      have HO4 := Lib.hid hown4
      clear hown4 hgrow4 hlie4
      go_wp2_with fail
      refine ⟨⟨j + 1, _, _, by omega, by go_num, by rw [show 64 * (j + 1) = 64 * j + 64 by omega], by have := HO4.out; rw [show 64 * (j + 1) = 64 * j + 64 by omega] at this ⊢; exact this, HF4.out⟩, by simp [intOf]; omega⟩
    · obtain rfl : j = N := by omega
      have dj : decide ((j : Int) < (j : Int)) = false := decide_eq_false (by omega)
      have htk : B.take (64 * j) = B := List.take_of_length_le (by rw [HB.out.1]; omega)
      rw [htk] at HX
      have HOF := Lib.hid (rof_calls (.slice aa (64 * j) ac) B (w := wr) (by rw [HB.out.1]; have := HB.out.2.2; omega) HB.out.2.1 (by rw [HB.out.1]; exact Sl.of_owns HX.out.1))
      rw [ofB_id HB.out.1 HB.out.2.2, HB.out.1, manyS_sec HB.out.2.2] at HOF
      clear htk
      go_wp2_with fail
      refine HL1.out.mono ?_
      rintro e w2 ⟨rfl, rfl⟩
      go_wp2_with fail
      refine HOF.out.mono ?_
      rintro e w3 ⟨ob, rfl, hrf, hF3⟩
      have HF3 := Lib.hid (HX.out.2.trans hF3)
      have HL3 := Lib.hid (trload_calls hrf t' HT.out.1)
      clear hF3 hrf
      go_wp2_with fail
      refine HL3.out.mono ?_
      rintro e w4 ⟨hF4, ⟨-, r4, rfl, ho4⟩ | ⟨hno, -⟩⟩
      rotate_left
      · obtain ⟨s, hs⟩ := HT.out.2.1; rw [hno] at hs; cases hs
      have HO4 := Lib.hid ho4
      have HF4 := Lib.hid (HF3.out.trans hF4)
      obtain ⟨a4, c4, rfl⟩ := (Sl.of_owns ho4).form
      clear hF4 ho4
      go_wp2_with fail
      refine (HLR.out _ HF4.out).mono ?_
      rintro e w5 ⟨hF5, ⟨-, r5, rfl, ho5⟩ | ⟨hno, -⟩⟩
      rotate_left
      · obtain ⟨s, hs⟩ := HT.out.2.2; rw [hno] at hs; cases hs
      have HO5 := Lib.hid (Sl.of_owns ho5)
      have HO45 := Lib.hid ((Sl.of_owns HO4.out).fr0 hF5)
      have HF5 := Lib.hid (HF4.out.trans hF5)
      obtain ⟨a5, c5, rfl⟩ := (Sl.of_owns ho5).form
      clear hF5 ho5
      go_wp2_with fail
      refine (HMG.out _ HF5.out).mono ?_
      rintro e w6 (⟨-, r6, vs, rfl, hF6, ho6, hcv6⟩ | ⟨hno, -⟩)
      rotate_left
      · obtain ⟨y, hy, hn⟩ := hno; exact absurd (HG.out.1 y hy) hn
      obtain ⟨a6, c6, rfl⟩ := (Sl.of_owns ho6).form
      have HF6 := Lib.hid (HF5.out.trans hF6)
      have HS5 := Lib.hid (HO5.out.fr0 hF6)
      have HS4 := Lib.hid (HO45.out.fr0 hF6)
      have hpl := outG_len (pagesG Lc 128)
      have hpl8 := pagesG_len Lc 128
      rw [← hpl] at ho6 hpl8
      have hml := HM2.out
      have hmn := HM1.out
      rw [HG.out.2] at HS4 hmn
      have HCH := Lib.hid (fun w7 (hF : Fr No w6 w7) => rchanged_calls (.slice a5 8192 c5) (memB B' t) hml (HS5.out.fr0 hF) (.slice a6 (outG (pagesG Lc 128)).length c6) (outG (pagesG Lc 128)) vs (ownsRow_fr7 ho6 hF (fun _ _ h => h)) (hcv6.fr0 hF) HPG.out hpl8)
      rw [hpl] at HCH
      have HSS := Lib.hid (fun w7 (hF : Fr No w6 w7) => conv_8k hmn (HS4.out.fr0 hF))
      have HCV := Lib.hid (fun w7 r (hs : Sl w7 r 8192 (bys (chgB (memB B' t) (outG (pagesG Lc 128))))) => hs)
      have HC8 := Lib.hid (fun w7 a c (hs : Sl w7 (.slice a 8192 c) 8192 (bys (chgB (memB B' t) (outG (pagesG Lc 128))))) => conv_8k hmn hs)
      have hFd := (Fr.refl No w6).drew
      clear ho6 hcv6 hF6 hml hmn hpl hpl8
      generalize strOfNums (chgB (memB B' t) (outG (pagesG Lc 128))) = st at *
      go_upto_region 10 with fail
      have e1 := HSS.out _ hFd
      refine wp_region_held_drew (S := (fun w' => (convert 30 9 (.slice a4 8192 c4)).run Tryd.prog w' = .ok (.string st) w')) (by kernel_rfl) e1 (fun hS0 => ?_)
      refine take_at7 (i := 0) (d := some 55) (v := ?_) rfl rfl (by kernel_rfl) (by kernel_rfl) (by kernel_rfl) (fun _ _ _ h => h) (Or.inl ⟨by rfl, ?_⟩) (by assumption) ?_
      rotate_left
      · intro w hSw; go_simp; try (with_reducible rfl)
      try simp only [Act.put, List.setIfInBounds_toArray, List.set_cons_zero, List.set_cons_succ]
      refine take_at7 (i := 1) (d := some 56) (v := ?_) rfl rfl (by kernel_rfl) (by kernel_rfl) (by kernel_rfl) (fun _ _ _ h => h) (Or.inl ⟨by rfl, ?_⟩) (by assumption) ?_
      rotate_left
      · intro w hSw; go_simp; try (with_reducible rfl)
      try simp only [Act.put, List.setIfInBounds_toArray, List.set_cons_zero, List.set_cons_succ]
      refine take_at7 (i := 2) (d := some 57) (v := ?_) rfl rfl (by kernel_rfl) (by kernel_rfl) (by kernel_rfl) (fun _ _ _ h => h) (Or.inl ⟨by rfl, ?_⟩) (by assumption) ?_
      rotate_left
      · intro w hSw; go_simp; try (with_reducible rfl)
      try simp only [Act.put, List.setIfInBounds_toArray, List.set_cons_zero, List.set_cons_succ]
      refine take_at7 (i := 3) (d := some 58) (v := ?_) rfl rfl (by kernel_rfl) (by kernel_rfl) (by kernel_rfl) (fun _ _ _ h => h) (Or.inl ⟨by rfl, ?_⟩) (by assumption) ?_
      rotate_left
      · intro w hSw; go_simp; try (with_reducible rfl)
      try simp only [Act.put, List.setIfInBounds_toArray, List.set_cons_zero, List.set_cons_succ]
      refine take_at7 (i := 4) (d := some 59) (v := ?_) rfl rfl (by kernel_rfl) (by kernel_rfl) (by kernel_rfl) (fun _ _ _ h => h) (Or.inl ⟨by rfl, ?_⟩) (by assumption) ?_
      rotate_left
      · intro w hSw; go_simp; try (with_reducible rfl)
      try simp only [Act.put, List.setIfInBounds_toArray, List.set_cons_zero, List.set_cons_succ]
      refine take_at7 (i := 5) (d := some 60) (v := ?_) rfl rfl (by kernel_rfl) (by kernel_rfl) (by kernel_rfl) (fun _ _ _ h => h) (Or.inl ⟨by rfl, ?_⟩) (by assumption) ?_
      rotate_left
      · intro w hSw; go_simp; try (with_reducible rfl)
      try simp only [Act.put, List.setIfInBounds_toArray, List.set_cons_zero, List.set_cons_succ]
      refine take_at7 (i := 6) (d := some 61) (v := ?_) rfl rfl (by kernel_rfl) (by kernel_rfl) (by kernel_rfl) (fun _ _ _ h => h) (Or.inl ⟨by rfl, ?_⟩) (by assumption) ?_
      rotate_left
      · intro w hSw; go_simp; try (with_reducible rfl)
      try simp only [Act.put, List.setIfInBounds_toArray, List.set_cons_zero, List.set_cons_succ]
      refine take_at7 (i := 7) (d := some 62) (v := ?_) rfl rfl (by kernel_rfl) (by kernel_rfl) (by kernel_rfl) (fun _ _ _ h => h) (Or.inl ⟨by rfl, ?_⟩) (by assumption) ?_
      rotate_left
      · intro w hSw; go_simp; try (with_reducible rfl)
      try simp only [Act.put, List.setIfInBounds_toArray, List.set_cons_zero, List.set_cons_succ]
      refine take_at7 (i := 8) (d := some 63) (v := ?_) rfl rfl (by kernel_rfl) (by kernel_rfl) (by kernel_rfl) (fun _ _ _ h => h) (Or.inl ⟨by rfl, ?_⟩) (by assumption) ?_
      rotate_left
      · intro w hSw; go_simp; try (with_reducible rfl)
      try simp only [Act.put, List.setIfInBounds_toArray, List.set_cons_zero, List.set_cons_succ]
      refine take_at7 (i := 9) (d := some 64) (v := ?_) rfl rfl (by kernel_rfl) (by kernel_rfl) (by kernel_rfl) (fun _ _ _ h => h) (Or.inl ⟨by rfl, ?_⟩) (by assumption) ?_
      rotate_left
      · intro w hSw; go_simp; try (with_reducible rfl)
      try simp only [Act.put, List.setIfInBounds_toArray, List.set_cons_zero, List.set_cons_succ]
      refine take_at7 (i := 10) (d := some 65) (v := ?_) rfl rfl (by kernel_rfl) (by kernel_rfl) (by kernel_rfl) (fun _ _ _ h => h) (Or.inl ⟨by rfl, ?_⟩) (by assumption) ?_
      rotate_left
      · intro w hSw; go_simp; try (with_reducible rfl)
      try simp only [Act.put, List.setIfInBounds_toArray, List.set_cons_zero, List.set_cons_succ]
      refine wpAnyH_ready (rs := [11]) (by kernel_rfl) (by simp) ?_
      refine AllReadyH.cons rfl (fun K hK => ?_) AllReadyH.nil
      go_simp
      go_wp2_with (go_at_call 49; ((with_reducible refine (HCH.out w6.drew hFd).mono ?_); rintro e w7 ⟨r7, rfl, hF7, ho7⟩; have hFn := hFd.trans hF7; have e2 := HSS.out _ hFn; have hs7 := Sl.of_owns ho7; obtain ⟨a7, c7, rfl⟩ := hs7.form; have e3 := HC8.out w7 a7 c7 hs7; have HFN := Lib.hid (HF6.out.trans hFn); clear ho7 hF7))
      refine hK.out _ _ e2 (fun hHeld => ?_)
      clear hK K
      try simp only [Act.put, List.setIfInBounds_toArray, List.set_cons_zero, List.set_cons_succ]
      refine wpAnyH_ready (rs := [12]) (by kernel_rfl) (by simp) ?_
      refine AllReadyH.cons rfl (fun K hK => ?_) AllReadyH.nil
      go_simp
      refine hK.out _ _ e2 (fun hHeld => ?_)
      clear hK K
      try simp only [Act.put, List.setIfInBounds_toArray, List.set_cons_zero, List.set_cons_succ]
      refine take_at7 (i := 13) (d := some 68) (v := ?_) rfl rfl (by kernel_rfl) (by kernel_rfl) (by kernel_rfl) (fun _ _ _ h => h) (Or.inl ⟨by rfl, ?_⟩) (by assumption) ?_
      rotate_left
      · intro w hSw; go_simp; try (with_reducible rfl)
      try simp only [Act.put, List.setIfInBounds_toArray, List.set_cons_zero, List.set_cons_succ]
      refine take_at7 (i := 14) (d := some 69) (v := ?_) rfl rfl (by kernel_rfl) (by kernel_rfl) (by kernel_rfl) (fun _ _ _ h => h) (Or.inl ⟨by rfl, ?_⟩) (by assumption) ?_
      rotate_left
      · intro w hSw; go_simp; try (with_reducible rfl)
      try simp only [Act.put, List.setIfInBounds_toArray, List.set_cons_zero, List.set_cons_succ]
      refine take_at7 (i := 15) (d := some 10) (v := ?_) rfl rfl (by kernel_rfl) (by kernel_rfl) (by kernel_rfl) (fun _ _ _ h => h) (Or.inl ⟨by rfl, ?_⟩) (by assumption) ?_
      rotate_left
      · intro w hSw; go_simp; try (with_reducible rfl)
      try simp only [Act.put, List.setIfInBounds_toArray, List.set_cons_zero, List.set_cons_succ]
      refine wpAnyH_done (by kernel_rfl) ?_ _
      go_wp2
      go_ret
      exact ⟨rfl, HFN.out⟩
end Go.Proofs.YtpcikbloflpahaaDoor
