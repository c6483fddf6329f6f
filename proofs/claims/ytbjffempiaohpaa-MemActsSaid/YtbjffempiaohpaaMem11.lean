/-
  The memory of chapter 9: MemApart.
-/
import Derived.Test.YtbjffempiaohpaaMem10
namespace Go.Proofs.Ytbjffempiaohpaa
set_option linter.unusedVariables false
set_option linter.unusedSimpArgs false
open Go.RowKit Go.Shelf Go.Maps

/-- A byte of a slice of one's own, one more. -/
theorem inc_step {w : World} {B0 : Nat} {v : Value} {n : Nat} {l : List Int} {j : Nat} (h : w.ownsRow B0 5 1 v n (bys l)) (hr : ∀ b ∈ l, 0 ≤ b ∧ b < 256) (hj : j < n) :
    ∃ g cap x, v = .slice (some ⟨g, 0, none⟩) n cap ∧ B0 ≤ g ∧ w.cell? ⟨g, j, none⟩ = some (.int .u8 x) ∧ w.frozen? ⟨g, j, none⟩ = false ∧ 0 ≤ x ∧ x < 256 ∧
      (w.setCell ⟨g, j, none⟩ (.int .u8 (IntKind.u8.wrap (x + 1)))).ownsRow B0 5 1 v n (bys (l.set j (IntKind.u8.wrap (x + 1)))) ∧ ∀ b ∈ l.set j (IntKind.u8.wrap (x + 1)), 0 ≤ b ∧ b < 256 := by
  obtain ⟨g, cap, rfl, hg, -⟩ := World.ownsRow.form h (by omega)
  have hl : l.length = n := by have := h.1; rw [bys_len] at this; omega
  have hjl : j < l.length := by omega
  have hst := h.stored j (.int .u8 (IntKind.u8.wrap (l[j] + 1)))
  rw [bys_set] at hst
  have hx := hr _ (List.getElem_mem hjl)
  refine ⟨g, cap, l[j], rfl, hg, (h.cellAt j (by omega)).trans (bys_get _ _ hjl), h.frozenAt j, hx.1, hx.2, hst.1, fun b hb => ?_⟩
  rcases List.mem_or_eq_of_mem_set hb with h1 | h1
  · exact hr b h1
  · rw [h1, IntKind.wrap_u8]; omega

set_option maxHeartbeats 2000000 in
set_option maxRecDepth 1000000 in
theorem memApart_calls (v : Value) (l : List Int) (a : Int) (vx : Value) (xs : List Int) (w : World) (h0 : ∀ b ∈ l, 0 ≤ b ∧ b < 256) (hbig : l.length ≤ 9223372036854775807) (ha : -9223372036854775808 ≤ a ∧ a ≤ 9223372036854775807) (hv : Sl w v l.length (bys l))
    (hx0 : ∀ b ∈ xs, 0 ≤ b ∧ b < 256) (hxbig : xs.length ≤ 9223372036854775807) (hvx : Sl w vx xs.length (bys xs)) :
    Calls Try.prog 5 #[v, .int .i64 a, vx] w fun e w' => e = .returned (.bool true) ∧ Fr No w w' := by
  obtain ⟨av, cap, rfl⟩ := hv.form
  obtain ⟨ax, capx, rfl⟩ := hvx.form
  by_cases hlen : l.length ≤ 9000 ∧ xs.length ≤ 500
  · obtain ⟨hlen1, hlen2⟩ := hlen
    have HR0 := Lib.hid h0
    have HX0 := Lib.hid hx0
    have HV := Lib.hid hv
    have HVX := Lib.hid hvx
    have C2 := Lib.hid (fun w1 (h : Fr No w w1) => rflat_calls _ l w1 h0 (hv.fr0 h))
    have HFL := Lib.hid (flatF_length l)
    have HA := Lib.hid ha
    clear h0 hbig hv ha hx0 hxbig hvx
    go_enter Try.func5, Try.ntmps5
    go_wp2_with fail
    refine (awake9_calls _).mono ?_
    rintro e w1 ⟨rfl, hF1⟩
    have HF1 := Lib.hid hF1
    go_wp2_with (at_builtin; refine append_sl el_u8 rfl _ _ rfl w1.heap.size (.slice none 0 0) 0 [] rfl (World.ownsRow_nil _ _ _ _) rfl (HV.out.fr0 HF1.out) (by rw [bys_len, Nat.mul_one]) (bys_one l) (by unfold maxLen; omega) (by omega) (Nat.le_refl _) ?_; intro vo w2 hown2 hgrow2)
    rw [Nat.zero_add, List.nil_append] at hown2
    have hF2 : Fr No w1 w2 := (Fr.refl _ _).grown hgrow2 (fun k e _ => by cases e)
    have hF02 := hF1.trans hF2
    have HOWN2 := Lib.hid hown2
    have hsl2 := Sl.of_owns hown2
    have HFl := Lib.hid (flat_calls vo l w2 HR0.out hsl2)
    obtain ⟨ao, capo, rfl⟩ := hsl2.form
    clear hown2 hgrow2 hsl2
    go_wp2_with fail
    refine HFl.out.mono ?_
    rintro e w3 ⟨mb, A3, rfl, hM3, hF3, hA3⟩
    have hF03 := hF02.trans hF3
    have HM3 := Lib.hid hM3
    have HA3 := Lib.hid hA3
    clear hM3 hA3 HFl
    go_wp2_with fail
    refine (C2.out _ hF03).mono ?_
    rintro e w4 ⟨rb, R4, rfl, hR4, hF4, hR4l⟩
    have hF04 := hF03.trans hF4
    have hT4 : Two w4 mb A3 rb R4 (flatF l) (flatF l) (flatF l) := ⟨HM3.out.fr0 hF4, hR4, fun k hk hR => by have := HM3.out.low k hk; have := hR4l k hR; omega⟩
    have HN4 := Lib.hid (show ∀ k, (Value.slice ao l.length capo).ownBlock = some k → ¬ A3 k ∧ ¬ R4 k from fun k e => by
      have h1 := (HOWN2.out.lt k e).2
      exact ⟨fun h => by have := HA3.out k h; omega, fun h => by have := hR4l k h; have := hF3.size; omega⟩)
    have HO4 := Lib.hid (show w4.ownsRow w1.heap.size 5 1 (.slice ao l.length capo) l.length (bys l) from (hF3.trans hF4).ownsRow HOWN2.out (fun _ _ h => h))
    have HT4 := Lib.hid hT4
    have hs1 : w.heap.size ≤ w1.heap.size := hF1.size
    have HRl := Lib.hid (show ∀ j, R4 j → w.heap.size ≤ j from fun j hj => Nat.le_trans hF03.size (hR4l j hj))
    have HAl := Lib.hid (show ∀ j, A3 j → w.heap.size ≤ j from fun j hj => Nat.le_trans hF02.size (HA3.out j hj))
    clear hT4 hR4 hR4l HM3 HOWN2 HA3 C2
    generalize flatF l = F at *
    go_upto_block 0 with fail
    go_cut [] (fun wx => (∃ l', wx.ownsRow w1.heap.size 5 1 (.slice ao l.length capo) l.length (bys l') ∧ (∀ b ∈ l', 0 ≤ b ∧ b < 256)) ∧ Two wx mb A3 rb R4 F F F ∧ Fr No w wx)
    case first =>
      go_wp2_with fail
      go_loopw [35] (fun i wr => ∃ j : Nat, j ≤ l.length ∧ i = .int .i64 j ∧ (∃ l', wr.ownsRow w1.heap.size 5 1 (.slice ao l.length capo) l.length (bys l') ∧ (∀ b ∈ l', 0 ≤ b ∧ b < 256)) ∧ Two wr mb A3 rb R4 F F F ∧ Fr No w wr) (fun i _ => l.length - (intOf i).toNat)
      case atStart => exact ⟨0, Nat.zero_le _, rfl, ⟨_, HO4.out, HR0.out⟩, HT4.out, hF04⟩
      case round =>
        obtain ⟨j, hj, rfl, ⟨l', hrow, hrg⟩, hT, hF⟩ := hrel
        by_cases hlt : j < l.length
        · obtain ⟨g, capg, x, e, hg, c1, f1, hx1, hx2, hst, hst2⟩ := inc_step hrow hrg hlt
          injection e with e e2 e3; subst e; subst e3
          have HST := Lib.hid hst
          have HST2 := Lib.hid hst2
          have HTT := Lib.hid hT
          have HFF := Lib.hid hF
          clear hst hst2 hrow hrg hT hF
          go_wp2
          go_roundw
          case rel =>
            have hFs : Fr (fun k => k = g) wr (wr.setCell ⟨g, j, none⟩ (.int .u8 (IntKind.u8.wrap (x + 1)))) := (Fr.refl (fun k => k = g) wr).setCell (p := ⟨g, j, none⟩) (fun _ => rfl) _
            exact ⟨j + 1, by omega, by go_num, ⟨_, HST.out, HST2.out⟩, HTT.out.fr hFs (fun k e => by subst e; exact (HN4.out k rfl).1) (fun k e => by subst e; exact (HN4.out k rfl).2), HFF.out.trans' hFs (fun i hi e => by omega)⟩
          case measure => simp [intOf]; omega
        · have HRW := Lib.hid hrow
          have HRG := Lib.hid hrg
          have HTT := Lib.hid hT
          have HFF := Lib.hid hF
          clear hrow hrg hT hF
          go_wp2_with fail
          go_meet
          exact ⟨⟨l', HRW.out, HRG.out⟩, HTT.out, HFF.out⟩
    case rest =>
    obtain ⟨-, hT5, hF05⟩ := hcut
    have HT5 := Lib.hid hT5
    have HF5 := Lib.hid hF05
    clear hT5 HT4 HO4 HN4
    go_wp2_with (at_builtin; refine append_sl el_u8 rfl _ _ rfl wc.heap.size (.slice none 0 0) 0 [] rfl (World.ownsRow_nil _ _ _ _) rfl (HVX.out.fr0 HF5.out) (by rw [bys_len, Nat.mul_one]) (bys_one xs) (by unfold maxLen; omega) (by omega) (Nat.le_refl _) ?_; intro vi w6 hown6 hgrow6)
    rw [Nat.zero_add, List.nil_append] at hown6
    have hF6 : Fr No wc w6 := (Fr.refl _ _).grown hgrow6 (fun k e _ => by cases e)
    have hF06 := hF05.trans hF6
    have hT6 := HT5.out.fr0 hF6
    have hN6 : ∀ k, vi.ownBlock = some k → ¬ A3 k ∧ ¬ R4 k := fun k e => by
      have h1 := (hown6.lt k e).1
      exact ⟨fun h => by have := HT5.out.1.low k h; omega, fun h => by have := HT5.out.2.1.low k h; omega⟩
    have hsl6 := Sl.of_owns hown6
    have HL := Lib.hid (lay_calls hT6.1 a vi xs hsl6 (fun k e _ => (hN6 k e).1) HX0.out (by omega) HA.out)
    obtain ⟨ai, capi, rfl⟩ := hsl6.form
    have HO6 := Lib.hid hown6
    have HT6 := Lib.hid hT6
    have HN6 := Lib.hid hN6
    have hs5 : w.heap.size ≤ wc.heap.size := hF05.size
    clear hown6 hgrow6 hsl6 hT6 hN6 HT5
    go_wp2_with fail
    refine HL.out.mono ?_
    rintro e w7 ⟨A7, rfl, hp7⟩
    obtain ⟨hF07, hA7⟩ := hp7.step hF06 HAl.out
    have hT7 := HT6.out.mem hp7
    have HO7 := Lib.hid (hp7.2.1.ownsRow HO6.out (fun k e h => (HN6.out k e).1 h))
    have HN7 := Lib.hid (show ∀ k, (Value.slice ai xs.length capi).ownBlock = some k → ¬ A7 k ∧ ¬ R4 k from fun k e => ⟨fun h => by
      rcases hp7.2.2 k h with h1 | h1
      · exact (HN6.out k e).1 h1
      · have := (HO6.out.lt k e).2; omega, (HN6.out k e).2⟩)
    have HLR := Lib.hid (rlay_calls hT7.2.1 a (.slice ax xs.length capx) xs (HVX.out.fr0 hF07) (fun k e hne h => by
      have h1 := HRl.out k h
      have h2 := HVX.out.lt e (fun e2 => hne (by simpa [bys] using e2))
      omega) HX0.out (by omega) HA.out)
    have HT7 := Lib.hid hT7
    have HA7 := Lib.hid hA7
    clear hp7 hT7 hA7 HO6 HN6 HT6 HL
    go_wp2_with fail
    refine HLR.out.mono ?_
    rintro e w8 ⟨rfl, hp8⟩
    obtain ⟨hF08, -⟩ := hp8.step hF07 HRl.out
    have HT8 := Lib.hid (HT7.out.ref hp8)
    have HO8 := Lib.hid (hp8.2.1.ownsRow HO7.out (fun k e h => (HN7.out k e).2 h))
    clear hp8 HT7 HO7 HLR
    generalize layF F a xs = B at *
    go_upto_block 2 with fail
    go_cut [] (fun wx => (∃ l', wx.ownsRow wc.heap.size 5 1 (.slice ai xs.length capi) xs.length (bys l') ∧ (∀ b ∈ l', 0 ≤ b ∧ b < 256)) ∧ Two wx mb A7 rb R4 F B B ∧ Fr No w wx)
    case first =>
      go_wp2_with fail
      go_loopw [57] (fun i wr => ∃ j : Nat, j ≤ xs.length ∧ i = .int .i64 j ∧ (∃ l', wr.ownsRow wc.heap.size 5 1 (.slice ai xs.length capi) xs.length (bys l') ∧ (∀ b ∈ l', 0 ≤ b ∧ b < 256)) ∧ Two wr mb A7 rb R4 F B B ∧ Fr No w wr) (fun i _ => xs.length - (intOf i).toNat)
      case atStart => exact ⟨0, Nat.zero_le _, rfl, ⟨_, HO8.out, HX0.out⟩, HT8.out, hF08⟩
      case round =>
        obtain ⟨j, hj, rfl, ⟨l', hrow, hrg⟩, hT, hF⟩ := hrel
        by_cases hlt : j < xs.length
        · obtain ⟨g, capg, x, e, hg, c1, f1, hx1, hx2, hst, hst2⟩ := inc_step hrow hrg hlt
          injection e with e e2 e3; subst e; subst e3
          have HST := Lib.hid hst
          have HST2 := Lib.hid hst2
          have HTT := Lib.hid hT
          have HFF := Lib.hid hF
          clear hst hst2 hrow hrg hT hF
          go_wp2
          go_roundw
          case rel =>
            have hFs : Fr (fun k => k = g) wr (wr.setCell ⟨g, j, none⟩ (.int .u8 (IntKind.u8.wrap (x + 1)))) := (Fr.refl (fun k => k = g) wr).setCell (p := ⟨g, j, none⟩) (fun _ => rfl) _
            exact ⟨j + 1, by omega, by go_num, ⟨_, HST.out, HST2.out⟩, HTT.out.fr hFs (fun k e => by subst e; exact (HN7.out k rfl).1) (fun k e => by subst e; exact (HN7.out k rfl).2), HFF.out.trans' hFs (fun i hi e => by omega)⟩
          case measure => simp [intOf]; omega
        · have HRW := Lib.hid hrow
          have HRG := Lib.hid hrg
          have HTT := Lib.hid hT
          have HFF := Lib.hid hF
          clear hrow hrg hT hF
          go_wp2_with fail
          go_meet
          exact ⟨⟨l', HRW.out, HRG.out⟩, HTT.out, HFF.out⟩
    case rest =>
    obtain ⟨-, hT9, hF09⟩ := hcut
    have HT9 := Lib.hid hT9
    have HLD := Lib.hid (load_calls hT9.1 a (xs.length : Int) xs.length (by omega) HA.out)
    have hblen := hT9.1.brange
    have HBR := Lib.hid hblen
    clear hT9 HT8 HO8 HN7 hblen
    go_wp2_with fail
    refine HLD.out.mono ?_
    rintro e w10 ⟨b10, A10, rfl, hp10, hr10, hn10, hl10⟩
    obtain ⟨hF010, hA10⟩ := hp10.step hF09 HA7.out
    have HT10 := Lib.hid (HT9.out.mem hp10)
    have HO10 := Lib.hid (hr10.owns xs.length (loadF_length _ _ _) (by unfold maxLen; omega))
    have HN10 := Lib.hid (show ∀ k, (Value.slice (some ⟨b10, 0, none⟩) xs.length xs.length).ownBlock = some k → ¬ A10 k ∧ ¬ R4 k from fun k e => by
      have e2 : k = b10 := by simp [Value.ownBlock] at e; exact e.symm
      subst e2
      exact ⟨hn10, fun h => by have := HT9.out.2.1.low _ h; omega⟩)
    have HA10 := Lib.hid hA10
    have HRG10 := Lib.hid (loadF_range B HBR.out a xs.length)
    have hb10 : w.heap.size ≤ b10 := Nat.le_trans hF09.size hl10
    clear hp10 hr10 hn10 hl10 hA10 HT9 HLD
    go_upto_block 4 with fail
    go_cut [] (fun wx => (∃ l', wx.ownsRow 0 5 1 (.slice (some ⟨b10, 0, none⟩) xs.length xs.length) xs.length (bys l') ∧ (∀ b ∈ l', 0 ≤ b ∧ b < 256)) ∧ Two wx mb A10 rb R4 F B B ∧ Fr No w wx)
    case first =>
      go_wp2_with fail
      go_loopw [74] (fun i wr => ∃ j : Nat, j ≤ xs.length ∧ i = .int .i64 j ∧ (∃ l', wr.ownsRow 0 5 1 (.slice (some ⟨b10, 0, none⟩) xs.length xs.length) xs.length (bys l') ∧ (∀ b ∈ l', 0 ≤ b ∧ b < 256)) ∧ Two wr mb A10 rb R4 F B B ∧ Fr No w wr) (fun i _ => xs.length - (intOf i).toNat)
      case atStart => exact ⟨0, Nat.zero_le _, rfl, ⟨_, HO10.out, HRG10.out⟩, HT10.out, hF010⟩
      case round =>
        obtain ⟨j, hj, rfl, ⟨l', hrow, hrg⟩, hT, hF⟩ := hrel
        by_cases hlt : j < xs.length
        · obtain ⟨g, capg, x, e, hg, c1, f1, hx1, hx2, hst, hst2⟩ := inc_step hrow hrg hlt
          injection e with e e2 e3; injection e with e; injection e with e; subst e
          have HST := Lib.hid hst
          have HST2 := Lib.hid hst2
          have HTT := Lib.hid hT
          have HFF := Lib.hid hF
          clear hst hst2 hrow hrg hT hF
          go_wp2
          go_roundw
          case rel =>
            have hFs : Fr (fun k => k = b10) wr (wr.setCell ⟨b10, j, none⟩ (.int .u8 (IntKind.u8.wrap (x + 1)))) := (Fr.refl (fun k => k = b10) wr).setCell (p := ⟨b10, j, none⟩) (fun _ => rfl) _
            exact ⟨j + 1, by omega, by go_num, ⟨_, HST.out, HST2.out⟩, HTT.out.fr hFs (fun k e => by subst e; exact (HN10.out k rfl).1) (fun k e => by subst e; exact (HN10.out k rfl).2), HFF.out.trans' hFs (fun i hi e => by omega)⟩
          case measure => simp [intOf]; omega
        · have HRW := Lib.hid hrow
          have HRG := Lib.hid hrg
          have HTT := Lib.hid hT
          have HFF := Lib.hid hF
          clear hrow hrg hT hF
          go_wp2_with fail
          go_meet
          exact ⟨⟨l', HRW.out, HRG.out⟩, HTT.out, HFF.out⟩
    case rest =>
    obtain ⟨-, hT5, hF05⟩ := hcut
    obtain ⟨g, capg, gw, hI⟩ := hT5.2.1.inn
    have hbl := hT5.1.blen
    have HSS := Lib.hid (fun w' (h : Fr A10 wc w') => ref_conv (hI.fr h hT5.2.2))
    have hF0 := Fr.refl A10 wc
    have hFd := (Fr.refl A10 wc).drew
    have HBY := Lib.hid (fun (w' : World) (h : Fr No wc w') => bytes_calls (hT5.1.fr0 h))
    have HCV := Lib.hid (fun (w' : World) (b : Nat) (h : Row w' b 5 B) => row_conv h hbl)
    clear hT5 hI hbl HT10 HO10 HN10 HRG10
    generalize strOfNums B = s at *
    go_upto_region 28 with fail
    obtain ⟨e0, e1⟩ := HSS.out _ hFd
    go_region_with (first | (go_at_call 21; ((with_reducible refine (HBY.out wc.drew (Fr.refl _ _).drew).mono ?_); rintro e w7 ⟨b7, A7, rfl, hp7, hr7, -, -⟩; have hFn := hFd.trans hp7.2.1; have hcv := HCV.out w7 b7 hr7; obtain ⟨e2, e3⟩ := HSS.out _ hFn; clear hr7 hp7)) | fail "arm")
    all_goals (
      go_wp2
      go_ret
      exact ⟨rfl, hF05.trans' hFn (fun i hi h => by have := HA10.out i h; omega)⟩)
  · have HX := Lib.hid hlen
    clear h0 hv hx0 hvx ha hlen
    go_enter Try.func5, Try.ntmps5
    go_wp2_with fail
    refine (awake9_calls _).mono ?_
    rintro e w1 ⟨rfl, hF1⟩
    go_upto_if 24 with fail
    all_goals first
      | (exfalso; have := HX.out; omega)
      | (go_wp2
         all_goals first
           | (exfalso; have := HX.out; omega)
           | (go_ret; exact ⟨rfl, hF1⟩))
end Go.Proofs.Ytbjffempiaohpaa
