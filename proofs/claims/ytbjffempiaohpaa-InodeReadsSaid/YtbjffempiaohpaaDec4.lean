/-
  Bytes read as an inode: the reference's Decode, where there is one or a bad one.
-/
import Derived.Test.YtbjffempiaohpaaDec3
namespace Go.Proofs.Ytbjffempiaohpaa
set_option linter.unusedVariables false
set_option linter.unusedSimpArgs false
open Go.RowKit Go.Shelf

set_option maxHeartbeats 1000000 in
set_option maxRecDepth 1000000 in
theorem rdec_good (v : Value) (l : List Int) (w : World) (hl : l.length = 64) (h0 : ∀ b ∈ l, 0 ≤ b ∧ b < 256) (hv : Sl w v l.length (bys l)) (hz : l ≠ zs 64) (hb : decide (15 < l.getD 0 0) = false) :
    Calls Try.prog 11 #[v] w fun e w' => Fr No w w' ∧ ((decOk l = true ∧ ∃ r, e = .returned (.tuple #[.agg #[.string (nameOf l), .int .i64 (sizeOf' l), r], .bool true, .int .i64 0]) ∧ Sl w' r (extsF l 23 0).length (extCells (extsF l 23 0))) ∨ (decOk l = false ∧ e = zeroIno false 110)) := by
  obtain ⟨a, cap, rfl⟩ := hv.form
  have hF0 : Fr No w ((w.alloc (Obj.cells #[.string ⟨#[]⟩, .int .i64 0, .slice none 0 0] 26)).alloc (Obj.cells (bys (zs 64)).toArray 5)) := ((Fr.refl _ _).alloc _).alloc _
  rw [hl] at hv ⊢
  have HS' := Lib.hid (rsame_zero a cap l w false hl h0 hv (decide_eq_false hz))
  have hmk : ∀ w : World, (Instr.makeSlice 22 (.int .i64 64) (.int .i64 64)).run Try.prog w = .ok (.slice (some ⟨w.heap.size, 0, none⟩) 64 64) (w.alloc (.cells (bys (zs 64)).toArray 5)) := fun w => mk_bytes w 64 (by omega)
  have HB0 := heap_alloc (Obj.cells (bys (zs 64)).toArray 5) (heap_new w (Obj.cells #[.string ⟨#[]⟩, .int .i64 0, .slice none 0 0] 26))
  have hx : (0 : Nat) < l.length := by omega
  have hcap : 64 ≤ cap := hv.le
  obtain ⟨b, off, rfl, hbb, hc⟩ := hv.at (bys_ne _ _ hx)
  have c1 := hF0.cell (hc _ _ (bys_get _ _ hx)) (fun h => h)
  have hg : l.getD 0 0 = l[0] := by simp [List.getD, hx]
  rw [hg] at hb
  rw [Nat.add_zero] at c1
  have hr0 := h0 _ (List.getElem_mem hx)
  revert hb c1 hg hr0
  generalize l[0] = y
  intro hb c1 hg hr0
  obtain ⟨m, rfl⟩ : ∃ m : Nat, y = m := ⟨y.toNat, by omega⟩
  have hm : m ≤ 15 := by have := of_decide_eq_false hb; omega
  have h0' := h0
  have HV := Lib.hid hv
  have HB5 := Lib.hid HB0
  have HC := Lib.hid hc
  clear hr0 hz hv HB0 hc h0
  go_enter Try.func11, Try.ntmps11
  go_wp2_with (go_at_call 14; ((with_reducible refine HS'.out.mono ?_); rintro e w1 ⟨rfl, rfl⟩))
  clear hmk HS'
  generalize (w.alloc _).alloc _ = W5 at *
  have HVS := Lib.hid (fun w' (h : Fr No W5 w') => HV.out.fr0 (hF0.trans h))
  have hcv : ∀ w', Sl w' (.slice (some ⟨b, off, none⟩) 64 cap) 64 (bys l) → (convert 22 9 (.slice (some ⟨b, off + 1, none⟩) m (cap - 1))).run Try.prog w' = .ok (.string (nameOf l)) w' := fun w' h => by
    have hlen : ((l.drop 1).take m).length = m := by simp; omega
    have h1 : Sl w' (.slice (some ⟨b, off + 1, none⟩) ((l.drop 1).take m).length (cap - 1)) ((l.drop 1).take m).length (bys ((l.drop 1).take m)) := by
      have h3 := (h.drop (k := 1) (size := 1) (by omega) (by rw [bys_len]; omega))
      rw [if_neg (by omega)] at h3
      have h4 := h3.take (k := m) (by omega) 1
      rw [hlen]
      rw [show bys ((l.drop 1).take m) = ((bys l).drop (1 * 1)).take (m * 1) by simp [bys, List.map_take, List.map_drop]]
      simpa [Addr.add] using h4
    have h2 := conv_sl h1
    rw [hlen] at h2
    rw [h2, nameOf, hg, Int.toNat_natCast]
  have HN3 := Lib.hid (fun w1 (h : Fr No W5 w1) => (show Calls Try.prog 41 #[.slice (some ⟨b, off, none⟩) 64 cap, .int .i64 16, .int .i64 2] w1 fun e w' => e = .returned (.int .u64 (sizeOf' l)) ∧ w1 = w' from
    rnum_calls (.slice (some ⟨b, off, none⟩) 64 cap) l 16 2 w1 (by omega) (by omega) (by omega) h0' (by rw [hl]; exact HVS.out _ h)))
  have HSS := Lib.hid (fun w' (h : Fr No W5 w') => (⟨h, h.cell c1 (fun h => h), hcv w' (HVS.out _ h)⟩ : Fr No W5 w' ∧ w'.cell? ⟨b, off, none⟩ = some (.int .u8 m) ∧ (convert 22 9 (.slice (some ⟨b, off + 1, none⟩) m (cap - 1))).run Try.prog w' = .ok (.string (nameOf l)) w'))
  have hwm : IntKind.u8.wrap (1 + (m : Int)) = 1 + m := by rw [IntKind.wrap_u8]; omega
  have htm : (1 + (m : Int)).toNat = 1 + m := by omega
  have hm1 : 1 + m - 1 = m := by omega
  have hs1 : (1 : Int) ≤ 1 + (m : Int) := by omega
  have hs2 : (1 : Int) + (m : Int) ≤ cap := by omega
  have hs3 : (0 : Int) ≤ 1 + (m : Int) := by omega
  have hs4 : 1 + m ≤ cap := by omega
  have hs5 : ¬ cap = 1 := by omega
  have hnb := numL_sum l h0' 16 2 (by omega)
  have hnl := sumL_lt l h0' 16 2
  have hsw : IntKind.i64.wrap (sizeOf' l) = sizeOf' l := IntWalk.i64_in _ (by rw [sizeOf', hnb]; omega)
  have HSB := Lib.hid (show 0 ≤ sizeOf' l ∧ sizeOf' l < 65536 by rw [sizeOf', hnb]; omega)
  clear hnb hnl hcv
  have hFW := Fr.refl No W5
  go_cut [5] (fun s6 wx => ∃ b6 : Nat, s6 = .pointer (some ⟨b6, 0, none⟩) ∧ W5.heap.size ≤ b6 ∧ Fr No W5 wx ∧ wx.heap[b6]? = some (.cells #[.string (nameOf l), .int .i64 (sizeOf' l), .slice none 0 0] 26 (0, 0)))
  case first =>
    go_region_held3 (fun w' => Fr No W5 w' ∧ w'.cell? ⟨b, off, none⟩ = some (.int .u8 m) ∧ (convert 22 9 (.slice (some ⟨b, off + 1, none⟩) m (cap - 1))).run Try.prog w' = .ok (.string (nameOf l)) w')
      (first | exact HSS.out _ hFW | exact HSS.out _ hFW.drew | exact HSS.out _ (hFW.alloc _) | exact HSS.out _ (hFW.alloc _).drew | fail "keep")
      (first | (go_at_call 41; (first | (with_reducible refine (HN3.out _ hFW).mono ?_) | (with_reducible refine (HN3.out _ hFW.drew).mono ?_) | (with_reducible refine (HN3.out _ (hFW.alloc _).drew).mono ?_)); rintro e w5 ⟨rfl, rfl⟩))
    all_goals (go_wp2_with fail; go_meet; exact ⟨_, rfl, Nat.le_refl _, (hFW.alloc _).drew, heap_new W5 _⟩)
  case rest =>
  obtain ⟨b6, rfl, hb6, hFx, HB6⟩ := hcut
  clear hFW
  go_upto_block 0 with fail
  go_cut [6] (fun s6' wx => ∃ r : Value, wx.heap[b6]? = some (.cells #[.string (nameOf l), .int .i64 (sizeOf' l), r] 26 (0, 0)) ∧ wx.ownsRow W5.heap.size 73 2 r (extsF l 23 0).length (extCells (extsF l 23 0)) ∧ Fr No W5 wx)
  case first =>
    go_wp2_with fail
    go_loopw [6] (fun i wr => ∃ j k : Nat, k ≤ 23 ∧ j = 18 + 2 * k ∧ i = .int .i64 j ∧ ∃ (pre : List (Int × Int)) (r : Value), pre.length = k ∧ extsF l 23 0 = pre ++ extsF l (23 - k) k ∧ wr.heap[b6]? = some (.cells #[.string (nameOf l), .int .i64 (sizeOf' l), r] 26 (0, 0)) ∧ wr.ownsRow W5.heap.size 73 2 r pre.length (extCells pre) ∧ Fr No W5 wr)
      (fun i _ => 64 - (intOf i).toNat)
    case atStart => exact ⟨18, 0, by omega, rfl, rfl, [], _, rfl, rfl, HB6, World.ownsRow_nil _ _ _ _, hFx⟩
    case round =>
      obtain ⟨j, k, hk, hj, rfl, pre, r, hpl, hpre, hB, hrow, hF⟩ := hrel
      by_cases hk3 : k < 23
      · have i1 : j < l.length := by omega
        have i2 : j + 1 < l.length := by omega
        have q1 := hF.cell (hF0.cell (HC.out _ _ (bys_get _ _ i1)) (fun h => h)) (fun h => h)
        have q2 := hF.cell (hF0.cell (HC.out _ _ (bys_get _ _ i2)) (fun h => h)) (fun h => h)
        have z1 := h0' _ (List.getElem_mem i1)
        have z2 := h0' _ (List.getElem_mem i2)
        have hst : extsF l (23 - k) k = if l[j + 1] = 0 then [] else (l[j], l[j + 1]) :: extsF l (22 - k) (k + 1) := by
          rw [show 23 - k = (22 - k) + 1 by omega, extsF]
          simp [List.getD, i1, i2, ← hj]
        revert q1 q2 z1 z2 hst
        generalize l[j + 1] = x2
        generalize l[j] = x1
        intro q1 q2 z1 z2 hst
        have HJ := Lib.hid hj
        have hj1 : j < 63 := by omega
        have hj2 : 18 ≤ j := by omega
        clear hj i1 i2
        by_cases hx2 : x2 = 0
        · subst hx2
          rw [if_pos rfl] at hst
          have hpe : extsF l 23 0 = pre := by rw [hpre, hst, List.append_nil]
          clear hst hpre q1 z1 z2
          rw [← hpe] at hrow
          go_wp2_with fail
          go_meet
          exact ⟨r, hB, hrow, hF⟩
        · rw [if_neg hx2] at hst
          have hgt : 0 < x2 := by omega
          obtain ⟨z10, z11⟩ := z1
          obtain ⟨z20, z21⟩ := z2
          have HST := Lib.hid hst
          have HPRE := Lib.hid hpre
          have HPL := Lib.hid hpl
          have hpb : pre.length ≤ 22 := by omega
          clear hst hpre hx2 hpl
          have k2 := heap_cell (o := 2) hB rfl
          go_wp2
          have hw1 : IntKind.i64.wrap ((j : Int) + 1) = (j : Int) + 1 := IntWalk.i64_in _ (by omega)
          have hw2 : ((j : Int) + 1).toNat = j + 1 := by omega
          have hw3 : 0 ≤ (j : Int) + 1 := by omega
          have hw4 : (j : Int) + 1 < 64 := by omega
          have hw5 : IntKind.i64.wrap x1 = x1 := IntWalk.i64_in _ (by omega)
          have hw6 : IntKind.i64.wrap x2 = x2 := IntWalk.i64_in _ (by omega)
          obtain ⟨i0, hi0, hz0, hz1, hz2⟩ := info_parts el_ext.info
          have hwl := hF.size
          have hbl : b < wr.heap.size := by have := hF0.size; omega
          have hb6l := heap_lt hB
          go_region_law (refine step_append_lies _ (by rfl) _ _ _ (by rfl) W5.heap.size 73 i0 _ 2 16 el_ext.und hi0 hz0 hz1 hz2 rfl (by omega) r pre.length (extCells pre) (by rfl) (World.ownsRow.drew (hrow.alloc _)) ⟨wr.heap.size, 0, none⟩ 1 1 [.int .i64 x1, .int .i64 x2] (by rfl) (by rfl) (World.news_of_block (cs := #[.int .i64 x1, .int .i64 x2]) (t := 73) (fr := (0, 0)) (heap_alloc_new wr _)) (by simp [Value.oneCell']) (by omega) (by unfold maxLen; omega) (by omega) (by simp; omega) (wr.heap.size + 1) (by simp) ?_; intro gg cap' w3 hown' hgrow hat hlt; have hg3 := grownBy_alloc (grownBy_undrew hgrow); have h3 := (hg3.block b6 (heap_lt hB) (not_row hB (by decide) hrow)).trans hB; have k3 := heap_cell (o := 2) h3 rfl; have k4 := heap_frozen (o := 2) h3)
          all_goals (
            have hB9 : (w3.setCell ⟨b6, 2, none⟩ (.slice (some ⟨gg, 0, none⟩) (pre.length + 1) cap')).heap[b6]? = some (.cells #[.string (nameOf l), .int .i64 (sizeOf' l), .slice (some ⟨gg, 0, none⟩) (pre.length + 1) cap'] 26 (0, 0)) := by simp [World.setCell, Array.getElem?_modify, h3]
            have hgs : w3.grownBy (w3.setCell ⟨b6, 2, none⟩ (.slice (some ⟨gg, 0, none⟩) (pre.length + 1) cap')) (some b6) := ⟨rfl, rfl, rfl, by simp [World.setCell], fun i _ hn => Below.heap_setCell _ _ _ _ (fun e => hn (by rw [e]))⟩
            have hrow9 := hown'.kept hgs (.inr (not_row h3 (by decide) hown').symm)
            have hF9 := (hF.grown hg3 (fun k e hk => by have := (hrow.lt k e).1; omega)).setCell (p := ⟨b6, 2, none⟩) (fun hh => absurd hh (by simp; omega)) (.slice (some ⟨gg, 0, none⟩) (pre.length + 1) cap')
            clear hgs h3 hg3 k3 k4 hown' hgrow hat hlt hrow hB
            generalize World.setCell w3 _ _ = W9 at *
            go_wp2
            refine ⟨⟨j + 2, k + 1, by omega, by have := HJ.out; omega, by go_num, pre ++ [(x1, x2)], .slice (some ⟨gg, 0, none⟩) (pre.length + 1) cap', by simp [HPL.out], ?_, hB9, ?_, hF9⟩, by simp [intOf]; omega⟩
            · rw [HPRE.out, HST.out, show 22 - k = 23 - (k + 1) by omega]; simp
            · rw [extCells_snoc, List.length_append, List.length_singleton]; exact hrow9)
      · have hk4 : k = 23 := by omega
        subst hk4
        have hpe : extsF l 23 0 = pre := by rw [hpre]; simp [extsF]
        have hj64 : j = 64 := by omega
        subst hj64
        clear hpre
        rw [← hpe] at hrow
        go_wp2_with fail
        go_meet
        exact ⟨r, hB, hrow, hF⟩
  case rest =>
  obtain ⟨r, hB, hrow, hF⟩ := hcut
  have hr3 := Sl.of_owns hrow
  obtain ⟨a3, cap3, rfl⟩ := hr3.form
  have c0 := heap_cell (o := 0) hB rfl
  have c1 := heap_cell (o := 1) hB rfl
  have c2 := heap_cell (o := 2) hB rfl
  have hF0w : Fr No w wc := hF0.trans hF
  have hsz := HSB.out
  have CE := Lib.hid (rencode_calls (nameOf l) (sizeOf' l) (.slice a3 (extsF l 23 0).length cap3) (extsF l 23 0) wc (by rw [nameOf, strOfNums_size, hg]; simp; omega) (by omega) (by omega) (by have := extsF_length l 23 0; omega) hr3)
  have HB3 := Lib.hid (fun k (e : (Value.slice a3 (extsF l 23 0).length cap3).ownBlock = some k) => (hrow.lt k e).1)
  clear hsz hrow
  go_wp2_with fail
  refine CE.out.mono ?_
  rintro e w7 ⟨hF7, ⟨ho, r7, rfl, hr7⟩ | ⟨ho, rfl⟩⟩
  · have g2 := (inoOk_small ho).2.1
    have HQ := same01_calls (.slice (some ⟨b, off, none⟩) 64 cap) r7 l (encF (nameOf l) (sizeOf' l) (extsF l 23 0)) w7 h0' (encF_range _ _ _ g2) (by rw [hl]; exact HV.out.fr0 (hF0w.trans hF7)) (by rw [encF_length _ _ _ g2]; exact hr7)
    have HT := Lib.hid (hF7.heap hB (fun h => h))
    have HO := Lib.hid ((hF.trans hF7).heap HB5.out (fun h => h))
    have HS3 := Lib.hid (Sl.fr0 hr3 hF7)
    have hF07 := hF0w.trans hF7
    have d0 := heap_cell (o := 0) HT.out rfl
    have d1 := heap_cell (o := 1) HT.out rfl
    have d2 := heap_cell (o := 2) HT.out rfl
    have o0 := heap_cell (o := 0) HO.out rfl
    have o1 := heap_cell (o := 1) HO.out rfl
    have o2 := heap_cell (o := 2) HO.out rfl
    have p0 := heap_frozen (o := 0) HO.out
    have p1 := heap_frozen (o := 1) HO.out
    have p2 := heap_frozen (o := 2) HO.out
    clear hr7 hr3 c0 c1 c2 hB CE
    by_cases hq : encF (nameOf l) (sizeOf' l) (extsF l 23 0) = l
    · rw [decide_eq_true hq.symm] at HQ
      have HQ' := Lib.hid HQ
      have hok : decOk l = true := by rw [decOk, ho, decide_eq_true hq]; rfl
      clear HQ hq
      go_wp2_with (go_at_call 14; ((with_reducible refine HQ'.out.mono ?_); rintro e w8 ⟨rfl, rfl⟩))
      have q := heap_set3 (.string (nameOf l)) (.int .i64 (sizeOf' l)) (.slice a3 (extsF l 23 0).length cap3) HO.out
      have q0 := heap_cell (o := 0) q rfl
      have q1 := heap_cell (o := 1) q rfl
      have q2 := heap_cell (o := 2) q rfl
      refine bodyPost_ret (v := .tuple #[.agg #[.string (nameOf l), .int .i64 (sizeOf' l), .slice a3 (extsF l 23 0).length cap3], .bool true, .int .i64 0]) (by simp [results, Try.results11, go_sem, q0, q1, q2]) rfl ⟨hF07.set3 (Nat.le_refl _) _ _ _, .inl ⟨hok, _, rfl, HS3.out.fr (Fr.set3_at _ _ _ _ _) (fun k e _ hk => by have := HB3.out k e; have := heap_lt HB5.out; omega)⟩⟩
    · rw [decide_eq_false (fun e => hq e.symm)] at HQ
      have HQ' := Lib.hid HQ
      have hok : decOk l = false := by rw [decOk, ho, decide_eq_false hq]; rfl
      clear HQ hq
      go_wp2_with (go_at_call 14; ((with_reducible refine HQ'.out.mono ?_); rintro e w8 ⟨rfl, rfl⟩))
      have q := heap_set3 (.string ⟨#[]⟩) (.int .i64 0) (.slice none 0 0) HO.out
      have q0 := heap_cell (o := 0) q rfl
      have q1 := heap_cell (o := 1) q rfl
      have q2 := heap_cell (o := 2) q rfl
      refine bodyPost_ret (v := .tuple #[.agg #[.string ⟨#[]⟩, .int .i64 0, .slice none 0 0], .bool false, .int .i64 110]) (by simp [results, Try.results11, go_sem, q0, q1, q2]) rfl ⟨hF07.set3 (Nat.le_refl _) _ _ _, .inr ⟨hok, rfl⟩⟩
  · have hok : decOk l = false := by rw [decOk, ho]; rfl
    have HO := Lib.hid ((hF.trans hF7).heap HB5.out (fun h => h))
    have hF07 := hF0w.trans hF7
    have o0 := heap_cell (o := 0) HO.out rfl
    have o1 := heap_cell (o := 1) HO.out rfl
    have o2 := heap_cell (o := 2) HO.out rfl
    have p0 := heap_frozen (o := 0) HO.out
    have p1 := heap_frozen (o := 1) HO.out
    have p2 := heap_frozen (o := 2) HO.out
    clear hr3 c0 c1 c2 hB CE
    go_wp2
    have q := heap_set3 (.string ⟨#[]⟩) (.int .i64 0) (.slice none 0 0) HO.out
    have q0 := heap_cell (o := 0) q rfl
    have q1 := heap_cell (o := 1) q rfl
    have q2 := heap_cell (o := 2) q rfl
    refine bodyPost_ret (v := .tuple #[.agg #[.string ⟨#[]⟩, .int .i64 0, .slice none 0 0], .bool false, .int .i64 110]) (by simp [results, Try.results11, go_sem, q0, q1, q2]) rfl ⟨hF07.set3 (Nat.le_refl _) _ _ _, .inr ⟨hok, rfl⟩⟩

theorem rdecode_calls (v : Value) (l : List Int) (w : World) (hlen : l.length ≤ 1000) (h0 : ∀ b ∈ l, 0 ≤ b ∧ b < 256) (hv : Sl w v l.length (bys l)) :
    Calls Try.prog 11 #[v] w (DecPost w l) := by
  by_cases h1 : l.length = 64
  · by_cases h2 : l = zs 64
    · refine (rdec_zero v l w h1 h0 hv h2).mono ?_
      rintro e w' ⟨rfl, hF⟩
      exact ⟨hF, .inl ⟨by rw [decKind, if_neg (by omega), if_pos h2], rfl⟩⟩
    · by_cases h3 : 15 < l.getD 0 0
      · refine (rdec_bad v l w h1 h0 hv h2 h3).mono ?_
        rintro e w' ⟨rfl, hF⟩
        exact ⟨hF, .inr (.inr ⟨by rw [decKind, if_neg (by omega), if_neg h2, if_pos h3], rfl⟩)⟩
      · refine (rdec_good v l w h1 h0 hv h2 (decide_eq_false h3)).mono ?_
        rintro e w' ⟨hF, ⟨ho, r, rfl, hr⟩ | ⟨ho, rfl⟩⟩
        · exact ⟨hF, .inr (.inl ⟨by rw [decKind, if_neg (by omega), if_neg h2, if_neg h3, if_pos ho], r, rfl, hr⟩)⟩
        · exact ⟨hF, .inr (.inr ⟨by rw [decKind, if_neg (by omega), if_neg h2, if_neg h3, ho]; rfl, rfl⟩)⟩
  · refine (rdec_len v l w hlen hv h1).mono ?_
    rintro e w' ⟨rfl, hF⟩
    exact ⟨hF, .inr (.inr ⟨by rw [decKind, if_pos h1], rfl⟩)⟩
end Go.Proofs.Ytbjffempiaohpaa
