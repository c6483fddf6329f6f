/-
  Chapter 12: FsApart.
-/
import Derived.Test.YtoajnmbbgbpbgaaZFs36
import Derived.Test.YtoajnmbbgbpbgaaZFs37
namespace Go.Proofs.Ytoajnmbbgbpbgaa
set_option linter.unusedVariables false
set_option linter.unusedSimpArgs false
open Go.RowKit Go.Shelf Go.Maps

theorem sl_act (w : World) (y : ActF) (t : TypeId) : Sl (w.alloc (.cells (actFCell y).toArray t)) (.slice (some ⟨w.heap.size, 0, none⟩) 1 1) 1 ([y].flatMap actFCell) := by
  refine ⟨_, _, rfl, ⟨by simp, Nat.le_refl _⟩, fun _ => ⟨_, _, rfl⟩, ?_⟩
  rintro b off j u ⟨rfl, rfl⟩ hj
  rw [Nat.zero_add]
  exact heap_cell (heap_new _ _) (by simpa using hj)
theorem filesR_none {B : List Int} (h : tableF B = none) : filesR B = ([], 120) := by
  unfold filesR; generalize tableF B = t at *; subst h; rfl
/-- A file's cells in a list of files. -/
theorem FmV.names {w wr : World} {mb : Nat} {F B : List Int} {fv : Value} {fs : Files} {vs : List (ByteArray × Value)} {A : Nat → Prop} (h : FmV w mb F fv wr fs vs A B) (i : Nat) (hi : i < fs.length) :
    ∃ g c a cc, fv = .slice (some ⟨g, 0, none⟩) fs.length c ∧ wr.cell? ⟨g, i * 2, none⟩ = some (.string fs[i].1) ∧ wr.cell? ⟨g, i * 2 + 1, none⟩ = some (.slice a fs[i].2.length cc) ∧ Sl wr (.slice a fs[i].2.length cc) fs[i].2.length (bys fs[i].2) := by
  obtain ⟨g, c, rfl⟩ := h.slice (by omega)
  obtain ⟨a, cc, h1, -, h2, -⟩ := h.cells i hi
  obtain ⟨hiv, -, -, e1, -⟩ := h.files.at i hi
  refine ⟨g, c, a, cc, rfl, ?_, h1, Sl.of_owns h2⟩
  rw [Nat.mul_comm, h.row.cellAt _ (by omega), fileCells_get vs i hiv, e1]

set_option maxHeartbeats 4000000 in
set_option maxRecDepth 1000000 in
theorem fsApart_calls (v : Value) (l : List Int) (nd at_ : Int) (vd : Value) (ds : List Int) (sz : Int) (w : World) (h0 : ∀ b ∈ l, 0 ≤ b ∧ b < 256) (hv : Sl w v l.length (bys l)) (hat : -9223372036854775808 ≤ at_ ∧ at_ ≤ 9223372036854775807)
    (hd0 : ∀ b ∈ ds, 0 ≤ b ∧ b < 256) (hvd : Sl w vd ds.length (bys ds)) (hdb : ds.length ≤ 140737488351232) :
    Calls Try.prog 5 #[v, .int .i64 nd, .int .i64 at_, vd, .int .i64 sz] w fun e w' => e = .returned (.bool true) ∧ Fr No w w' := by
  obtain ⟨av, cap, rfl⟩ := hv.form
  obtain ⟨ad, cd, rfl⟩ := hvd.form
  have HFl := Lib.hid (fun w1 (h : Fr No w w1) => flat_calls (.slice av l.length cap) l w1 h0 (hv.fr0 h))
  have C3 := Lib.hid (fun w1 (h : Fr No w w1) => few12_calls (.slice av l.length cap) _ l [((0 : Int), (⟨#[]⟩ : ByteArray), (⟨#[]⟩ : ByteArray), (0 : Int), (0 : Int), (0 : Int), ad, ds.length, cd)] (w1.alloc (.cells (actFCell ((0 : Int), (⟨#[]⟩ : ByteArray), (⟨#[]⟩ : ByteArray), (0 : Int), (0 : Int), (0 : Int), ad, ds.length, cd)).toArray 41)) (by simp) (hv.fr0 (h.alloc _)) (sl_act w1 _ _))
  have HFF := Lib.hid (flatF_length l)
  have HVD := Lib.hid hvd
  have HD0 := Lib.hid hd0
  have HAT := Lib.hid hat
  clear h0 hv hvd hd0 hat
  generalize flatF l = F at *
  go_enter Try.func5, Try.ntmps5
  go_wp2_with fail
  refine (awake12_calls _).mono ?_
  rintro e w1 ⟨rfl, hF1⟩
  go_wp2_with fail
  refine (C3.out _ hF1).mono ?_
  rintro e wf ⟨bf, rfl, hFf⟩
  have hF01 := (hF1.alloc _).trans hFf
  cases bf
  · go_wp2
    go_ret
    exact ⟨rfl, hF01⟩
  clear C3 hF1 hFf
  go_wp2_with fail
  refine (HFl.out _ hF01).mono ?_
  rintro e w2 ⟨mb, A2, rfl, hM2, hF2, hA2⟩
  have hF02 := hF01.trans hF2
  have HA2 := Lib.hid (fun j (hj : A2 j) => Nat.le_trans hF01.size (hA2 j hj))
  have HM2 := Lib.hid hM2
  clear hM2 hA2 hF2 hF01 HFl
  cases ht : tableF F with
  | none =>
    have HFI := Lib.hid (by have := ffiles_calls HM2.out; rw [filesR_none ht] at this; exact this)
    clear ht
    go_wp2_with fail
    refine HFI.out.mono ?_
    rintro e w3 ⟨A3, r, vs, rfl, hp3, -, -, -⟩
    obtain ⟨hF03, -⟩ := hp3.step hF02 HA2.out
    clear hp3
    go_wp2
    go_ret
    exact ⟨rfl, hF03⟩
  | some p =>
    obtain ⟨L, u⟩ := p
    have htab := (tableF_iff _ _ _).1 ht
    obtain ⟨fs2, q1, q2, q3, q4⟩ := apart_pure HFF.out htab nd at_ sz ds
    have HFI := Lib.hid (by have := ffiles_calls HM2.out; rw [filesR_tab' htab] at this; exact this)
    have HNS : RowKit.Hid (∀ i (hi : i < (filesL F L).length), (filesL F L)[i].1.size ≤ 140737488355328) := Lib.hid (fun i hi => by
      obtain ⟨k, hk, hn, e⟩ := mem_filesL.1 (List.getElem_mem hi)
      have e1 : (filesL F L)[i].1 = L[k].name := by rw [e]; rfl
      have := (htab.good _ (List.getElem_mem hk)).facts.2.2.2.2.2
      rw [e1]; omega)
    have HL8 := Lib.hid (show (filesL F L).length ≤ 8 by
      rw [filesL, List.length_map, ← htab.len]; exact List.length_filter_le _ _)
    have Q1 := Lib.hid q1
    have Q2 := Lib.hid q2
    have Q3 := Lib.hid q3
    have Q4 := Lib.hid q4
    clear ht htab q1 q2 q3 q4
    generalize filesL F L = gs at *
    go_wp2_with fail
    refine HFI.out.mono ?_
    rintro e w3 ⟨A3, r, vs, rfl, hp3, hr3, ho3, hv3⟩
    obtain ⟨hF03, hA3⟩ := hp3.step hF02 HA2.out
    have HS := Lib.hid (⟨hp3.1, hF03, hA3, ownsRow_base hr3 hF02.size, ho3, hv3⟩ : FmV w mb F r w3 gs vs A3 F)
    clear hp3 hr3 ho3 hv3 hF03 hA3 hF02 HFI HA2 HM2
    obtain ⟨ar, cr, rfl⟩ := HS.out.sl.form
    have h8 := HL8.out
    go_wp2_with fail
    go_loopw [14, 44] (fun nmv i wr => ∃ (j : Nat) (nm : ByteArray) (A : Nat → Prop), j ≤ gs.length ∧ i = .int .i64 j ∧ nmv = .string nm ∧ FmV w mb F (.slice ar gs.length cr) wr gs vs A F ∧ ∀ k (hk : k < gs.length), k < j → findI L gs[k].1 = nd → nm = gs[k].1) (fun _ i _ => gs.length - (intOf i).toNat)
    case atStart => exact ⟨0, ⟨#[]⟩, A3, Nat.zero_le _, rfl, rfl, HS.out, fun k _ h => absurd h (Nat.not_lt_zero k)⟩
    case round =>
      obtain ⟨j, nm, A, hj, rfl, rfl, hM, hI⟩ := hrel
      by_cases hlt : j < gs.length
      · obtain ⟨g, c, a2, c2, e0, x1, x2, -⟩ := hM.names j hlt
        cases e0
        obtain ⟨m1, k0, hk0, m2, m3⟩ := Q4.out j hlt
        have hns := HNS.out j hlt
        obtain ⟨nj, hnj⟩ : ∃ nj, gs[j].1 = nj := ⟨_, rfl⟩
        obtain ⟨mj, hmj⟩ : ∃ mj, gs[j].2.length = mj := ⟨_, rfl⟩
        obtain ⟨q, hq⟩ : ∃ q, findI L gs[j].1 = q := ⟨_, rfl⟩
        have x1' : wr.cell? ⟨g, j * 2, none⟩ = some (.string nj) := x1.trans (by rw [← hnj])
        have x2' : wr.cell? ⟨g, j * 2 + 1, none⟩ = some (.slice a2 mj c2) := x2.trans (by rw [← hmj])
        have m1' : findR F nj = (q, 0) := by subst hnj; subst hq; exact m1
        have hns' : nj.size ≤ 140737488355328 := by subst hnj; exact hns
        have hFa : Fr No wr (wr.alloc (Obj.cells #[.string nj, .slice a2 mj c2] 45)) := (Fr.refl _ _).alloc _
        have hb0 := heap_new wr (Obj.cells #[.string nj, .slice a2 mj c2] 45)
        have HFI := Lib.hid (by
          have := ffind_calls (hM.fr0 hFa).mem nj hns'
          rw [m1'] at this; exact this)
        have HM := Lib.hid (hM.fr0 hFa)
        have HB0 := Lib.hid hb0
        have HNJ := Lib.hid hnj
        have HQ := Lib.hid hq
        have HI := Lib.hid hI
        have HX0 : RowKit.Hid (¬ A wr.heap.size) := Lib.hid (fun h => Nat.lt_irrefl _ (hM.mem.low _ h))
        clear x1 x2 m1 m2 m3 hns hns' m1' hnj hmj hq hI hM hFa hb0 hk0
        go_wp2_with fail
        refine HFI.out.mono ?_
        rintro e w4 ⟨A4, rfl, hp4⟩
        have HM4 := Lib.hid (HM.out.mp hp4)
        have z1 : w4.cell? ⟨wr.heap.size, 0, none⟩ = some (.string nj) := heap_cell (hp4.2.1.heap HB0.out (fun h => HX0.out h)) rfl
        clear hp4
        by_cases hqn : q = nd
        · have qe : (q == nd) = true := by simp [hqn]
          have HQN := Lib.hid hqn
          clear hqn
          go_wp2
          go_roundw
          case rel =>
            refine ⟨j + 1, nj, A4, by omega, by go_num, rfl, HM4.out, fun k hk hkj hf => ?_⟩
            obtain ⟨-, k1, hk1, e1, e2⟩ := Q4.out k hk
            obtain ⟨-, k2, hk2, e3, e4⟩ := Q4.out j hlt
            have e5 : k1 = k2 := by
              have h1 := e1.symm.trans hf
              have h2 := e3.symm.trans (HQ.out.trans HQN.out)
              omega
            subst e5
            exact HNJ.out.symm.trans (e4.symm.trans e2)
          case measure => simp [intOf]; omega
        · have qe : (q == nd) = false := by simp [hqn]
          have HQN := Lib.hid hqn
          clear hqn
          go_wp2
          go_roundw
          case rel =>
            refine ⟨j + 1, nm, A4, by omega, by go_num, rfl, HM4.out, fun k hk hkj hf => ?_⟩
            by_cases e : k = j
            · subst e; exact absurd (HQ.out.symm.trans hf) HQN.out
            · exact HI.out k hk (by omega) hf
          case measure => simp [intOf]; omega
      · obtain rfl : j = gs.length := by omega
        have HI := Lib.hid hI
        have HM := Lib.hid hM
        clear hI hM hlt hj
        have hvd := HVD.out.fr0 HM.out.fr
        have HWR := Lib.hid (fwrite_calls HM.out.mem nd at_ (.slice ad ds.length cd) ds HAT.out hvd (fun k e hne hA => by
          have h1 := HVD.out.lt e (fun e2 => hne (by simpa [bys] using e2))
          have := HM.out.low k hA; omega) HD0.out (by omega))
        clear hvd
        generalize writeR F nd at_ ds = q1 at *
        obtain ⟨B1, e1⟩ := q1
        go_wp2_with fail
        refine HWR.out.mono ?_
        rintro e w4 ⟨A4, rfl, hp4⟩
        have HM4 := Lib.hid (HM.out.mp hp4)
        clear hp4
        have HRS := Lib.hid (fresize_calls HM4.out.mem nd sz)
        try dsimp only at HRS
        try dsimp only at Q1
        generalize resizeR B1 nd sz = q2 at *
        obtain ⟨B2, e2⟩ := q2
        go_wp2_with fail
        refine HRS.out.mono ?_
        rintro e w5 ⟨A5, rfl, hp5⟩
        have HM5 := Lib.hid (HM4.out.mp hp5)
        clear hp5
        have HF2 := Lib.hid (by
          have := ffiles_calls HM5.out.mem
          try dsimp only at this
          rw [Q1.out] at this; exact this)
        go_wp2_with fail
        refine HF2.out.mono ?_
        rintro e w6 ⟨A6, r2, vs2, rfl, hp6, hr6, ho6, hv6⟩
        have HM6 := Lib.hid (HM5.out.mp hp6)
        have HN6 := Lib.hid (⟨HM6.out.mem, HM6.out.fr, HM6.out.low, ownsRow_base hr6 HM5.out.fr.size, ho6, hv6⟩ : FmV w mb F r2 w6 fs2 vs2 A6 B2)
        clear hp6 hr6 ho6 hv6
        obtain ⟨ar2, cr2, rfl⟩ := HN6.out.sl.form
        have hl2 := Q2.out
        obtain ⟨m2, hm2⟩ : ∃ m2, fs2.length = m2 := ⟨_, rfl⟩
        rw [hm2] at hl2
        subst hl2
        have HN0 := Lib.hid HN6.out
        have HLL := Lib.hid hm2
        rw [hm2] at HN6 ⊢
        clear hm2 HN6
        go_wp2_with fail
        go_loopw [86] (fun i wr => ∃ j : Nat, j ≤ gs.length ∧ i = .int .i64 j ∧ Fr No w6 wr) (fun i _ => gs.length - (intOf i).toNat)
        case atStart => exact ⟨0, Nat.zero_le _, rfl, Fr.refl _ _⟩
        case round =>
          obtain ⟨j, hj, rfl, hF⟩ := hrel
          by_cases hlt : j < gs.length
          · have hlt2 : j < fs2.length := by have := HLL.out; omega
            obtain ⟨g1, c1, a1, d1, e1, x1, x2, x3⟩ := (HM6.out.fr0 hF).names j hlt
            cases e1
            obtain ⟨g2, c2, a2, d2, e2, y1, y2, y3⟩ := (HN0.out.fr0 hF).names j hlt2
            cases e2
            obtain ⟨m1, m2⟩ := Q3.out j hlt hlt2
            rw [m1] at y1
            obtain ⟨nj, hnj⟩ : ∃ nj, gs[j].1 = nj := ⟨_, rfl⟩
            obtain ⟨l1, hl1⟩ : ∃ l1, gs[j].2 = l1 := ⟨_, rfl⟩
            obtain ⟨l2, hl2⟩ : ∃ l2, fs2[j].2 = l2 := ⟨_, rfl⟩
            have x1' : wr.cell? ⟨g1, j * 2, none⟩ = some (.string nj) := x1.trans (by rw [← hnj])
            have y1' : wr.cell? ⟨g2, j * 2, none⟩ = some (.string nj) := y1.trans (by rw [← hnj])
            have x2' : wr.cell? ⟨g1, j * 2 + 1, none⟩ = some (.slice a1 l1.length d1) := x2.trans (by rw [← hl1])
            have y2' : wr.cell? ⟨g2, j * 2 + 1, none⟩ = some (.slice a2 l2.length d2) := y2.trans (by rw [← hl2])
            have x3' : Sl wr (.slice a1 l1.length d1) l1.length (bys l1) := by subst hl1; exact x3
            have y3' : Sl wr (.slice a2 l2.length d2) l2.length (bys l2) := by subst hl2; exact y3
            have HF := Lib.hid hF
            clear x1 x2 x3 y1 y2 y3 m1 hF
            have hqs : (nj.toList != nj.toList) = false := by simp
            by_cases hnm : nj = nm
            · subst hnm
              clear hnj hl1 hl2 m2
              go_upto_region 27 with fail
              refine wp_region_held_drew (S := (fun w' => w'.cell? ⟨g1, j * 2, none⟩ = some (.string nj) ∧ w'.cell? ⟨g2, j * 2, none⟩ = some (.string nj))) (by kernel_rfl) ⟨x1', y1'⟩ (fun hS0 => ?_)
              refine take_at (i := 0) (d := some 89) (v := ?_) rfl rfl (by kernel_rfl) (by kernel_rfl) (by kernel_rfl) (fun _ _ _ h => h) (Or.inl ⟨by rfl, ?_⟩) (by assumption) ?_
              rotate_left
              · intro w hSw; go_simp; try (with_reducible rfl)
              try simp only [Act.put, List.setIfInBounds_toArray, List.set_cons_zero, List.set_cons_succ]
              refine take_at (i := 1) (d := some 90) (v := ?_) rfl rfl (by kernel_rfl) (by kernel_rfl) (by kernel_rfl) (fun _ _ _ h => h) (Or.inl ⟨by rfl, ?_⟩) (by assumption) ?_
              rotate_left
              · intro w hSw; go_simp; try (with_reducible rfl)
              try simp only [Act.put, List.setIfInBounds_toArray, List.set_cons_zero, List.set_cons_succ]
              refine take_at (i := 2) (d := some 91) (v := ?_) rfl rfl (by kernel_rfl) (by kernel_rfl) (by kernel_rfl) (fun _ _ _ h => h) (Or.inl ⟨by rfl, ?_⟩) (by assumption) ?_
              rotate_left
              · intro w hSw; go_simp; try (with_reducible rfl)
              try simp only [Act.put, List.setIfInBounds_toArray, List.set_cons_zero, List.set_cons_succ]
              refine take_at (i := 3) (d := some 92) (v := ?_) rfl rfl (by kernel_rfl) (by kernel_rfl) (by kernel_rfl) (fun _ _ _ h => h) (Or.inl ⟨by rfl, ?_⟩) (by assumption) ?_
              rotate_left
              · intro w hSw; go_simp; try (with_reducible rfl)
              try simp only [Act.put, List.setIfInBounds_toArray, List.set_cons_zero, List.set_cons_succ]
              refine take_at (i := 4) (d := some 93) (v := ?_) rfl rfl (by kernel_rfl) (by kernel_rfl) (by kernel_rfl) (fun _ _ _ h => h) (Or.inl ⟨by rfl, ?_⟩) (by assumption) ?_
              rotate_left
              · intro w hSw; go_simp; try (with_reducible rfl)
              try simp only [Act.put, List.setIfInBounds_toArray, List.set_cons_zero, List.set_cons_succ]
              refine take_at (i := 5) (d := some 94) (v := ?_) rfl rfl (by kernel_rfl) (by kernel_rfl) (by kernel_rfl) (fun _ _ _ h => h) (Or.inl ⟨by rfl, ?_⟩) (by assumption) ?_
              rotate_left
              · intro w hSw; go_simp; try (with_reducible rfl)
              try simp only [Act.put, List.setIfInBounds_toArray, List.set_cons_zero, List.set_cons_succ]
              refine take_at (i := 6) (d := some 95) (v := ?_) rfl rfl (by kernel_rfl) (by kernel_rfl) (by kernel_rfl) (fun _ _ _ h => h) (Or.inl ⟨by rfl, ?_⟩) (by assumption) ?_
              rotate_left
              · intro w hSw; go_simp; try (with_reducible rfl)
              try simp only [Act.put, List.setIfInBounds_toArray, List.set_cons_zero, List.set_cons_succ]
              refine take_at (i := 7) (d := some 96) (v := ?_) rfl rfl (by kernel_rfl) (by kernel_rfl) (by kernel_rfl) (fun _ _ _ h => h) (Or.inl ⟨by rfl, ?_⟩) (by assumption) ?_
              rotate_left
              · intro w hSw; go_simp; try (with_reducible rfl)
              try simp only [Act.put, List.setIfInBounds_toArray, List.set_cons_zero, List.set_cons_succ]
              refine take_at (i := 8) (d := some 97) (v := ?_) rfl rfl (by kernel_rfl) (by kernel_rfl) (by kernel_rfl) (fun _ _ _ h => h) (Or.inl ⟨by rfl, ?_⟩) (by assumption) ?_
              rotate_left
              · intro w hSw; go_simp; try (with_reducible rfl)
              try simp only [Act.put, List.setIfInBounds_toArray, List.set_cons_zero, List.set_cons_succ]
              refine take_at (i := 9) (d := some 98) (v := ?_) rfl rfl (by kernel_rfl) (by kernel_rfl) (by kernel_rfl) (fun _ _ _ h => h) (Or.inl ⟨by rfl, ?_⟩) (by assumption) ?_
              rotate_left
              · intro w hSw; go_simp; try (with_reducible rfl)
              try simp only [Act.put, List.setIfInBounds_toArray, List.set_cons_zero, List.set_cons_succ]
              refine take_at (i := 10) (d := some 99) (v := ?_) rfl rfl (by kernel_rfl) (by kernel_rfl) (by kernel_rfl) (fun _ _ _ h => h) (Or.inl ⟨by rfl, ?_⟩) (by assumption) ?_
              rotate_left
              · intro w hSw; go_simp; try (with_reducible rfl)
              try simp only [Act.put, List.setIfInBounds_toArray, List.set_cons_zero, List.set_cons_succ]
              refine take_at (i := 11) (d := some 100) (v := ?_) rfl rfl (by kernel_rfl) (by kernel_rfl) (by kernel_rfl) (fun _ _ _ h => h) (Or.inl ⟨by rfl, ?_⟩) (by assumption) ?_
              rotate_left
              · intro w hSw; go_simp; try (with_reducible rfl)
              try simp only [Act.put, List.setIfInBounds_toArray, List.set_cons_zero, List.set_cons_succ]
              refine take_at (i := 12) (d := some 101) (v := ?_) rfl rfl (by kernel_rfl) (by kernel_rfl) (by kernel_rfl) (fun _ _ _ h => h) (Or.inl ⟨by rfl, ?_⟩) (by assumption) ?_
              rotate_left
              · intro w hSw; go_simp; try (with_reducible rfl)
              try simp only [Act.put, List.setIfInBounds_toArray, List.set_cons_zero, List.set_cons_succ]
              refine take_at (i := 13) (d := some 102) (v := ?_) rfl rfl (by kernel_rfl) (by kernel_rfl) (by kernel_rfl) (fun _ _ _ h => h) (Or.inl ⟨by rfl, ?_⟩) (by assumption) ?_
              rotate_left
              · intro w hSw; go_simp; try (with_reducible rfl)
              try simp only [Act.put, List.setIfInBounds_toArray, List.set_cons_zero, List.set_cons_succ]
              refine take_at (i := 14) (d := some 103) (v := ?_) rfl rfl (by kernel_rfl) (by kernel_rfl) (by kernel_rfl) (fun _ _ _ h => h) (Or.inl ⟨by rfl, ?_⟩) (by assumption) ?_
              rotate_left
              · intro w hSw; go_simp; try (with_reducible rfl)
              try simp only [Act.put, List.setIfInBounds_toArray, List.set_cons_zero, List.set_cons_succ]
              refine take_at (i := 15) (d := some 104) (v := ?_) rfl rfl (by kernel_rfl) (by kernel_rfl) (by kernel_rfl) (fun _ _ _ h => h) (Or.inl ⟨by rfl, ?_⟩) (by assumption) ?_
              rotate_left
              · intro w hSw; go_simp; try (with_reducible rfl)
              try simp only [Act.put, List.setIfInBounds_toArray, List.set_cons_zero, List.set_cons_succ]
              refine take_at (i := 16) (d := some 105) (v := ?_) rfl rfl (by kernel_rfl) (by kernel_rfl) (by kernel_rfl) (fun _ _ _ h => h) (Or.inl ⟨by rfl, ?_⟩) (by assumption) ?_
              rotate_left
              · intro w hSw; go_simp; try (with_reducible rfl)
              try simp only [Act.put, List.setIfInBounds_toArray, List.set_cons_zero, List.set_cons_succ]
              refine take_at (i := 17) (d := some 106) (v := ?_) rfl rfl (by kernel_rfl) (by kernel_rfl) (by kernel_rfl) (fun _ _ _ h => h) (Or.inl ⟨by rfl, ?_⟩) (by assumption) ?_
              rotate_left
              · intro w hSw; go_simp; try (with_reducible rfl)
              try simp only [Act.put, List.setIfInBounds_toArray, List.set_cons_zero, List.set_cons_succ]
              refine take_at (i := 18) (d := some 107) (v := ?_) rfl rfl (by kernel_rfl) (by kernel_rfl) (by kernel_rfl) (fun _ _ _ h => h) (Or.inl ⟨by rfl, ?_⟩) (by assumption) ?_
              rotate_left
              · intro w hSw; go_simp; try (with_reducible rfl)
              try simp only [Act.put, List.setIfInBounds_toArray, List.set_cons_zero, List.set_cons_succ]
              refine take_at (i := 19) (d := some 108) (v := ?_) rfl rfl (by kernel_rfl) (by kernel_rfl) (by kernel_rfl) (fun _ _ _ h => h) (Or.inl ⟨by rfl, ?_⟩) (by assumption) ?_
              rotate_left
              · intro w hSw; go_simp; try (with_reducible rfl)
              try simp only [Act.put, List.setIfInBounds_toArray, List.set_cons_zero, List.set_cons_succ]
              refine take_at (i := 20) (d := some 109) (v := undef) rfl rfl (by kernel_rfl) (by kernel_rfl) (by kernel_rfl) (fun _ _ _ h => h) (Or.inr ⟨by rfl, rfl⟩) (by assumption) ?_
              try simp only [Act.put, List.setIfInBounds_toArray, List.set_cons_zero, List.set_cons_succ]
              refine take_at (i := 21) (d := some 110) (v := undef) rfl rfl (by kernel_rfl) (by kernel_rfl) (by kernel_rfl) (fun _ _ _ h => h) (Or.inr ⟨by rfl, rfl⟩) (by assumption) ?_
              try simp only [Act.put, List.setIfInBounds_toArray, List.set_cons_zero, List.set_cons_succ]
              refine take_at (i := 22) (d := some 111) (v := undef) rfl rfl (by kernel_rfl) (by kernel_rfl) (by kernel_rfl) (fun _ _ _ h => h) (Or.inr ⟨by rfl, rfl⟩) (by assumption) ?_
              try simp only [Act.put, List.setIfInBounds_toArray, List.set_cons_zero, List.set_cons_succ]
              refine take_at (i := 23) (d := some 112) (v := undef) rfl rfl (by kernel_rfl) (by kernel_rfl) (by kernel_rfl) (fun _ _ _ h => h) (Or.inr ⟨by rfl, rfl⟩) (by assumption) ?_
              try simp only [Act.put, List.setIfInBounds_toArray, List.set_cons_zero, List.set_cons_succ]
              refine take_at (i := 24) (d := some 113) (v := undef) rfl rfl (by kernel_rfl) (by kernel_rfl) (by kernel_rfl) (fun _ _ _ h => h) (Or.inr ⟨by rfl, rfl⟩) (by assumption) ?_
              try simp only [Act.put, List.setIfInBounds_toArray, List.set_cons_zero, List.set_cons_succ]
              refine take_at (i := 25) (d := some 114) (v := undef) rfl rfl (by kernel_rfl) (by kernel_rfl) (by kernel_rfl) (fun _ _ _ h => h) (Or.inr ⟨by rfl, rfl⟩) (by assumption) ?_
              try simp only [Act.put, List.setIfInBounds_toArray, List.set_cons_zero, List.set_cons_succ]
              refine take_at (i := 26) (d := some 115) (v := undef) rfl rfl (by kernel_rfl) (by kernel_rfl) (by kernel_rfl) (fun _ _ _ h => h) (Or.inr ⟨by rfl, rfl⟩) (by assumption) ?_
              try simp only [Act.put, List.setIfInBounds_toArray, List.set_cons_zero, List.set_cons_succ]
              refine take_at (i := 27) (d := some 116) (v := undef) rfl rfl (by kernel_rfl) (by kernel_rfl) (by kernel_rfl) (fun _ _ _ h => h) (Or.inr ⟨by rfl, rfl⟩) (by assumption) ?_
              try simp only [Act.put, List.setIfInBounds_toArray, List.set_cons_zero, List.set_cons_succ]
              refine take_at (i := 28) (d := some 117) (v := undef) rfl rfl (by kernel_rfl) (by kernel_rfl) (by kernel_rfl) (fun _ _ _ h => h) (Or.inr ⟨by rfl, rfl⟩) (by assumption) ?_
              try simp only [Act.put, List.setIfInBounds_toArray, List.set_cons_zero, List.set_cons_succ]
              refine take_at (i := 29) (d := some 118) (v := undef) rfl rfl (by kernel_rfl) (by kernel_rfl) (by kernel_rfl) (fun _ _ _ h => h) (Or.inr ⟨by rfl, rfl⟩) (by assumption) ?_
              try simp only [Act.put, List.setIfInBounds_toArray, List.set_cons_zero, List.set_cons_succ]
              refine take_at (i := 30) (d := some 119) (v := undef) rfl rfl (by kernel_rfl) (by kernel_rfl) (by kernel_rfl) (fun _ _ _ h => h) (Or.inr ⟨by rfl, rfl⟩) (by assumption) ?_
              try simp only [Act.put, List.setIfInBounds_toArray, List.set_cons_zero, List.set_cons_succ]
              refine take_at (i := 31) (d := some 120) (v := undef) rfl rfl (by kernel_rfl) (by kernel_rfl) (by kernel_rfl) (fun _ _ _ h => h) (Or.inr ⟨by rfl, rfl⟩) (by assumption) ?_
              try simp only [Act.put, List.setIfInBounds_toArray, List.set_cons_zero, List.set_cons_succ]
              refine take_at (i := 32) (d := some 121) (v := undef) rfl rfl (by kernel_rfl) (by kernel_rfl) (by kernel_rfl) (fun _ _ _ h => h) (Or.inr ⟨by rfl, rfl⟩) (by assumption) ?_
              try simp only [Act.put, List.setIfInBounds_toArray, List.set_cons_zero, List.set_cons_succ]
              refine take_at (i := 33) (d := some 122) (v := ?_) rfl rfl (by kernel_rfl) (by kernel_rfl) (by kernel_rfl) (fun _ _ _ h => h) (Or.inl ⟨by rfl, ?_⟩) (by assumption) ?_
              rotate_left
              · intro w hSw; go_simp; try (with_reducible rfl)
              try simp only [Act.put, List.setIfInBounds_toArray, List.set_cons_zero, List.set_cons_succ]
              refine take_at (i := 34) (d := some 123) (v := ?_) rfl rfl (by kernel_rfl) (by kernel_rfl) (by kernel_rfl) (fun _ _ _ h => h) (Or.inl ⟨by rfl, ?_⟩) (by assumption) ?_
              rotate_left
              · intro w hSw; go_simp; try (with_reducible rfl)
              try simp only [Act.put, List.setIfInBounds_toArray, List.set_cons_zero, List.set_cons_succ]
              refine wpAnyH_done (by kernel_rfl) ?_ _
              go_wp2
              go_roundw
              case rel => exact ⟨j + 1, by omega, by go_num, HF.out.drew⟩
              case measure => simp [intOf]; omega
            · have hsame : l2 = l1 := by
                rw [← hl2, ← hl1]
                rcases m2 with h | h
                · exact h
                · exact absurd (hnj.symm.trans (HI.out j hlt hlt h).symm) hnm
              subst hsame
              have qn := eq_str nj nm
              rw [decide_eq_false hnm] at qn
              have qn2 : (nj.toList != nm.toList) = true := by simp [bne, qn]
              have v1 := conv_sl (w := wr.drew) (a := a1) (cap := d1) (l := l2) (x3'.fr0 (Fr.refl _ _).drew)
              have v2 := conv_sl (w := wr.drew) (a := a2) (cap := d2) (l := l2) (y3'.fr0 (Fr.refl _ _).drew)
              generalize strOfNums l2 = st at *
              have hqt : (st.toList != st.toList) = false := by simp
              clear hnj hl1 hl2 m2 x3' y3'
              go_upto_region 27 with fail
              refine wp_region_held_drew (S := (fun w' => w'.cell? ⟨g1, j * 2, none⟩ = some (.string nj) ∧ w'.cell? ⟨g2, j * 2, none⟩ = some (.string nj) ∧ w'.cell? ⟨g1, j * 2 + 1, none⟩ = some (.slice a1 l2.length d1) ∧ w'.cell? ⟨g2, j * 2 + 1, none⟩ = some (.slice a2 l2.length d2) ∧
                (convert 22 9 (.slice a1 l2.length d1)).run Try.prog w' = .ok (.string st) w' ∧ (convert 22 9 (.slice a2 l2.length d2)).run Try.prog w' = .ok (.string st) w')) (by kernel_rfl) ⟨x1', y1', x2', y2', v1, v2⟩ (fun hS0 => ?_)
              refine take_at (i := 0) (d := some 89) (v := ?_) rfl rfl (by kernel_rfl) (by kernel_rfl) (by kernel_rfl) (fun _ _ _ h => h) (Or.inl ⟨by rfl, ?_⟩) (by assumption) ?_
              rotate_left
              · intro w hSw; go_simp; try (with_reducible rfl)
              try simp only [Act.put, List.setIfInBounds_toArray, List.set_cons_zero, List.set_cons_succ]
              refine take_at (i := 1) (d := some 90) (v := ?_) rfl rfl (by kernel_rfl) (by kernel_rfl) (by kernel_rfl) (fun _ _ _ h => h) (Or.inl ⟨by rfl, ?_⟩) (by assumption) ?_
              rotate_left
              · intro w hSw; go_simp; try (with_reducible rfl)
              try simp only [Act.put, List.setIfInBounds_toArray, List.set_cons_zero, List.set_cons_succ]
              refine take_at (i := 2) (d := some 91) (v := ?_) rfl rfl (by kernel_rfl) (by kernel_rfl) (by kernel_rfl) (fun _ _ _ h => h) (Or.inl ⟨by rfl, ?_⟩) (by assumption) ?_
              rotate_left
              · intro w hSw; go_simp; try (with_reducible rfl)
              try simp only [Act.put, List.setIfInBounds_toArray, List.set_cons_zero, List.set_cons_succ]
              refine take_at (i := 3) (d := some 92) (v := ?_) rfl rfl (by kernel_rfl) (by kernel_rfl) (by kernel_rfl) (fun _ _ _ h => h) (Or.inl ⟨by rfl, ?_⟩) (by assumption) ?_
              rotate_left
              · intro w hSw; go_simp; try (with_reducible rfl)
              try simp only [Act.put, List.setIfInBounds_toArray, List.set_cons_zero, List.set_cons_succ]
              refine take_at (i := 4) (d := some 93) (v := ?_) rfl rfl (by kernel_rfl) (by kernel_rfl) (by kernel_rfl) (fun _ _ _ h => h) (Or.inl ⟨by rfl, ?_⟩) (by assumption) ?_
              rotate_left
              · intro w hSw; go_simp; try (with_reducible rfl)
              try simp only [Act.put, List.setIfInBounds_toArray, List.set_cons_zero, List.set_cons_succ]
              refine take_at (i := 5) (d := some 94) (v := ?_) rfl rfl (by kernel_rfl) (by kernel_rfl) (by kernel_rfl) (fun _ _ _ h => h) (Or.inl ⟨by rfl, ?_⟩) (by assumption) ?_
              rotate_left
              · intro w hSw; go_simp; try (with_reducible rfl)
              try simp only [Act.put, List.setIfInBounds_toArray, List.set_cons_zero, List.set_cons_succ]
              refine take_at (i := 6) (d := some 95) (v := ?_) rfl rfl (by kernel_rfl) (by kernel_rfl) (by kernel_rfl) (fun _ _ _ h => h) (Or.inl ⟨by rfl, ?_⟩) (by assumption) ?_
              rotate_left
              · intro w hSw; go_simp; try (with_reducible rfl)
              try simp only [Act.put, List.setIfInBounds_toArray, List.set_cons_zero, List.set_cons_succ]
              refine take_at (i := 7) (d := some 96) (v := ?_) rfl rfl (by kernel_rfl) (by kernel_rfl) (by kernel_rfl) (fun _ _ _ h => h) (Or.inl ⟨by rfl, ?_⟩) (by assumption) ?_
              rotate_left
              · intro w hSw; go_simp; try (with_reducible rfl)
              try simp only [Act.put, List.setIfInBounds_toArray, List.set_cons_zero, List.set_cons_succ]
              refine take_at (i := 8) (d := some 97) (v := ?_) rfl rfl (by kernel_rfl) (by kernel_rfl) (by kernel_rfl) (fun _ _ _ h => h) (Or.inl ⟨by rfl, ?_⟩) (by assumption) ?_
              rotate_left
              · intro w hSw; go_simp; try (with_reducible rfl)
              try simp only [Act.put, List.setIfInBounds_toArray, List.set_cons_zero, List.set_cons_succ]
              refine take_at (i := 9) (d := some 98) (v := ?_) rfl rfl (by kernel_rfl) (by kernel_rfl) (by kernel_rfl) (fun _ _ _ h => h) (Or.inl ⟨by rfl, ?_⟩) (by assumption) ?_
              rotate_left
              · intro w hSw; go_simp; try (with_reducible rfl)
              try simp only [Act.put, List.setIfInBounds_toArray, List.set_cons_zero, List.set_cons_succ]
              refine take_at (i := 10) (d := some 99) (v := ?_) rfl rfl (by kernel_rfl) (by kernel_rfl) (by kernel_rfl) (fun _ _ _ h => h) (Or.inl ⟨by rfl, ?_⟩) (by assumption) ?_
              rotate_left
              · intro w hSw; go_simp; try (with_reducible rfl)
              try simp only [Act.put, List.setIfInBounds_toArray, List.set_cons_zero, List.set_cons_succ]
              refine take_at (i := 11) (d := some 100) (v := ?_) rfl rfl (by kernel_rfl) (by kernel_rfl) (by kernel_rfl) (fun _ _ _ h => h) (Or.inl ⟨by rfl, ?_⟩) (by assumption) ?_
              rotate_left
              · intro w hSw; go_simp; try (with_reducible rfl)
              try simp only [Act.put, List.setIfInBounds_toArray, List.set_cons_zero, List.set_cons_succ]
              refine take_at (i := 12) (d := some 101) (v := ?_) rfl rfl (by kernel_rfl) (by kernel_rfl) (by kernel_rfl) (fun _ _ _ h => h) (Or.inl ⟨by rfl, ?_⟩) (by assumption) ?_
              rotate_left
              · intro w hSw; go_simp; try (with_reducible rfl)
              try simp only [Act.put, List.setIfInBounds_toArray, List.set_cons_zero, List.set_cons_succ]
              refine take_at (i := 13) (d := some 102) (v := ?_) rfl rfl (by kernel_rfl) (by kernel_rfl) (by kernel_rfl) (fun _ _ _ h => h) (Or.inl ⟨by rfl, ?_⟩) (by assumption) ?_
              rotate_left
              · intro w hSw; go_simp; try (with_reducible rfl)
              try simp only [Act.put, List.setIfInBounds_toArray, List.set_cons_zero, List.set_cons_succ]
              refine take_at (i := 14) (d := some 103) (v := ?_) rfl rfl (by kernel_rfl) (by kernel_rfl) (by kernel_rfl) (fun _ _ _ h => h) (Or.inl ⟨by rfl, ?_⟩) (by assumption) ?_
              rotate_left
              · intro w hSw; go_simp; try (with_reducible rfl)
              try simp only [Act.put, List.setIfInBounds_toArray, List.set_cons_zero, List.set_cons_succ]
              refine take_at (i := 15) (d := some 104) (v := ?_) rfl rfl (by kernel_rfl) (by kernel_rfl) (by kernel_rfl) (fun _ _ _ h => h) (Or.inl ⟨by rfl, ?_⟩) (by assumption) ?_
              rotate_left
              · intro w hSw; go_simp; try (with_reducible rfl)
              try simp only [Act.put, List.setIfInBounds_toArray, List.set_cons_zero, List.set_cons_succ]
              refine take_at (i := 16) (d := some 105) (v := ?_) rfl rfl (by kernel_rfl) (by kernel_rfl) (by kernel_rfl) (fun _ _ _ h => h) (Or.inl ⟨by rfl, ?_⟩) (by assumption) ?_
              rotate_left
              · intro w hSw; go_simp; try (with_reducible rfl)
              try simp only [Act.put, List.setIfInBounds_toArray, List.set_cons_zero, List.set_cons_succ]
              refine take_at (i := 17) (d := some 106) (v := ?_) rfl rfl (by kernel_rfl) (by kernel_rfl) (by kernel_rfl) (fun _ _ _ h => h) (Or.inl ⟨by rfl, ?_⟩) (by assumption) ?_
              rotate_left
              · intro w hSw; go_simp; try (with_reducible rfl)
              try simp only [Act.put, List.setIfInBounds_toArray, List.set_cons_zero, List.set_cons_succ]
              refine take_at (i := 18) (d := some 107) (v := ?_) rfl rfl (by kernel_rfl) (by kernel_rfl) (by kernel_rfl) (fun _ _ _ h => h) (Or.inl ⟨by rfl, ?_⟩) (by assumption) ?_
              rotate_left
              · intro w hSw; go_simp; try (with_reducible rfl)
              try simp only [Act.put, List.setIfInBounds_toArray, List.set_cons_zero, List.set_cons_succ]
              refine take_at (i := 19) (d := some 108) (v := ?_) rfl rfl (by kernel_rfl) (by kernel_rfl) (by kernel_rfl) (fun _ _ _ h => h) (Or.inl ⟨by rfl, ?_⟩) (by assumption) ?_
              rotate_left
              · intro w hSw; go_simp; try (with_reducible rfl)
              try simp only [Act.put, List.setIfInBounds_toArray, List.set_cons_zero, List.set_cons_succ]
              refine take_at (i := 20) (d := some 109) (v := ?_) rfl rfl (by kernel_rfl) (by kernel_rfl) (by kernel_rfl) (fun _ _ _ h => h) (Or.inl ⟨by rfl, ?_⟩) (by assumption) ?_
              rotate_left
              · intro w hSw; go_simp; try (with_reducible rfl)
              try simp only [Act.put, List.setIfInBounds_toArray, List.set_cons_zero, List.set_cons_succ]
              refine take_at (i := 21) (d := some 110) (v := ?_) rfl rfl (by kernel_rfl) (by kernel_rfl) (by kernel_rfl) (fun _ _ _ h => h) (Or.inl ⟨by rfl, ?_⟩) (by assumption) ?_
              rotate_left
              · intro w hSw; go_simp; try (with_reducible rfl)
              try simp only [Act.put, List.setIfInBounds_toArray, List.set_cons_zero, List.set_cons_succ]
              refine take_at (i := 22) (d := some 111) (v := ?_) rfl rfl (by kernel_rfl) (by kernel_rfl) (by kernel_rfl) (fun _ _ _ h => h) (Or.inl ⟨by rfl, ?_⟩) (by assumption) ?_
              rotate_left
              · intro w hSw; go_simp; try (with_reducible rfl)
              try simp only [Act.put, List.setIfInBounds_toArray, List.set_cons_zero, List.set_cons_succ]
              refine take_at (i := 23) (d := some 112) (v := ?_) rfl rfl (by kernel_rfl) (by kernel_rfl) (by kernel_rfl) (fun _ _ _ h => h) (Or.inl ⟨by rfl, ?_⟩) (by assumption) ?_
              rotate_left
              · intro w hSw; go_simp; try (with_reducible rfl)
              try simp only [Act.put, List.setIfInBounds_toArray, List.set_cons_zero, List.set_cons_succ]
              refine take_at (i := 24) (d := some 113) (v := ?_) rfl rfl (by kernel_rfl) (by kernel_rfl) (by kernel_rfl) (fun _ _ _ h => h) (Or.inl ⟨by rfl, ?_⟩) (by assumption) ?_
              rotate_left
              · intro w hSw; go_simp; try (with_reducible rfl)
              try simp only [Act.put, List.setIfInBounds_toArray, List.set_cons_zero, List.set_cons_succ]
              refine take_at (i := 25) (d := some 114) (v := ?_) rfl rfl (by kernel_rfl) (by kernel_rfl) (by kernel_rfl) (fun _ _ _ h => h) (Or.inl ⟨by rfl, ?_⟩) (by assumption) ?_
              rotate_left
              · intro w hSw; go_simp; try (with_reducible rfl)
              try simp only [Act.put, List.setIfInBounds_toArray, List.set_cons_zero, List.set_cons_succ]
              refine take_at (i := 26) (d := some 115) (v := ?_) rfl rfl (by kernel_rfl) (by kernel_rfl) (by kernel_rfl) (fun _ _ _ h => h) (Or.inl ⟨by rfl, ?_⟩) (by assumption) ?_
              rotate_left
              · intro w hSw; go_simp; try (with_reducible rfl)
              try simp only [Act.put, List.setIfInBounds_toArray, List.set_cons_zero, List.set_cons_succ]
              refine take_at (i := 27) (d := some 116) (v := ?_) rfl rfl (by kernel_rfl) (by kernel_rfl) (by kernel_rfl) (fun _ _ _ h => h) (Or.inl ⟨by rfl, ?_⟩) (by assumption) ?_
              rotate_left
              · intro w hSw; go_simp; try (with_reducible rfl)
              try simp only [Act.put, List.setIfInBounds_toArray, List.set_cons_zero, List.set_cons_succ]
              refine take_at (i := 28) (d := some 117) (v := ?_) rfl rfl (by kernel_rfl) (by kernel_rfl) (by kernel_rfl) (fun _ _ _ h => h) (Or.inl ⟨by rfl, ?_⟩) (by assumption) ?_
              rotate_left
              · intro w hSw; go_simp; try (with_reducible rfl)
              try simp only [Act.put, List.setIfInBounds_toArray, List.set_cons_zero, List.set_cons_succ]
              refine take_at (i := 29) (d := some 118) (v := ?_) rfl rfl (by kernel_rfl) (by kernel_rfl) (by kernel_rfl) (fun _ _ _ h => h) (Or.inl ⟨by rfl, ?_⟩) (by assumption) ?_
              rotate_left
              · intro w hSw; go_simp; try (with_reducible rfl)
              try simp only [Act.put, List.setIfInBounds_toArray, List.set_cons_zero, List.set_cons_succ]
              refine take_at (i := 30) (d := some 119) (v := ?_) rfl rfl (by kernel_rfl) (by kernel_rfl) (by kernel_rfl) (fun _ _ _ h => h) (Or.inl ⟨by rfl, ?_⟩) (by assumption) ?_
              rotate_left
              · intro w hSw; go_simp; try (with_reducible rfl)
              try simp only [Act.put, List.setIfInBounds_toArray, List.set_cons_zero, List.set_cons_succ]
              refine take_at (i := 31) (d := some 120) (v := ?_) rfl rfl (by kernel_rfl) (by kernel_rfl) (by kernel_rfl) (fun _ _ _ h => h) (Or.inl ⟨by rfl, ?_⟩) (by assumption) ?_
              rotate_left
              · intro w hSw; go_simp; try (with_reducible rfl)
              try simp only [Act.put, List.setIfInBounds_toArray, List.set_cons_zero, List.set_cons_succ]
              refine take_at (i := 32) (d := some 121) (v := ?_) rfl rfl (by kernel_rfl) (by kernel_rfl) (by kernel_rfl) (fun _ _ _ h => h) (Or.inl ⟨by rfl, ?_⟩) (by assumption) ?_
              rotate_left
              · intro w hSw; go_simp; try (with_reducible rfl)
              try simp only [Act.put, List.setIfInBounds_toArray, List.set_cons_zero, List.set_cons_succ]
              refine take_at (i := 33) (d := some 122) (v := ?_) rfl rfl (by kernel_rfl) (by kernel_rfl) (by kernel_rfl) (fun _ _ _ h => h) (Or.inl ⟨by rfl, ?_⟩) (by assumption) ?_
              rotate_left
              · intro w hSw; go_simp; try (with_reducible rfl)
              try simp only [Act.put, List.setIfInBounds_toArray, List.set_cons_zero, List.set_cons_succ]
              refine take_at (i := 34) (d := some 123) (v := ?_) rfl rfl (by kernel_rfl) (by kernel_rfl) (by kernel_rfl) (fun _ _ _ h => h) (Or.inl ⟨by rfl, ?_⟩) (by assumption) ?_
              rotate_left
              · intro w hSw; go_simp; try (with_reducible rfl)
              try simp only [Act.put, List.setIfInBounds_toArray, List.set_cons_zero, List.set_cons_succ]
              refine wpAnyH_done (by kernel_rfl) ?_ _
              go_wp2
              go_roundw
              case rel => exact ⟨j + 1, by omega, by go_num, HF.out.drew⟩
              case measure => simp [intOf]; omega
          · go_wp2
            go_ret
            exact ⟨rfl, HM6.out.fr.trans hF⟩
end Go.Proofs.Ytoajnmbbgbpbgaa
