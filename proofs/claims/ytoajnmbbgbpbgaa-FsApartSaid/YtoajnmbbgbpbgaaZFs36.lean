/-
  Chapter 12: FsMap.
-/
import Derived.Test.YtoajnmbbgbpbgaaZFs35
import Derived.Test.YtoajnmbbgbpbgaaZC
namespace Go.Proofs.Ytoajnmbbgbpbgaa
set_option linter.unusedVariables false
set_option linter.unusedSimpArgs false
open Go.RowKit Go.Shelf Go.Maps

theorem sl_two (w : World) (x y : Value) (t : TypeId) : Sl (w.alloc (.cells #[x, y] t)) (.slice (some ⟨w.heap.size, 0, none⟩) 1 1) 1 [x, y] := by
  refine ⟨_, _, rfl, ⟨by simp, Nat.le_refl _⟩, fun _ => ⟨_, _, rfl⟩, ?_⟩
  rintro b off j u ⟨rfl, rfl⟩ hj
  rw [Nat.zero_add]
  exact heap_cell (heap_new _ _) (by simpa using hj)
theorem FilesV.snoc0 {fs : Files} {vs : List (ByteArray × Value)} {w : World} {A : Nat → Prop} (h : FilesV fs vs w A) (s : ByteArray) : FilesV (fs ++ [(s, [])]) (vs ++ [(s, .slice none 0 0)]) w A :=
  h.snoc (x := (s, [])) (World.ownsRow_nil _ _ _ _) (fun k e => by cases e)
theorem FmV.app {w wr w4 : World} {mb : Nat} {F B : List Int} {fv v4 : Value} {fs : Files} {vs : List (ByteArray × Value)} {A : Nat → Prop} {s : ByteArray} {o : Obj} (h : FmV w mb F fv wr fs vs A B) (hg : (wr.alloc o).grownBy w4 fv.ownBlock)
    (hr : w4.ownsRow w.heap.size 45 2 v4 (fs.length + 1) (fileCells vs ++ [.string s, .slice none 0 0])) (hl : v4.ownBlock = fv.ownBlock ∨ v4.ownBlock = some (wr.alloc o).heap.size) :
    FmV w mb F v4 w4 (fs ++ [(s, [])]) (vs ++ [(s, .slice none 0 0)]) A B := by
  have h1 := h.fr0 ((Fr.refl No wr).alloc o)
  refine h1.turn ((Fr.refl _ _).grown hg (fun k e _ => e)) (by rw [fileCells_snoc, List.length_append]; exact hr) (fun k e hA => ?_) (h1.files.snoc0 s)
  rcases hl with hl | hl
  · rw [hl] at e; exact h.out k e hA
  · rw [hl] at e; cases e; exact Nat.lt_irrefl _ (h1.mem.low _ hA)
theorem FmV.put {w wr : World} {mb : Nat} {F B : List Int} {g c : Nat} {fs : Files} {vs : List (ByteArray × Value)} {A : Nat → Prop} (h : FmV w mb F (.slice (some ⟨g, 0, none⟩) fs.length c) wr fs vs A B) (k : Nat) (hk : k < fs.length) (v : Value) (l : List Int)
    (hr : wr.ownsRow 0 5 1 v l.length (bys l)) (ho : ∀ j, v.ownBlock = some j → ¬ A j) :
    FmV w mb F (.slice (some ⟨g, 0, none⟩) fs.length c) (wr.setCell ⟨g, k * 2 + 1, none⟩ v) (fs.set k (fs[k].1, l)) (vs.set k (fs[k].1, v)) A B := by
  obtain ⟨hkv, -, -, e1, -⟩ := h.files.at k hk
  have hst := (h.row.stored (2 * k + 1) v).1
  rw [fileCells_set vs k hkv v, e1] at hst
  have e2 : k * 2 + 1 = 2 * k + 1 := by omega
  rw [e2]
  have hFs : Fr (fun j => (Value.slice (some ⟨g, 0, none⟩) fs.length c).ownBlock = some j) wr (wr.setCell ⟨g, 2 * k + 1, none⟩ v) := Fr.setCell (S := fun j => (Value.slice (some ⟨g, 0, none⟩) fs.length c).ownBlock = some j) (Fr.refl _ _) (p := ⟨g, 2 * k + 1, none⟩) (fun _ => rfl) v
  refine h.turn hFs (by rw [List.length_set]; exact hst) h.out ?_
  exact All2.set h.files k (x := (fs[k].1, l)) (y := (fs[k].1, v)) ⟨rfl, hr, ho⟩
theorem FmV.cells {w wr : World} {mb : Nat} {F B : List Int} {g c : Nat} {fs : Files} {vs : List (ByteArray × Value)} {A : Nat → Prop} (h : FmV w mb F (.slice (some ⟨g, 0, none⟩) fs.length c) wr fs vs A B) (k : Nat) (hk : k < fs.length) :
    ∃ a cc, wr.cell? ⟨g, k * 2 + 1, none⟩ = some (.slice a fs[k].2.length cc) ∧ wr.frozen? ⟨g, k * 2 + 1, none⟩ = false ∧ wr.ownsRow 0 5 1 (.slice a fs[k].2.length cc) fs[k].2.length (bys fs[k].2) ∧ ∀ j, (Value.slice a fs[k].2.length cc).ownBlock = some j → ¬ A j := by
  obtain ⟨hkv, a, cc, e1, e2, h3, h4⟩ := h.files.at k hk
  refine ⟨a, cc, ?_, h.row.frozenAt _, h3, h4⟩
  rw [show k * 2 + 1 = 2 * k + 1 by omega, h.row.cellAt _ (by omega), fileCells_get2 vs k hkv, e2]
/-- The same, the file's name and bytes told. -/
theorem FmV.put2 {w wr : World} {mb : Nat} {F B : List Int} {g c : Nat} {fs : Files} {vs : List (ByteArray × Value)} {A : Nat → Prop} (h : FmV w mb F (.slice (some ⟨g, 0, none⟩) fs.length c) wr fs vs A B) (k : Nat) (hk : k < fs.length) {s : ByteArray} (hs : fs[k].1 = s) (v : Value) (l : List Int)
    (hr : wr.ownsRow 0 5 1 v l.length (bys l)) (ho : ∀ j, v.ownBlock = some j → ¬ A j) :
    FmV w mb F (.slice (some ⟨g, 0, none⟩) fs.length c) (wr.setCell ⟨g, k * 2 + 1, none⟩ v) (fs.set k (s, l)) (vs.set k (s, v)) A B := by
  subst hs; exact h.put k hk v l hr ho
theorem FmV.cells2 {w wr : World} {mb : Nat} {F B : List Int} {g c : Nat} {fs : Files} {vs : List (ByteArray × Value)} {A : Nat → Prop} (h : FmV w mb F (.slice (some ⟨g, 0, none⟩) fs.length c) wr fs vs A B) (k : Nat) (hk : k < fs.length) {ol : List Int} (hl : fs[k].2 = ol) :
    ∃ a cc, wr.cell? ⟨g, k * 2 + 1, none⟩ = some (.slice a ol.length cc) ∧ wr.frozen? ⟨g, k * 2 + 1, none⟩ = false ∧ wr.ownsRow 0 5 1 (.slice a ol.length cc) ol.length (bys ol) ∧ ∀ j, (Value.slice a ol.length cc).ownBlock = some j → ¬ A j := by
  subst hl; exact h.cells k hk
theorem map_write2 {fs : Files} {B : List Int} {L : List Nd} {u : Nat} (h : Rel fs B L u) {k n : Nat} (hk : k < fs.length) (hn : n < L.length) (h1 : L[n].name ≠ noName) (h2 : fs[k] = entry B L[n]) (b : List Int) {s : ByteArray} {ol : List Int} (hs : fs[k].1 = s) (hl : fs[k].2 = ol) :
    (sumF (fs.set k (s, ol ++ b)) ≤ 23 → (writeR B n ol.length b).2 = 0 ∧ ∃ L' u', Rel (fs.set k (s, ol ++ b)) (writeR B n ol.length b).1 L' u') ∧
    (¬ sumF (fs.set k (s, ol ++ b)) ≤ 23 → writeR B n ol.length b = (B, 125)) := by
  subst hs; subst hl; exact map_write h hk hn h1 h2 b
theorem set_back (fs : Files) (k : Nat) (hk : k < fs.length) {s : ByteArray} {ol : List Int} (hs : fs[k].1 = s) (hl : fs[k].2 = ol) (l : List Int) : (fs.set k (s, l)).set k (s, ol) = fs := by
  subst hs; subst hl
  rw [List.set_set]
  exact List.set_getElem_self hk
theorem Rel.small {fs : Files} {B : List Int} {L : List Nd} {u : Nat} (h : Rel fs B L u) : ∀ f ∈ fs, f.2.length ≤ 1472 := fun f hf => by
  obtain ⟨n, hn, -, e⟩ := mem_filesL.1 (h.2.2.mem_iff.1 hf)
  obtain ⟨-, -, h3, h4, -, -⟩ := (h.2.1.good _ (List.getElem_mem hn)).facts
  rw [e, entry, contF_length]; omega
theorem Rel.small2 {fs : Files} {B : List Int} {L : List Nd} {u : Nat} (h : Rel fs B L u) {k : Nat} (hk : k < fs.length) {ol : List Int} (hl : fs[k].2 = ol) : ol.length ≤ 1472 := by
  subst hl; exact h.small _ (List.getElem_mem hk)
theorem FmV.slice {w wr : World} {mb : Nat} {F B : List Int} {fv : Value} {fs : Files} {vs : List (ByteArray × Value)} {A : Nat → Prop} (h : FmV w mb F fv wr fs vs A B) (hk : 0 < fs.length) : ∃ g c, fv = .slice (some ⟨g, 0, none⟩) fs.length c := by
  obtain ⟨g, c, e, -⟩ := World.ownsRow.form h.row hk
  exact ⟨g, c, e⟩
theorem Rel.le8 {fs : Files} {B : List Int} {L : List Nd} {u : Nat} (h : Rel fs B L u) : fs.length ≤ 8 := by
  rw [h.length, ← h.2.1.len]; exact List.length_filter_le _ _
theorem rel_start {F : List Int} (hF : F.length = 8192) : Rel [] (formatF F) (List.replicate 8 Nd.free) 0 := by
  have ht := format_tab F hF
  refine ⟨by rw [formatF, layF_length, layF_length, hF], ht, ?_⟩
  have h1 := format_files F hF
  rw [filesR_tab' ht] at h1
  injection h1 with h1
  rw [h1]
theorem same_file {fs : Files} {B : List Int} {L : List Nd} {u : Nat} (h : Rel fs B L u) (i : Nat) (hi : i < (filesL B L).length) : ∃ k : Nat, ∃ hk : k < fs.length, placeF fs (filesL B L)[i].1 = k ∧ fs[k] = (filesL B L)[i] := by
  have hm : (filesL B L)[i] ∈ fs := h.2.2.mem_iff.2 (List.getElem_mem hi)
  obtain ⟨m, hm, e⟩ := List.mem_iff_getElem.1 hm
  rcases placeF_spec fs (filesL B L)[i].1 with ⟨-, h2⟩ | ⟨k, hk, h1, h2⟩
  · exact absurd (congrArg Prod.fst e) (h2 _ (List.getElem_mem hm))
  · refine ⟨k, hk, h1, ?_⟩
    have h5 : (fs.map Prod.fst)[k]'(by simpa using hk) = (fs.map Prod.fst)[m]'(by simpa using hm) := by
      rw [List.getElem_map, List.getElem_map, h2, e]
    obtain rfl := (List.getElem_inj h.names).1 h5
    exact e
theorem placeF_nat (fs : Files) (s : ByteArray) : placeF fs s = -1 ∨ ∃ k : Nat, placeF fs s = k ∧ k < fs.length := by
  rcases placeF_spec fs s with ⟨h, -⟩ | ⟨k, hk, h, -⟩
  · exact .inl h
  · exact .inr ⟨k, h, hk⟩

set_option maxHeartbeats 4000000 in
set_option maxRecDepth 1000000 in
theorem fsMap_calls (v : Value) (L : List ActF) (w : World) (hlen : L.length ≤ 9223372036854775807) (hv : Sl w v L.length (L.flatMap actFCell)) (hok : ∀ y ∈ L, actFOk w y) :
    Calls Try.prog 4 #[v] w fun e w' => e = .returned (.bool true) ∧ Fr No w w' := by
  obtain ⟨av, cap, rfl⟩ := hv.form
  have HFl := Lib.hid (fun w1 => flat_calls (.slice none 0 0) [] w1 (by simp) (Sl.nil w1))
  have C3 := Lib.hid (fun w1 (h : Fr No w w1) => few12_calls (.slice none 0 0) _ [] L w1 hlen (Sl.nil w1) (hv.fr0 h))
  have HFF := Lib.hid (flatF_length [])
  have HV := Lib.hid hv
  have HOK := Lib.hid hok
  have HLEN := Lib.hid hlen
  clear hv hok
  generalize flatF [] = F at *
  go_enter Try.func4, Try.ntmps4
  go_wp2_with fail
  refine (awake12_calls _).mono ?_
  rintro e w1 ⟨rfl, hF1⟩
  go_wp2_with fail
  refine (C3.out _ hF1).mono ?_
  rintro e wf ⟨bf, rfl, hFf⟩
  have hF01 := hF1.trans hFf
  cases bf
  · go_wp2
    go_ret
    exact ⟨rfl, hF01⟩
  go_wp2_with fail
  refine (HFl.out _).mono ?_
  rintro e w2 ⟨mb, A2, rfl, hM2, hF2, hA2⟩
  have hF02 := hF01.trans hF2
  go_wp2_with fail
  refine (fformat_calls hM2).mono ?_
  rintro e w3 ⟨A3, rfl, hp3⟩
  obtain ⟨hF03, hA3⟩ := hp3.step hF02 (fun j hj => Nat.le_trans hF01.size (hA2 j hj))
  have HS := Lib.hid (⟨hp3.1, hF03, hA3, World.ownsRow_nil _ _ _ _, (fun k e => by cases e), .nil⟩ : FmV w mb F (.slice none 0 0) w3 [] [] A3 (formatF F))
  have HRS := Lib.hid (rel_start HFF.out)
  clear hM2 hA2 hp3 hF03 hA3 hF02 hF2 hF01 hFf hF1 C3 HFl
  generalize formatF F = B0 at *
  go_wp2_with fail
  go_loopw [4, 35] (fun fv i wr => ∃ (j : Nat) (fs : Files) (vs : List (ByteArray × Value)) (A : Nat → Prop) (B : List Int) (L' : List Nd) (u : Nat), j ≤ L.length ∧ i = .int .i64 j ∧ FmV w mb F fv wr fs vs A B ∧ Rel fs B L' u) (fun _ i _ => L.length - (intOf i).toNat)
  case atStart => exact ⟨0, [], [], A3, B0, _, _, Nat.zero_le _, rfl, HS.out, HRS.out⟩
  case round =>
    obtain ⟨j, fs, vs, A, B, L', u, hj, rfl, hM, hR⟩ := hrel
    obtain ⟨af, cf, rfl⟩ := hM.sl.form
    have hf8 := hR.le8
    by_cases hlt : j < L.length
    · have g0 := flat_get12 actFCell 7 (fun _ => rfl) L j 0 hlt (by omega)
      have g1 := flat_get12 actFCell 7 (fun _ => rfl) L j 1 hlt (by omega)
      have g2 := flat_get12 actFCell 7 (fun _ => rfl) L j 2 hlt (by omega)
      have g3 := flat_get12 actFCell 7 (fun _ => rfl) L j 3 hlt (by omega)
      have g4 := flat_get12 actFCell 7 (fun _ => rfl) L j 4 hlt (by omega)
      have g5 := flat_get12 actFCell 7 (fun _ => rfl) L j 5 hlt (by omega)
      have g6 := flat_get12 actFCell 7 (fun _ => rfl) L j 6 hlt (by omega)
      have hyk := HOK.out _ (List.getElem_mem hlt)
      revert g0 g1 g2 g3 g4 g5 g6 hyk
      generalize L[j] = y
      obtain ⟨d, s, t, nd, a, n, au, lu, cu⟩ := y
      intro g0 g1 g2 g3 g4 g5 g6 hyk
      simp only [actFCell, List.getElem?_cons_zero, List.getElem?_cons_succ] at g0 g1 g2 g3 g4 g5 g6
      obtain ⟨k1, k2, k3, k4, k5, k6, xs, hsl, hx1, hx2⟩ := hyk
      dsimp only at k1 k2 k3 k4 k5 k6 hsl
      obtain ⟨b, off, rfl, hb, hc⟩ := HV.out.at (by intro e; rw [e] at g0; simp at g0)
      have c0 := hM.fr.cell (hc _ _ g0) (fun h => h)
      have c1 := hM.fr.cell (hc _ _ g1) (fun h => h)
      have c2 := hM.fr.cell (hc _ _ g2) (fun h => h)
      have c3 := hM.fr.cell (hc _ _ g3) (fun h => h)
      have c4 := hM.fr.cell (hc _ _ g4) (fun h => h)
      have c5 := hM.fr.cell (hc _ _ g5) (fun h => h)
      have c6 := hM.fr.cell (hc _ _ g6) (fun h => h)
      simp only [← Nat.add_assoc, Nat.add_zero] at c0 c1 c2 c3 c4 c5 c6
      obtain ⟨_, _, e6, hsl'⟩ := id hsl
      cases e6
      have hFa : Fr No wr (wr.alloc (Obj.cells #[.int .i64 d, .string s, .string t, .int .i64 nd, .int .i64 a, .int .i64 n, .slice au xs.length cu] 41)) := (Fr.refl _ _).alloc _
      have hb0 := heap_new wr (Obj.cells #[.int .i64 d, .string s, .string t, .int .i64 nd, .int .i64 a, .int .i64 n, .slice au xs.length cu] 41)
      have HM := Lib.hid (hM.fr0 hFa)
      have HNA : RowKit.Hid (¬ A wr.heap.size) := Lib.hid (fun h => Nat.lt_irrefl _ (hM.mem.low _ h))
      have HSL := Lib.hid hsl
      have HX2 := Lib.hid hx2
      have HXB : RowKit.Hid (xs.length ≤ 140737488351232) := Lib.hid hx1
      have HK2 : RowKit.Hid (s.size ≤ 140737488355328) := Lib.hid (Nat.le_trans k2 (by decide))
      have HR := Lib.hid hR
      have HB0 := Lib.hid hb0
      clear hc g0 g1 g2 g3 g4 g5 g6 hM hsl hsl' hx1 hx2 k1 k2 k3 k4 k5 k6 hR hb0 hFa HV HOK
      have hLEN := HLEN.out
      go_wp2_with fail
      generalize wr.alloc _ = W at *
      have hpc := placeF_nat fs s
      have hfind := lfindF_calls _ fs vs s W A (by omega) HM.out.sl HM.out.files HR.out.names
      obtain ⟨p, hp⟩ : ∃ p, placeF fs s = p := ⟨_, rfl⟩
      rw [hp] at hpc hfind
      have HP := Lib.hid hp
      clear hp
      refine hfind.mono ?_
      rintro e w1 ⟨rfl, hF1⟩
      have HM1 := Lib.hid (HM.out.fr0 hF1)
      have HB1 := Lib.hid (hF1.heap HB0.out (fun h => h))
      have d0 := heap_cell (o := 0) HB1.out rfl
      have d1 := heap_cell (o := 1) HB1.out rfl
      have HBS := Lib.hid (HM1.out.fr.size)
      clear c0 c1 c2 c3 c4 c5 c6 hF1 HM HB0 hfind
      by_cases hd0 : d = 0
      · subst hd0
        go_wp2_with fail
        refine (rname_calls s _ HK2.out).mono ?_
        rintro e w2 ⟨rfl, rfl⟩
        obtain ⟨m1, m2, m3, m4⟩ := map_create HR.out s
        rw [HP.out] at m2 m3 m4
        have HCR := Lib.hid (fun (w' : World) (A' : Nat → Prop) (h : MemAt w' mb A' F B) => fcreate_calls h s HK2.out)
        cases hn : nameF s
        · have m := m1 hn
          rw [m] at HCR
          clear m1 m2 m3 m4 m hn hpc
          go_wp2_with fail
          refine (HCR.out _ _ HM1.out.mem).mono ?_
          rintro e w2 ⟨A2, rfl, hp2⟩
          have HM2 := Lib.hid (HM1.out.mp hp2)
          clear hp2
          go_wp2
          go_roundw
          case rel => exact ⟨j + 1, fs, vs, A2, B, L', u, by omega, by go_num, HM2.out, HR.out⟩
          case measure => simp [intOf]; omega
        · rcases hpc with rfl | ⟨k, rfl, hk⟩
          · by_cases h8 : fs.length = 8
            · have m := m3 hn rfl h8
              rw [m] at HCR
              have q8 : ((fs.length : Int) == 8) = true := by simp [h8]
              clear m1 m2 m3 m4 m hn h8
              go_wp2_with fail
              refine (HCR.out _ _ HM1.out.mem).mono ?_
              rintro e w2 ⟨A2, rfl, hp2⟩
              have HM2 := Lib.hid (HM1.out.mp hp2)
              clear hp2
              go_wp2
              go_roundw
              case rel => exact ⟨j + 1, fs, vs, A2, B, L', u, by omega, by go_num, HM2.out, HR.out⟩
              case measure => simp [intOf]; omega
            · obtain ⟨me, L2, mR⟩ := m4 hn rfl h8
              have q8 : ((fs.length : Int) == 8) = false := by simp; omega
              generalize createR B s = q at *
              obtain ⟨B', nn, e⟩ := q
              dsimp only at me mR HCR
              subst me
              have HMR := Lib.hid mR
              clear m1 m2 m3 m4 hn h8 mR
              go_wp2_with (at_builtin; refine append_lie el_file rfl _ _ rfl w.heap.size (.slice af fs.length cf) fs.length (fileCells vs) rfl (HM1.out.row.alloc _) rfl (sl_two _ _ _ _) rfl (by simp [Value.oneCell']) (by unfold maxLen; omega) (by omega) (by have := HBS.out; simp; omega) ?_; intro v4 w4 hown4 hgrow4 hlie4; have hb9 := heap_alloc (Obj.cells #[.string s, .slice none 0 0] 45) HB1.out; have hb4 := (hgrow4.block _ (heap_lt hb9) (not_row hb9 (by decide) (HM1.out.row.alloc _))).trans hb9; have e1 : w4.cell? ⟨wr.heap.size, 1, none⟩ = some (.string s) := heap_cell (o := 1) hb4 rfl)
              have HM4 := Lib.hid (HM1.out.app hgrow4 hown4 hlie4)
              clear hown4 hgrow4 hlie4 d0 d1 hb9 hb4 e1
              refine (HCR.out _ _ HM4.out.mem).mono ?_
              rintro e w2 ⟨A2, rfl, hp2⟩
              have HM2 := Lib.hid (HM4.out.mp hp2)
              clear hp2
              go_wp2
              go_roundw
              case rel => exact ⟨j + 1, _, _, A2, B', L2, u, by omega, by go_num, HM2.out, HMR.out⟩
              case measure => simp [intOf]; omega
          · have m := m2 hn (by omega)
            rw [m] at HCR
            clear m1 m2 m3 m4 m hn
            go_wp2_with fail
            refine (HCR.out _ _ HM1.out.mem).mono ?_
            rintro e w2 ⟨A2, rfl, hp2⟩
            have HM2 := Lib.hid (HM1.out.mp hp2)
            clear hp2
            go_wp2
            go_roundw
            case rel => exact ⟨j + 1, fs, vs, A2, B, L', u, by omega, by go_num, HM2.out, HR.out⟩
            case measure => simp [intOf]; omega
      · have q0 : (d == 0) = false := by simp [hd0]
        by_cases hd1 : d = 1
        · subst hd1
          clear hd0 q0
          obtain ⟨m1, m2⟩ := map_delete HR.out s
          rw [HP.out] at m1 m2
          have HDE := Lib.hid (fun (w' : World) (A' : Nat → Prop) (h : MemAt w' mb A' F B) => fdelete_calls h s HK2.out)
          rcases hpc with rfl | ⟨k, rfl, hk⟩
          · obtain ⟨me, mn⟩ := m1 rfl
            generalize deleteR B s = q at *
            obtain ⟨B', e⟩ := q
            dsimp only at me mn HDE
            subst me
            have qe : (e == 0) = false := by simp [mn]
            clear m1 m2 mn
            go_wp2_with fail
            refine (HDE.out _ _ HM1.out.mem).mono ?_
            rintro e2 w2 ⟨A2, rfl, hp2⟩
            have HM2 := Lib.hid (HM1.out.mp hp2)
            clear hp2
            go_wp2
            go_roundw
            case rel => exact ⟨j + 1, fs, vs, A2, _, L', u, by omega, by go_num, HM2.out, HR.out⟩
            case measure => simp [intOf]; omega
          · obtain ⟨me, L2, u2, mR⟩ := m2 k rfl
            generalize deleteR B s = q at *
            obtain ⟨B', e⟩ := q
            dsimp only at me mR HDE
            subst me
            have HMR := Lib.hid mR
            have HKL := Lib.hid hk
            clear m1 m2 mR
            obtain ⟨g, c, e1⟩ := HM1.out.slice (by omega)
            cases e1
            go_wp2_with fail
            refine (HDE.out _ _ HM1.out.mem).mono ?_
            rintro e2 w2 ⟨A2, rfl, hp2⟩
            have HM2 := Lib.hid (HM1.out.mp hp2)
            clear hp2
            go_upto_region 32 with fail
            have hk2 := HKL.out
            have hcf : fs.length ≤ cf := by
              obtain ⟨_, _, e, ⟨-, h⟩, -⟩ := HM2.out.sl; cases e; exact h
            have hkc : k ≤ cf := by omega
            obtain ⟨kk, hkk⟩ : ∃ kk : Nat, k + 1 = kk := ⟨_, rfl⟩
            have hw : IntKind.i64.wrap ((k : Int) + 1) = (kk : Int) := by rw [← hkk]; exact IntWalk.i64_in _ (by omega)
            have hk3 : kk ≤ fs.length := by omega
            have HKK := Lib.hid hkk
            have HS1 := Lib.hid (HM2.out.sl.take (k := k) (by omega) 2)
            have HS2 := Lib.hid (HM2.out.sl.drop (k := kk) hk3 (size := 2) (by rw [fileCells_len, ← HM2.out.files.len, Nat.mul_comm]))
            have had : (if cf = kk then some (⟨g, 0, none⟩ : Addr) else (some (⟨g, 0, none⟩ : Addr)).map (·.add (kk * 2))) = (if cf = kk then some ⟨g, 0, none⟩ else some ⟨g, kk * 2, none⟩) := by
              split
              · rfl
              · simp [Addr.add]; omega
            rw [had] at HS2
            have HC1 := Lib.hid (fileCells_one HM2.out.files)
            have hvl := HM2.out.files.len
            have hL1 : ((fileCells vs).take (k * 2)).length = k * 2 := by rw [List.length_take, fileCells_len]; omega
            have hL2 : ((fileCells vs).drop (kk * 2)).length = (fs.length - kk) * 2 := by rw [List.length_drop, fileCells_len]; omega
            have HE := Lib.hid (fileCells_erase vs k (by omega))
            have HL1 := Lib.hid hL1
            have HL2 := Lib.hid hL2
            clear hkk hvl hL1 hL2 had hk2
            have hws := HM2.out.fr.size
            refine wp_region_held_drew (S := (fun w' => True)) (by kernel_rfl) trivial (fun hS0 => ?_)
            refine take_at (i := 0) (d := some 88) (v := ?_) rfl rfl (by kernel_rfl) (by kernel_rfl) (by kernel_rfl) (fun _ _ _ h => h) (Or.inl ⟨by rfl, ?_⟩) (by assumption) ?_
            rotate_left
            · intro w hSw; go_simp; try (with_reducible rfl)
            try simp only [Act.put, List.setIfInBounds_toArray, List.set_cons_zero, List.set_cons_succ]
            refine take_at (i := 1) (d := some 89) (v := ?_) rfl rfl (by kernel_rfl) (by kernel_rfl) (by kernel_rfl) (fun _ _ _ h => h) (Or.inl ⟨by rfl, ?_⟩) (by assumption) ?_
            rotate_left
            · intro w hSw; go_simp; try (with_reducible rfl)
            try simp only [Act.put, List.setIfInBounds_toArray, List.set_cons_zero, List.set_cons_succ]
            refine take_at (i := 2) (d := some 90) (v := ?_) rfl rfl (by kernel_rfl) (by kernel_rfl) (by kernel_rfl) (fun _ _ _ h => h) (Or.inl ⟨by rfl, ?_⟩) (by assumption) ?_
            rotate_left
            · intro w hSw; go_simp; try (with_reducible rfl)
            try simp only [Act.put, List.setIfInBounds_toArray, List.set_cons_zero, List.set_cons_succ]
            refine take_at (i := 4) (d := some 92) (v := ?_) rfl rfl (by kernel_rfl) (by kernel_rfl) (by kernel_rfl) (fun _ _ _ h => h) (Or.inl ⟨by rfl, ?_⟩) (by assumption) ?_
            rotate_left
            · intro w hSw; go_simp; try (with_reducible rfl)
            try simp only [Act.put, List.setIfInBounds_toArray, List.set_cons_zero, List.set_cons_succ]
            refine take_at (i := 5) (d := some 93) (v := ?_) rfl rfl (by kernel_rfl) (by kernel_rfl) (by kernel_rfl) (fun _ _ _ h => h) (Or.inl ⟨by rfl, ?_⟩) (by assumption) ?_
            rotate_left
            · intro w hSw; go_simp; try (with_reducible rfl)
            try simp only [Act.put, List.setIfInBounds_toArray, List.set_cons_zero, List.set_cons_succ]
            refine take_at (i := 6) (d := some 94) (v := ?_) rfl rfl (by kernel_rfl) (by kernel_rfl) (by kernel_rfl) (fun _ _ _ h => h) (Or.inl ⟨by rfl, ?_⟩) (by assumption) ?_
            rotate_left
            · intro w hSw; go_simp; try (with_reducible rfl)
            try simp only [Act.put, List.setIfInBounds_toArray, List.set_cons_zero, List.set_cons_succ]
            refine take_at (i := 7) (d := some 95) (v := ?_) rfl rfl (by kernel_rfl) (by kernel_rfl) (by kernel_rfl) (fun _ _ _ h => h) (Or.inl ⟨by rfl, ?_⟩) (by assumption) ?_
            rotate_left
            · intro w hSw; go_simp; try (with_reducible rfl)
            try simp only [Act.put, List.setIfInBounds_toArray, List.set_cons_zero, List.set_cons_succ]
            refine wpAnyH_ready (rs := [3]) (by kernel_rfl) (by simp) ?_
            refine AllReadyH.cons rfl (fun K hK => ?_) AllReadyH.nil
            refine step_append_sl el_file rfl _ _ rfl w.heap.size (.slice none 0 0) 0 [] rfl (World.ownsRow_nil _ _ _ _) rfl (HS1.out.fr0 (Fr.refl _ _).drew) HL1.out (fun u hu => HC1.out u (List.mem_of_mem_take hu)) (by unfold maxLen; omega) (by omega) (by simp; omega) ?_
            intro a3 n3 c3 w3 hown3 hgrow3 hlie3
            rw [Nat.zero_add, List.nil_append] at hown3
            have hF3 : Fr No w2 w3 := ((Fr.refl No w2).drew).trans ((Fr.refl _ _).grown hgrow3 (fun k e _ => by cases e))
            have HO3 := Lib.hid hown3
            have HF3 := Lib.hid hF3
            have HLI3 : RowKit.Hid (∀ j, (Value.slice a3 n3 c3).ownBlock = some j → w2.heap.size ≤ j) := Lib.hid (fun j e => by
              rcases hlie3 with h | h
              · rw [h] at e; cases e
              · rw [h] at e; cases e; simp)
            clear hown3 hgrow3 hlie3 hF3
            refine hK.out _ _ trivial (fun hHeld => ?_)
            clear hK K
            try simp only [Act.put, List.setIfInBounds_toArray, List.set_cons_zero, List.set_cons_succ]
            refine wpAnyH_ready (rs := [8]) (by kernel_rfl) (by simp) ?_
            refine AllReadyH.cons rfl (fun K hK => ?_) AllReadyH.nil
            refine step_append_sl el_file rfl _ _ rfl w.heap.size (.slice a3 n3 c3) k _ rfl HO3.out rfl (HS2.out.fr0 HF3.out) HL2.out (fun u hu => HC1.out u (List.mem_of_mem_drop hu)) (by unfold maxLen; omega) (by omega) (Nat.le_trans hws HF3.out.size) ?_
            intro a4 n4 c4 w4 hown4 hgrow4 hlie4
            have hF4 : Fr No w2 w4 := HF3.out.trans' ((Fr.refl _ _).grown hgrow4 (fun k e _ => e)) (fun i hi e => by have := HLI3.out i e; omega)
            have HM4 : RowKit.Hid (FmV w mb F (.slice a4 n4 c4) w4 (fs.eraseIdx k) (vs.eraseIdx k) A2 B') := Lib.hid (by
              have h0 := HM2.out.fr0 hF4
              refine ⟨h0.mem, h0.fr, h0.low, ?_, fun j e hA => ?_, All2.erase h0.files k⟩
              · rw [← HKK.out, HE.out] at hown4
                rw [List.length_eraseIdx, if_pos HKL.out]
                rw [show fs.length - 1 = k + (fs.length - (k + 1)) by have := HKL.out; omega]
                exact hown4
              · have hl := HM2.out.mem.low j hA
                rcases hlie4 with h | h
                · rw [h] at e; have := HLI3.out j e; omega
                · rw [h] at e; cases e; have := HF3.out.size; omega)
            clear hown4 hgrow4 hlie4 hF4
            refine hK.out _ _ trivial (fun hHeld => ?_)
            clear hK K
            try simp only [Act.put, List.setIfInBounds_toArray, List.set_cons_zero, List.set_cons_succ]
            refine take_at (i := 9) (d := some 4) (v := ?_) rfl rfl (by kernel_rfl) (by kernel_rfl) (by kernel_rfl) (fun _ _ _ h => h) (Or.inl ⟨by rfl, ?_⟩) (by assumption) ?_
            rotate_left
            · intro w hSw; go_simp; try (with_reducible rfl)
            try simp only [Act.put, List.setIfInBounds_toArray, List.set_cons_zero, List.set_cons_succ]
            refine wpAnyH_done (by kernel_rfl) ?_ _
            go_wp2
            go_roundw
            case rel => exact ⟨j + 1, _, _, A2, B', L2, u2, by omega, by go_num, HM4.out, HMR.out⟩
            case measure => simp [intOf]; omega
        · have q1 : (d == 1) = false := by simp [hd1]
          by_cases hd4 : d = 4
          · subst hd4
            clear hd0 hd1 q0 q1
            obtain ⟨m1, m2⟩ := map_find HR.out s
            rw [HP.out] at m1 m2
            have HFI := Lib.hid (fun (w' : World) (A' : Nat → Prop) (h : MemAt w' mb A' F B) => ffind_calls h s HK2.out)
            rcases hpc with rfl | ⟨k, rfl, hk⟩
            · have me := m1 rfl
              generalize findR B s = q at *
              obtain ⟨nn, e⟩ := q
              dsimp only at me HFI
              have qe : (e == 0) = false := by simp [me]
              clear m1 m2 me
              go_wp2_with fail
              refine (HFI.out _ _ HM1.out.mem).mono ?_
              rintro e2 w2 ⟨A2, rfl, hp2⟩
              have HM2 := Lib.hid (HM1.out.mp hp2)
              clear hp2
              go_wp2
              go_roundw
              case rel => exact ⟨j + 1, fs, vs, A2, _, L', u, by omega, by go_num, HM2.out, HR.out⟩
              case measure => simp [intOf]; omega
            · obtain ⟨hkl, nn, hnn, me, mn, mf, ms⟩ := m2 k rfl
              rw [me] at HFI
              have HKL := Lib.hid hk
              obtain ⟨ol, hol⟩ : ∃ ol, fs[k].2 = ol := ⟨_, rfl⟩
              have HWR := Lib.hid (map_write2 HR.out hkl hnn mn mf xs ms hol)
              have hsm := HR.out.small2 hkl hol
              have HMS := Lib.hid ms
              have HOL := Lib.hid hol
              have HN8 : RowKit.Hid (nn < 8) := Lib.hid (by rw [← HR.out.2.1.len]; exact hnn)
              clear m1 m2 me mn mf ms hnn hol
              obtain ⟨g, c, e1⟩ := HM1.out.slice (by omega)
              cases e1
              go_wp2_with fail
              refine (HFI.out _ _ HM1.out.mem).mono ?_
              rintro e2 w2 ⟨A2, rfl, hp2⟩
              have HM2 := Lib.hid (HM1.out.mp hp2)
              have HB2 := Lib.hid (hp2.2.1.heap HB1.out (fun h => HNA.out h))
              obtain ⟨ao, co, x1, x2, x3, x4⟩ := HM2.out.cells2 k hkl HOL.out
              have HX3 := Lib.hid x3
              have HX4 := Lib.hid x4
              clear hp2 d0 d1
              clear x2 x3 x4
              go_upto_region 39 with fail
              have e6 : w2.drew.cell? ⟨wr.heap.size, 6, none⟩ = some (.slice au xs.length cu) := heap_cell (o := 6) HB2.out rfl
              have hxb := HXB.out
              have hws := HM2.out.fr.size
              refine wp_region_held_drew (S := (fun w' => w'.cell? ⟨wr.heap.size, 6, none⟩ = some (.slice au xs.length cu))) (by kernel_rfl) e6 (fun hS0 => ?_)
              refine take_at (i := 0) (d := some 118) (v := ?_) rfl rfl (by kernel_rfl) (by kernel_rfl) (by kernel_rfl) (fun _ _ _ h => h) (Or.inl ⟨by rfl, ?_⟩) (by assumption) ?_
              rotate_left
              · intro w hSw; go_simp; try (with_reducible rfl)
              try simp only [Act.put, List.setIfInBounds_toArray, List.set_cons_zero, List.set_cons_succ]
              refine take_at (i := 2) (d := some 120) (v := ?_) rfl rfl (by kernel_rfl) (by kernel_rfl) (by kernel_rfl) (fun _ _ _ h => h) (Or.inl ⟨by rfl, ?_⟩) (by assumption) ?_
              rotate_left
              · intro w hSw; go_simp; try (with_reducible rfl)
              try simp only [Act.put, List.setIfInBounds_toArray, List.set_cons_zero, List.set_cons_succ]
              refine take_at (i := 3) (d := some 121) (v := ?_) rfl rfl (by kernel_rfl) (by kernel_rfl) (by kernel_rfl) (fun _ _ _ h => h) (Or.inl ⟨by rfl, ?_⟩) (by assumption) ?_
              rotate_left
              · intro w hSw; go_simp; try (with_reducible rfl)
              try simp only [Act.put, List.setIfInBounds_toArray, List.set_cons_zero, List.set_cons_succ]
              refine wpAnyH_ready (rs := [1]) (by kernel_rfl) (by simp) ?_
              refine AllReadyH.cons rfl (fun K hK => ?_) AllReadyH.nil
              refine step_append_sl el_u8 rfl _ _ rfl w.heap.size (.slice none 0 0) 0 [] rfl (World.ownsRow_nil _ _ _ _) rfl ((Sl.of_owns HX3.out).fr0 (Fr.refl _ _).drew) (by rw [bys_len, Nat.mul_one]) (bys_one _) (by unfold maxLen; omega) (by omega) (by simp; omega) ?_
              intro a3 n3 c3 w3 hown3 hgrow3 hlie3
              rw [Nat.zero_add, List.nil_append] at hown3
              have hF3 : Fr No w2 w3 := ((Fr.refl No w2).drew).trans ((Fr.refl _ _).grown hgrow3 (fun k e _ => by cases e))
              have HO3 := Lib.hid hown3
              have HF3 := Lib.hid hF3
              have HLI3 : RowKit.Hid (∀ j, (Value.slice a3 n3 c3).ownBlock = some j → w2.heap.size ≤ j) := Lib.hid (fun j e => by
                rcases hlie3 with h | h
                · rw [h] at e; cases e
                · rw [h] at e; cases e; simp)
              have e63 := hF3.cell (heap_cell (o := 6) HB2.out rfl) (fun h => h)
              clear hown3 hgrow3 hlie3 hF3
              refine hK.out _ _ e63 (fun hHeld => ?_)
              clear hK K
              try simp only [Act.put, List.setIfInBounds_toArray, List.set_cons_zero, List.set_cons_succ]
              refine wpAnyH_ready (rs := [4]) (by kernel_rfl) (by simp) ?_
              refine AllReadyH.cons rfl (fun K hK => ?_) AllReadyH.nil
              refine step_append_sl el_u8 rfl _ _ rfl w.heap.size (.slice a3 n3 c3) ol.length _ rfl HO3.out rfl (HSL.out.fr0 (HM2.out.fr.trans HF3.out)) (by rw [bys_len, Nat.mul_one]) (bys_one _) (by unfold maxLen; omega) (by omega) (Nat.le_trans hws HF3.out.size) ?_
              intro a4 n4 c4 w4 hown4 hgrow4 hlie4
              have hF34 : Fr (fun k => (Value.slice a3 n3 c3).ownBlock = some k) w3 w4 := (Fr.refl _ _).grown hgrow4 (fun k e _ => e)
              have hF4 : Fr No w2 w4 := HF3.out.trans' hF34 (fun i hi e => by have := HLI3.out i e; omega)
              have HLI4 : RowKit.Hid (∀ j, (Value.slice a4 n4 c4).ownBlock = some j → ¬ A2 j) := Lib.hid (fun j e hA => by
                have hl := HM2.out.mem.low j hA
                rcases hlie4 with h | h
                · rw [h] at e; have := HLI3.out j e; omega
                · rw [h] at e; cases e; have := HF3.out.size; omega)
              have HO4 : RowKit.Hid (w4.ownsRow 0 5 1 (.slice a4 n4 c4) (ol ++ xs).length (bys (ol ++ xs))) := Lib.hid (by rw [← bys_app] at hown4; rw [List.length_append]; exact ownsRow_base hown4 (Nat.zero_le _))
              have HM4 := Lib.hid (HM2.out.fr0 hF4)
              have HF4 := Lib.hid hF4
              have e64 := hF4.cell (heap_cell (o := 6) HB2.out rfl) (fun h => h)
              obtain ⟨_, _, y1, y2, -, -⟩ := HM4.out.cells2 k hkl HOL.out
              have HM5 := Lib.hid (HM4.out.put2 k hkl HMS.out _ _ HO4.out HLI4.out)
              have hb5 := (hF4.heap HB2.out (fun h => h))
              clear hown4 hgrow4 hlie4 hF34 hF4 HO3 HLI3 e63 e6 x1
              refine hK.out _ _ e64 (fun hHeld => ?_)
              clear hK K
              try simp only [Act.put, List.setIfInBounds_toArray, List.set_cons_zero, List.set_cons_succ]
              refine take_at (i := 5) (d := some 15) (v := ?_) rfl rfl (by kernel_rfl) (by kernel_rfl) (by kernel_rfl) (fun _ _ _ h => h) (Or.inl ⟨by rfl, ?_⟩) (by assumption) ?_
              rotate_left
              · intro w hSw; go_simp; try (with_reducible rfl)
              try simp only [Act.put, List.setIfInBounds_toArray, List.set_cons_zero, List.set_cons_succ]
              refine wpAnyH_done (by kernel_rfl) ?_ _
              obtain ⟨x, hx⟩ : ∃ x, sumF (fs.set k (s, ol ++ xs)) = x := ⟨_, rfl⟩
              have HBL : RowKit.Hid (∀ w', FmV w mb F (.slice (some ⟨g, 0, none⟩) fs.length cf) w' (fs.set k (s, ol ++ xs)) (vs.set k (s, .slice a4 n4 c4)) A2 B → Calls Try.prog 23 #[.slice (some ⟨g, 0, none⟩) fs.length cf] w' fun e w2 => e = .returned (.int .i64 x) ∧ Fr No w' w2) := Lib.hid (fun w' h => by
                have h1 := lblocks_calls (.slice (some ⟨g, 0, none⟩) fs.length cf) (fs.set k (s, ol ++ xs)) (vs.set k (s, .slice a4 n4 c4)) w' A2 (by rw [List.length_set]; omega) h.sl h.files (fun f hf => by
                  rcases List.mem_or_eq_of_mem_set hf with h | h
                  · have := HR.out.small f h; omega
                  · rw [h, List.length_append]; omega)
                rw [hx] at h1; exact h1)
              have hxw := HWR.out
              rw [hx] at hxw
              have HWW := Lib.hid (fun (w' : World) (h : FmV w mb F (.slice (some ⟨g, 0, none⟩) fs.length cf) w' fs vs A2 B ∨ FmV w mb F (.slice (some ⟨g, 0, none⟩) fs.length cf) w' (fs.set k (s, ol ++ xs)) (vs.set k (s, .slice a4 n4 c4)) A2 B ∨ ∃ vs', FmV w mb F (.slice (some ⟨g, 0, none⟩) fs.length cf) w' fs vs' A2 B) => (by
                have hm : MemAt w' mb A2 F B ∧ Fr No w w' ∧ ∀ k, A2 k → w.heap.size ≤ k := by
                  rcases h with h | h | ⟨_, h⟩ <;> exact ⟨h.mem, h.fr, h.low⟩
                exact fwrite_calls hm.1 nn ol.length (.slice au xs.length cu) xs (by omega) (HSL.out.fr0 hm.2.1) (fun k e hne hA => by
                  have h1 := HSL.out.lt e (fun e2 => hne (by simpa [bys] using e2))
                  have := hm.2.2 k hA; omega) HX2.out (by omega) :
                Calls Try.prog 24 #[.pointer (some ⟨mb, 0, none⟩), .int .i64 nn, .int .i64 ol.length, .slice au xs.length cu] w' (FsP w' mb A2 F (writeR B nn ol.length xs).1 (.int .i64 (writeR B nn ol.length xs).2))))
              have HXX := Lib.hid hx
              clear hx
              have hne : wr.heap.size ≠ g := fun e => by
                have := HM4.out.row
                subst e
                exact not_row hb5 (by decide) this rfl
              have hb5' : (w4.setCell ⟨g, k * 2 + 1, none⟩ (.slice a4 n4 c4)).heap[wr.heap.size]? = _ := heap_set_other _ hb5 hne
              have HNE := Lib.hid hne
              have HB5 := Lib.hid hb5'
              clear hb5 hb5' e64 hne
              go_wp2_with fail
              generalize hW5 : w4.setCell _ _ = W5 at *
              refine (HBL.out _ HM5.out).mono ?_
              rintro e3 w6 ⟨rfl, hF6⟩
              have HM6 := Lib.hid (HM5.out.fr0 hF6)
              have hb6 := hF6.heap HB5.out (fun h => h)
              have e66 := heap_cell (o := 6) hb6 rfl
              by_cases hfit : x ≤ 23
              · obtain ⟨me, L2, u2, mR⟩ := hxw.1 hfit
                generalize writeR B nn ol.length xs = q at *
                obtain ⟨B', e⟩ := q
                dsimp only at me mR HWW
                subst me
                have HMR := Lib.hid mR
                have dfit : decide ((x : Int) ≤ 23) = true := decide_eq_true (by omega)
                clear mR hxw hb6
                go_wp2_with fail
                refine (HWW.out _ (.inr (.inl HM6.out))).mono ?_
                rintro e4 w7 ⟨A7, rfl, hp7⟩
                have HM7 := Lib.hid (HM6.out.mp hp7)
                clear hp7
                go_wp2
                go_roundw
                case rel => exact ⟨j + 1, _, _, A7, B', L2, u2, by omega, by go_num, HM7.out, HMR.out⟩
                case measure => simp [intOf]; omega
              · have me := hxw.2 hfit
                rw [me] at HWW
                have hol6 : w6.ownsRow 0 5 1 (.slice ao ol.length co) ol.length (bys ol) := by
                  have h4 := ownsRow_fr HX3.out HF4.out (fun _ _ h => h)
                  refine ownsRow_fr (ownsRow_fr h4 (S := fun j => (Value.slice (some ⟨g, 0, none⟩) fs.length cf).ownBlock = some j) ?_ (fun j e e' => rows_apart HM4.out.row h4 (by decide) j e' e)) hF6 (fun _ _ h => h)
                  rw [← hW5]
                  exact Fr.setCell (S := fun j => (Value.slice (some ⟨g, 0, none⟩) fs.length cf).ownBlock = some j) (Fr.refl _ _) (p := ⟨g, k * 2 + 1, none⟩) (fun _ => rfl) _
                have hkl6 : k < (fs.set k (s, ol ++ xs)).length := by rw [List.length_set]; exact hkl
                obtain ⟨_, _, z1, z2, -, -⟩ := (show FmV w mb F (.slice (some ⟨g, 0, none⟩) (fs.set k (s, ol ++ xs)).length cf) w6 (fs.set k (s, ol ++ xs)) (vs.set k (s, .slice a4 n4 c4)) A2 B by rw [List.length_set]; exact HM6.out).cells k hkl6
                have hback := (show FmV w mb F (.slice (some ⟨g, 0, none⟩) (fs.set k (s, ol ++ xs)).length cf) w6 (fs.set k (s, ol ++ xs)) (vs.set k (s, .slice a4 n4 c4)) A2 B by rw [List.length_set]; exact HM6.out).put2 k hkl6 (s := s) (by rw [List.getElem_set_self]) (.slice ao ol.length co) ol hol6 HX4.out
                rw [set_back fs k hkl HMS.out HOL.out, List.length_set] at hback
                have HBK := Lib.hid hback
                have hb7 : (w6.setCell ⟨g, k * 2 + 1, none⟩ (.slice ao ol.length co)).heap[wr.heap.size]? = _ := heap_set_other _ hb6 HNE.out
                have e67 : (w6.setCell ⟨g, k * 2 + 1, none⟩ (.slice ao ol.length co)).cell? ⟨wr.heap.size, 6, none⟩ = some (.slice au xs.length cu) := heap_cell hb7 rfl
                have dfit : decide ((x : Int) ≤ 23) = false := decide_eq_false (by omega)
                clear hback hol6 hxw me hb6 hb7
                go_wp2_with fail
                refine (HWW.out _ (.inr (.inr ⟨_, HBK.out⟩))).mono ?_
                rintro e4 w7 ⟨A7, rfl, hp7⟩
                have HM7 := Lib.hid (HBK.out.mp hp7)
                clear hp7
                go_wp2
                go_roundw
                case rel => exact ⟨j + 1, _, _, A7, B, L', u, by omega, by go_num, HM7.out, HR.out⟩
                case measure => simp [intOf]; omega
          · have q4 : (d == 4) = false := by simp [hd4]
            clear hd0 hd1 hd4
            go_wp2
            go_roundw
            case rel => exact ⟨j + 1, fs, vs, A, B, L', u, by omega, by go_num, HM1.out, HR.out⟩
            case measure => simp [intOf]; omega
    · have HM := Lib.hid hM
      have HR := Lib.hid hR
      have hgl : (filesL B L').length = fs.length := hR.2.2.length_eq.symm
      have HFI := Lib.hid (by
        have := ffiles_calls hM.mem
        rw [filesR_tab' hR.2.1] at this
        dsimp only at this
        rw [hgl] at this
        exact this)
      have HGL := Lib.hid hgl
      have HV9 := Lib.hid hM.files.len
      clear hM hR hgl HV HOK
      go_wp2_with fail
      refine HFI.out.mono ?_
      rintro e w1 ⟨A1, r, vs2, rfl, hp1, hr1, -, hv1⟩
      obtain ⟨ar, cr, rfl⟩ := (Sl.of_owns hr1).form
      have HM1 := Lib.hid (HM.out.mp hp1)
      have HR1 := Lib.hid (Sl.of_owns hr1)
      have HV1 := Lib.hid hv1
      have HV2 := Lib.hid hv1.len
      clear hp1 hr1 hv1
      go_wp2_with fail
      go_loopw [174] (fun i wx => ∃ j : Nat, j ≤ fs.length ∧ i = .int .i64 j ∧ Fr No w1 wx) (fun i _ => fs.length - (intOf i).toNat)
      case atStart => exact ⟨0, Nat.zero_le _, rfl, Fr.refl _ _⟩
      case round =>
        obtain ⟨i, hi, rfl, hF⟩ := hrel
        by_cases hit : i < fs.length
        · have hig : i < (filesL B L').length := by have := HGL.out; omega
          obtain ⟨hiv, a2, c2, e1, e2, hr2, -⟩ := (HV1.out.fr0 hF).at i hig
          obtain ⟨vb, off, rfl, -, hc⟩ := (HR1.out.fr0 hF).at (by intro e; have := fileCells_len vs2; have := HV2.out; have := HGL.out; rw [e] at *; simp at *; omega)
          have x1 : wr.cell? ⟨vb, off + i * 2, none⟩ = some (.string vs2[i].1) := by rw [Nat.mul_comm]; exact hc _ _ (fileCells_get vs2 i hiv)
          have x2 : wr.cell? ⟨vb, off + i * 2 + 1, none⟩ = some vs2[i].2 := by rw [Nat.mul_comm, Nat.add_assoc]; exact hc _ _ (fileCells_get2 vs2 i hiv)
          obtain ⟨k, hk, hpl, hek⟩ := same_file HR.out i hig
          rw [e2] at x2
          rw [e1] at x1
          rw [← hek] at x1 x2 hr2 hpl
          have HEK := Lib.hid hek
          clear e1 e2 hc hek
          obtain ⟨nm, hnm⟩ : ∃ nm, fs[k].1 = nm := ⟨_, rfl⟩
          obtain ⟨ol, hol⟩ : ∃ ol, fs[k].2 = ol := ⟨_, rfl⟩
          have x1' : wr.cell? ⟨vb, off + i * 2, none⟩ = some (.string nm) := x1.trans (by rw [← hnm])
          have x2' : wr.cell? ⟨vb, off + i * 2 + 1, none⟩ = some (.slice a2 ol.length c2) := x2.trans (by rw [← hol])
          have hr2' : wr.ownsRow 0 5 1 (.slice a2 ol.length c2) ol.length (bys ol) := by subst hol; exact hr2
          have hpl' : placeF fs nm = k := by subst hnm; exact hpl
          have HOL := Lib.hid hol
          have HR2 := Lib.hid hr2'
          have HF := Lib.hid hF
          have HFD := Lib.hid (fun w' (h : Fr No wr w') => (by
            have h1 := HM1.out.fr0 (hF.trans h)
            have := lfindF_calls _ fs vs nm w' A1 (by omega) h1.sl h1.files HR.out.names
            rw [hpl'] at this; exact this :
            Calls Try.prog 18 #[.slice af fs.length cf, .string nm] w' fun e w2 => e = .returned (.int .i64 k) ∧ Fr No w' w2))
          clear x1 x2 hr2 hr2' hpl hpl' hnm hol hF
          have hFa : Fr No wr (wr.alloc (Obj.cells #[.string nm, .slice a2 ol.length c2] 45)) := (Fr.refl _ _).alloc _
          have hb0 := heap_new wr (Obj.cells #[.string nm, .slice a2 ol.length c2] 45)
          have HB0 := Lib.hid hb0
          have HFA := Lib.hid hFa
          clear hb0 hFa
          go_wp2_with fail
          refine (HFD.out _ HFA.out).mono ?_
          rintro e w2 ⟨rfl, hF2⟩
          obtain ⟨g, c, ef⟩ := HM1.out.slice (by omega)
          cases ef
          obtain ⟨ad, cd, y1, -, y3, -⟩ := (HM1.out.fr0 ((HF.out.trans HFA.out).trans hF2)).cells2 k hk HOL.out
          have z1 := heap_cell (o := 1) (hF2.heap HB0.out (fun h => h)) rfl
          have v1 := conv_sl (w := w2.drew) (a := ad) (cap := cd) (l := ol) ((Sl.of_owns y3).fr0 (Fr.refl _ _).drew)
          have v2 := conv_sl (w := w2.drew) (a := a2) (cap := c2) (l := ol) (((Sl.of_owns HR2.out).fr0 (HFA.out.trans hF2)).fr0 (Fr.refl _ _).drew)
          generalize strOfNums ol = st at *
          have HF2 := Lib.hid ((HF.out.trans HFA.out).trans hF2)
          clear y3 hF2
          go_upto_region 55 with fail
          refine wp_region_held_drew (S := (fun w' => w'.cell? ⟨g, k * 2 + 1, none⟩ = some (.slice ad ol.length cd) ∧ w'.cell? ⟨wr.heap.size, 1, none⟩ = some (.slice a2 ol.length c2) ∧ (convert 22 9 (.slice ad ol.length cd)).run Try.prog w' = .ok (.string st) w' ∧ (convert 22 9 (.slice a2 ol.length c2)).run Try.prog w' = .ok (.string st) w')) (by kernel_rfl) ⟨y1, z1, v1, v2⟩ (fun hS0 => ?_)
          refine take_at (i := 0) (d := some 182) (v := ?_) rfl rfl (by kernel_rfl) (by kernel_rfl) (by kernel_rfl) (fun _ _ _ h => h) (Or.inl ⟨by rfl, ?_⟩) (by assumption) ?_
          rotate_left
          · intro w hSw; go_simp; try (with_reducible rfl)
          try simp only [Act.put, List.setIfInBounds_toArray, List.set_cons_zero, List.set_cons_succ]
          refine take_at (i := 1) (d := some 183) (v := ?_) rfl rfl (by kernel_rfl) (by kernel_rfl) (by kernel_rfl) (fun _ _ _ h => h) (Or.inl ⟨by rfl, ?_⟩) (by assumption) ?_
          rotate_left
          · intro w hSw; go_simp; try (with_reducible rfl)
          try simp only [Act.put, List.setIfInBounds_toArray, List.set_cons_zero, List.set_cons_succ]
          refine take_at (i := 2) (d := some 184) (v := ?_) rfl rfl (by kernel_rfl) (by kernel_rfl) (by kernel_rfl) (fun _ _ _ h => h) (Or.inl ⟨by rfl, ?_⟩) (by assumption) ?_
          rotate_left
          · intro w hSw; go_simp; try (with_reducible rfl)
          try simp only [Act.put, List.setIfInBounds_toArray, List.set_cons_zero, List.set_cons_succ]
          refine take_at (i := 3) (d := some 185) (v := ?_) rfl rfl (by kernel_rfl) (by kernel_rfl) (by kernel_rfl) (fun _ _ _ h => h) (Or.inl ⟨by rfl, ?_⟩) (by assumption) ?_
          rotate_left
          · intro w hSw; go_simp; try (with_reducible rfl)
          try simp only [Act.put, List.setIfInBounds_toArray, List.set_cons_zero, List.set_cons_succ]
          refine take_at (i := 4) (d := some 186) (v := ?_) rfl rfl (by kernel_rfl) (by kernel_rfl) (by kernel_rfl) (fun _ _ _ h => h) (Or.inl ⟨by rfl, ?_⟩) (by assumption) ?_
          rotate_left
          · intro w hSw; go_simp; try (with_reducible rfl)
          try simp only [Act.put, List.setIfInBounds_toArray, List.set_cons_zero, List.set_cons_succ]
          refine take_at (i := 5) (d := some 187) (v := ?_) rfl rfl (by kernel_rfl) (by kernel_rfl) (by kernel_rfl) (fun _ _ _ h => h) (Or.inl ⟨by rfl, ?_⟩) (by assumption) ?_
          rotate_left
          · intro w hSw; go_simp; try (with_reducible rfl)
          try simp only [Act.put, List.setIfInBounds_toArray, List.set_cons_zero, List.set_cons_succ]
          refine take_at (i := 6) (d := some 188) (v := ?_) rfl rfl (by kernel_rfl) (by kernel_rfl) (by kernel_rfl) (fun _ _ _ h => h) (Or.inl ⟨by rfl, ?_⟩) (by assumption) ?_
          rotate_left
          · intro w hSw; go_simp; try (with_reducible rfl)
          try simp only [Act.put, List.setIfInBounds_toArray, List.set_cons_zero, List.set_cons_succ]
          refine take_at (i := 7) (d := some 189) (v := ?_) rfl rfl (by kernel_rfl) (by kernel_rfl) (by kernel_rfl) (fun _ _ _ h => h) (Or.inl ⟨by rfl, ?_⟩) (by assumption) ?_
          rotate_left
          · intro w hSw; go_simp; try (with_reducible rfl)
          try simp only [Act.put, List.setIfInBounds_toArray, List.set_cons_zero, List.set_cons_succ]
          refine take_at (i := 8) (d := some 190) (v := ?_) rfl rfl (by kernel_rfl) (by kernel_rfl) (by kernel_rfl) (fun _ _ _ h => h) (Or.inl ⟨by rfl, ?_⟩) (by assumption) ?_
          rotate_left
          · intro w hSw; go_simp; try (with_reducible rfl)
          try simp only [Act.put, List.setIfInBounds_toArray, List.set_cons_zero, List.set_cons_succ]
          refine take_at (i := 9) (d := some 191) (v := ?_) rfl rfl (by kernel_rfl) (by kernel_rfl) (by kernel_rfl) (fun _ _ _ h => h) (Or.inl ⟨by rfl, ?_⟩) (by assumption) ?_
          rotate_left
          · intro w hSw; go_simp; try (with_reducible rfl)
          try simp only [Act.put, List.setIfInBounds_toArray, List.set_cons_zero, List.set_cons_succ]
          refine take_at (i := 10) (d := some 192) (v := ?_) rfl rfl (by kernel_rfl) (by kernel_rfl) (by kernel_rfl) (fun _ _ _ h => h) (Or.inl ⟨by rfl, ?_⟩) (by assumption) ?_
          rotate_left
          · intro w hSw; go_simp; try (with_reducible rfl)
          try simp only [Act.put, List.setIfInBounds_toArray, List.set_cons_zero, List.set_cons_succ]
          refine take_at (i := 11) (d := some 193) (v := ?_) rfl rfl (by kernel_rfl) (by kernel_rfl) (by kernel_rfl) (fun _ _ _ h => h) (Or.inl ⟨by rfl, ?_⟩) (by assumption) ?_
          rotate_left
          · intro w hSw; go_simp; try (with_reducible rfl)
          try simp only [Act.put, List.setIfInBounds_toArray, List.set_cons_zero, List.set_cons_succ]
          refine take_at (i := 12) (d := some 194) (v := ?_) rfl rfl (by kernel_rfl) (by kernel_rfl) (by kernel_rfl) (fun _ _ _ h => h) (Or.inl ⟨by rfl, ?_⟩) (by assumption) ?_
          rotate_left
          · intro w hSw; go_simp; try (with_reducible rfl)
          try simp only [Act.put, List.setIfInBounds_toArray, List.set_cons_zero, List.set_cons_succ]
          refine take_at (i := 13) (d := some 195) (v := ?_) rfl rfl (by kernel_rfl) (by kernel_rfl) (by kernel_rfl) (fun _ _ _ h => h) (Or.inl ⟨by rfl, ?_⟩) (by assumption) ?_
          rotate_left
          · intro w hSw; go_simp; try (with_reducible rfl)
          try simp only [Act.put, List.setIfInBounds_toArray, List.set_cons_zero, List.set_cons_succ]
          refine wpAnyH_done (by kernel_rfl) ?_ _
          go_wp2
          go_roundw
          case rel => exact ⟨i + 1, by omega, by go_num, HF2.out.drew⟩
          case measure => simp [intOf]; omega
        · go_wp2
          go_ret
          exact ⟨rfl, HM1.out.fr.trans hF⟩
end Go.Proofs.Ytoajnmbbgbpbgaa
