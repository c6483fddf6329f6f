/-
  Bytes read as an inode: the program's Decode, where there is one or a bad one.
-/
import Derived.Test.YtbjffempiaohpaaDec1
import Derived.Deep.DeepCutAuto
import Derived.Deep.CutBlock
import Derived.Deep.AppendLies
import Derived.Deep.RegionLaw
namespace Go.Proofs.Ytbjffempiaohpaa
set_option linter.unusedVariables false
set_option linter.unusedSimpArgs false
open Go.RowKit Go.Shelf
open Extern.Stop (cell)

theorem Fr.set3 {a w : World} (h : Fr No a w) {b : Nat} (hb : a.heap.size ≤ b) (x0 x1 x2 : Value) : Fr No a (((w.setCell ⟨b, 0, none⟩ x0).setCell ⟨b, 1, none⟩ x1).setCell ⟨b, 2, none⟩ x2) :=
  ((h.setCell (p := ⟨b, 0, none⟩) (fun h => absurd h (Nat.not_lt.2 hb)) _).setCell (p := ⟨b, 1, none⟩) (fun h => absurd h (Nat.not_lt.2 hb)) _).setCell (p := ⟨b, 2, none⟩) (fun h => absurd h (Nat.not_lt.2 hb)) _

theorem Fr.set3_at (w : World) (b : Nat) (x0 x1 x2 : Value) : Fr (fun k => k = b) w (((w.setCell ⟨b, 0, none⟩ x0).setCell ⟨b, 1, none⟩ x1).setCell ⟨b, 2, none⟩ x2) :=
  (((Fr.refl (fun k => k = b) w).setCell (p := ⟨b, 0, none⟩) (fun _ => rfl) _).setCell (p := ⟨b, 1, none⟩) (fun _ => rfl) _).setCell (p := ⟨b, 2, none⟩) (fun _ => rfl) _
theorem grownBy_undrew {w w3 : World} {row : Option Nat} (h : w.drew.grownBy w3 row) : w.grownBy w3 row := ⟨h.os, h.tape, h.output, h.size, h.block⟩

set_option maxHeartbeats 1000000 in
set_option maxRecDepth 1000000 in
theorem dec_good (v : Value) (l : List Int) (w : World) (hl : l.length = 64) (h0 : ∀ b ∈ l, 0 ≤ b ∧ b < 256) (hv : Sl w v l.length (bys l)) (hb : decide (15 < l.getD 0 0) = false) (hz : l ≠ zs 64) :
    Calls Try.prog 10 #[v] w fun e w' => Fr No w w' ∧ ((decOk l = true ∧ ∃ r, e = .returned (.tuple #[.agg #[.string (nameOf l), .int .i64 (sizeOf' l), r], .bool true, .int .i64 0]) ∧ Sl w' r (extsF l 23 0).length (extCells (extsF l 23 0))) ∨ (decOk l = false ∧ e = .returned (.tuple #[.agg #[.string ⟨#[]⟩, .int .i64 0, .slice none 0 0], .bool false, .int .i64 110]))) := by
  have HZ0 := Lib.hid hz
  clear hz
  obtain ⟨a, cap, rfl⟩ := hv.form
  have hx : (0 : Nat) < l.length := by omega
  obtain ⟨b, off, rfl, hbb, hc⟩ := hv.at (bys_ne _ _ hx)
  have c1 := hc _ _ (bys_get _ _ hx)
  have hg : l.getD 0 0 = l[0] := by simp [List.getD, hx]
  rw [hg] at hb
  rw [Nat.add_zero] at c1
  have hr0 := h0 _ (List.getElem_mem hx)
  revert hb c1 hg hr0
  generalize l[0] = y
  intro hb c1 hg hr0
  obtain ⟨m, rfl⟩ : ∃ m : Nat, y = m := ⟨y.toNat, by omega⟩
  have hm : m ≤ 15 := by have := of_decide_eq_false hb; omega
  clear hr0
  have hF0 : Fr No w (w.alloc (Obj.cells #[.string ⟨#[]⟩, .int .i64 0, .slice none 0 0] 26)) := (Fr.refl _ _).alloc _
  have c2 := hF0.cell c1 (fun h => h)
  go_enter Try.func10, Try.ntmps10
  go_wp2
  have hat : ∀ w : World, (Instr.arrayAt 77 (.slice (some ⟨b, off, none⟩) 64 cap)).run Try.prog w = .ok (.pointer (some ⟨b, off, none⟩)) w := fun w => by
    simp [Instr.arrayAt, run_underlying (show Try.prog.underlying 77 = some (.array 64 5) by kernel_rfl)]
  have HRG := Lib.hid (show (w.alloc (Obj.cells #[.string ⟨#[]⟩, .int .i64 0, .slice none 0 0] 26)).rangeAt b off (bys l) from fun j v hj => hF0.cell (hc j v hj) (fun h => h))
  have HSZ := Lib.hid (show (Try.prog.info? 77).map (·.size) = some (bys l).length from by rw [bys_len, hl]; kernel_rfl)
  have h0' := h0
  have HV := Lib.hid (show Sl w (.slice (some ⟨b, off, none⟩) 64 cap) l.length (bys l) by have := hv; rw [hl] at this ⊢; exact this)
  clear hc hv h0 hF0 c2
  rw [hat]
  simp only [Result.andThen_ok]
  have hRN : Row ((w.alloc (Obj.cells #[.string ⟨#[]⟩, .int .i64 0, .slice none 0 0] 26)).alloc (Obj.cells (bys (zs 64)).toArray 77)) (w.heap.size + 1) 77 (zs 64) := by simpa using Row.new (w.alloc (Obj.cells #[.string ⟨#[]⟩, .int .i64 0, .slice none 0 0] 26)) 77 (zs 64)
  have hST : ((w.alloc (Obj.cells #[.string ⟨#[]⟩, .int .i64 0, .slice none 0 0] 26)).alloc (Obj.cells (bys (zs 64)).toArray 77)).there (w.heap.size + 1) 0 (bys l).toArray.size := fun j hj => by
    have hj' : j < (zs 64).length := by rw [zs_length]; simpa [bys, hl] using hj
    exact ⟨by rw [Nat.zero_add, hRN.cell hj']; rfl, by rw [Nat.zero_add]; exact hRN.frozen j⟩
  have HST := Lib.hid hST
  have HSZ2 := Lib.hid (show (Try.prog.info? 77).map (·.size) = some (bys l).toArray.size from by rw [List.size_toArray]; exact HSZ.out)
  have H1C := Lib.hid (all_oneCell_toArray (bys_one l))
  have HRN := Lib.hid hRN
  have HB2 := Lib.hid (heap_alloc (Obj.cells (bys (zs 64)).toArray 77) (heap_new w (Obj.cells #[.string ⟨#[]⟩, .int .i64 0, .slice none 0 0] 26)))
  have heq : ∀ W : World, _ := fun W => eqA_bys W l (zs 64) hl (zs_length 64) h0' (zs_range 64)
  rw [zs64, decide_eq_false HZ0.out] at heq
  clear hST hRN
  have HZ := Lib.hid zs64
  go_wp2_with (first | (refine wpList_load_mid rfl 77 _ rfl b off rfl (bys l) (.array 64 5) HRG.out (by kernel_rfl) rfl HSZ.out ?_) | (refine wpList_store_mid rfl 77 _ _ rfl (w.heap.size + 1) 0 (bys l).toArray rfl rfl HST.out HSZ2.out H1C.out ?_; obtain ⟨hRS, hFS⟩ := HRN.out.setAll l 0 (by rw [zs_length]; omega); rw [spl_all _ _ (by rw [zs_length]; exact hl)] at hRS; have hB5 := hFS.heap HB2.out (by omega); have k0 := heap_cell (o := 0) hB5 rfl; have k1 := heap_cell (o := 1) hB5 rfl; have k2 := heap_cell (o := 2) hB5 rfl; have f0 := heap_frozen (o := 0) hB5; have f1 := heap_frozen (o := 1) hB5; have f2 := heap_frozen (o := 2) hB5; have HB5 := Lib.hid hB5; clear hB5; rw [show (bys l).toArray.toList = bys l from rfl, ← HZ.out]; generalize World.setCells _ (w.heap.size + 1) 0 (bys l) = W5 at *; have HRS := Lib.hid hRS; clear hRS) | (refine wpList_load_mid rfl 77 _ rfl (w.heap.size + 1) 0 rfl (bys l) (.array 64 5) (fun j v hj => by rw [Nat.zero_add]; exact heap_cell HRS.out (by simpa using hj)) (by kernel_rfl) rfl HSZ.out ?_))
  have hF5 : Fr No w W5 := (((Fr.refl No w).alloc _).alloc _).trans' hFS (fun i hi e => by omega)
  have hb5 : w.heap.size + 1 < W5.heap.size := HRS.out.lt
  have hcv : ∀ w', Row w' (w.heap.size + 1) 77 l → (convert 22 9 (.slice (some ⟨w.heap.size + 1, 1, none⟩) m 63)).run Try.prog w' = .ok (.string (nameOf l)) w' := fun w' h => by
    have h1 : Sl w' (.slice (some ⟨w.heap.size + 1, 1, none⟩) ((l.drop 1).take m).length 63) ((l.drop 1).take m).length (bys ((l.drop 1).take m)) := by
      have hlen : ((l.drop 1).take m).length = m := by simp; omega
      rw [hlen]
      refine ⟨_, _, rfl, ⟨by simp, by omega⟩, fun _ => ⟨_, _, rfl⟩, ?_⟩
      rintro b' o' j u ⟨rfl, rfl⟩ hj
      refine heap_cell h ?_
      simp only [bys, List.map_take, List.map_drop, List.getElem?_take, List.getElem?_drop] at hj ⊢
      split at hj
      · simpa using hj
      · cases hj
    have h2 := conv_sl h1
    rw [show ((l.drop 1).take m).length = m by simp; omega] at h2
    rw [h2, nameOf, hg, Int.toNat_natCast]
  have HN := Lib.hid (fun w1 (h : Row w1 (w.heap.size + 1) 77 l) => num_calls (.slice (some ⟨w.heap.size + 1, 0, none⟩) 64 64) l 16 2 w1 (by omega) (by omega) (by omega) h0' (by omega) (by have := h.sl; simpa only [hl] using this))
  have HN2 : ∀ w1, Row w1 (w.heap.size + 1) 77 l → Calls Try.prog 39 #[.slice (some ⟨w.heap.size + 1, 0, none⟩) 64 64, .int .i64 16, .int .i64 2] w1 fun e w' => e = .returned (.int .u64 (sizeOf' l)) ∧ Fr No w1 w' := fun w1 h => HN.out w1 h
  have HN3 := Lib.hid (fun w1 (h : Fr No W5 w1) => HN2 w1 (HRS.out.fr (S := No) h (fun h => h)))
  have e1 := HRS.out.cell (i := 0) (by omega)
  rw [show l[0] = (m : Int) by rw [← hg]; simp [List.getD, hx]] at e1
  have HSS := Lib.hid (fun w' (h : Fr No W5 w') => (⟨h, h.cell e1 (fun h => h), hcv w' (HRS.out.fr (S := No) h (fun h => h))⟩ : Fr No W5 w' ∧ w'.cell? ⟨w.heap.size + 1, 0, none⟩ = some (.int .u8 m) ∧ (convert 22 9 (.slice (some ⟨w.heap.size + 1, 1, none⟩) m 63)).run Try.prog w' = .ok (.string (nameOf l)) w'))
  have hwm : IntKind.u8.wrap (1 + (m : Int)) = 1 + m := by rw [IntKind.wrap_u8]; omega
  have htm : (1 + (m : Int)).toNat = 1 + m := by omega
  have hm1 : 1 + m - 1 = m := by omega
  have hs1 : (1 : Int) ≤ 1 + (m : Int) := by omega
  have hs2 : (1 : Int) + (m : Int) ≤ 64 := by omega
  have hs3 : (0 : Int) ≤ 1 + (m : Int) := by omega
  have hs4 : 1 + m ≤ 64 := by omega
  have hnb := numL_sum l h0' 16 2 (by omega)
  have hnl := sumL_lt l h0' 16 2
  have hsw : IntKind.i64.wrap (sizeOf' l) = sizeOf' l := IntWalk.i64_in _ (by rw [sizeOf', hnb]; omega)
  have HSB := Lib.hid (show 0 ≤ sizeOf' l ∧ sizeOf' l < 65536 by rw [sizeOf', hnb]; omega)
  clear hnb hnl
  have hFW := Fr.refl No W5
  clear hcv HN HN2 k0 k1 k2 f0 f1 f2 hFS HST HSZ2 H1C HRN HB2 HZ heq HZ0 HSZ HRG hat
  go_cut [6] (fun s6 wx => ∃ b6 : Nat, s6 = .pointer (some ⟨b6, 0, none⟩) ∧ W5.heap.size ≤ b6 ∧ Fr No W5 wx ∧ wx.heap[b6]? = some (.cells #[.string (nameOf l), .int .i64 (sizeOf' l), .slice none 0 0] 26 (0, 0)))
  case first =>
    go_region_held3 (fun w' => Fr No W5 w' ∧ w'.cell? ⟨w.heap.size + 1, 0, none⟩ = some (.int .u8 m) ∧ (convert 22 9 (.slice (some ⟨w.heap.size + 1, 1, none⟩) m 63)).run Try.prog w' = .ok (.string (nameOf l)) w')
      (first | exact HSS.out _ hFW | exact HSS.out _ hFW.drew | exact HSS.out _ (hFW.alloc _) | exact HSS.out _ (hFW.alloc _).drew | exact HSS.out _ (hFW.set3 (Nat.le_refl _) _ _ _) | exact HSS.out _ ((hFW.alloc _).set3 hFW.size _ _ _) | fail "keep")
      (first | (go_at_call 39; (first | (with_reducible refine (HN3.out _ hFW).mono ?_) | (with_reducible refine (HN3.out _ hFW.drew).mono ?_) | (with_reducible refine (HN3.out _ (hFW.alloc _).drew).mono ?_)); rintro e w5 ⟨rfl, hFn⟩; (try (have HG := hFn.heap (heap_new W5 (Obj.cells #[.string ⟨#[]⟩, .int .i64 0, .slice none 0 0] 26)) (fun h => h); have g0 := heap_cell (o := 0) HG rfl; have g1 := heap_cell (o := 1) HG rfl; have g2 := heap_cell (o := 2) HG rfl; have j0 := heap_frozen (o := 0) HG; have j1 := heap_frozen (o := 1) HG; have j2 := heap_frozen (o := 2) HG; have HG' := Lib.hid HG; clear HG)); have hFW := Fr.trans (by first | exact hFW | exact hFW.drew | exact (hFW.alloc _).drew) hFn))
    all_goals (go_wp2_with fail; go_meet; first
      | exact ⟨_, rfl, Nat.le_refl _, hFW.set3 (Nat.le_refl W5.heap.size) _ _ _, heap_set3 (.string (nameOf l)) (.int .i64 (sizeOf' l)) (.slice none 0 0) HG'.out⟩
      | exact ⟨_, rfl, hFW.size, hFW.alloc _, heap_new w5 (Obj.cells #[.string (nameOf l), .int .i64 (sizeOf' l), .slice none 0 0] 26)⟩
      | fail "shape")
  case rest =>
  obtain ⟨b6, rfl, hb6, hFx, HB6⟩ := hcut
  clear hFW
  go_upto_block 0 with fail
  go_cut [7] (fun s7 wx => ∃ r : Value, wx.heap[b6]? = some (.cells #[.string (nameOf l), .int .i64 (sizeOf' l), r] 26 (0, 0)) ∧ wx.ownsRow W5.heap.size 73 2 r (extsF l 23 0).length (extCells (extsF l 23 0)) ∧ Fr No W5 wx)
  case first =>
    go_wp2_with fail
    go_loopw [7] (fun i wr => ∃ j k : Nat, k ≤ 23 ∧ j = 18 + 2 * k ∧ i = .int .i64 j ∧ ∃ (pre : List (Int × Int)) (r : Value), pre.length = k ∧ extsF l 23 0 = pre ++ extsF l (23 - k) k ∧ wr.heap[b6]? = some (.cells #[.string (nameOf l), .int .i64 (sizeOf' l), r] 26 (0, 0)) ∧ wr.ownsRow W5.heap.size 73 2 r pre.length (extCells pre) ∧ Fr No W5 wr)
      (fun i _ => 64 - (intOf i).toNat)
    case atStart => exact ⟨18, 0, by omega, rfl, rfl, [], _, rfl, rfl, HB6, World.ownsRow_nil _ _ _ _, hFx⟩
    case round =>
      obtain ⟨j, k, hk, hj, rfl, pre, r, hpl, hpre, hB, hrow, hF⟩ := hrel
      have hRr := HRS.out.fr hF (fun h => h)
      by_cases hk3 : k < 23
      · have i1 : j < l.length := by omega
        have i2 : j + 1 < l.length := by omega
        have q1 := hRr.cell i1
        have q2 := hRr.cell i2
        have z1 := h0' _ (List.getElem_mem i1)
        have z2 := h0' _ (List.getElem_mem i2)
        have hst : extsF l (23 - k) k = if l[j + 1] = 0 then [] else (l[j], l[j + 1]) :: extsF l (22 - k) (k + 1) := by
          rw [show 23 - k = (22 - k) + 1 by omega, extsF]
          simp [List.getD, i1, i2, ← hj]
        revert q1 q2 z1 z2 hst
        generalize l[j + 1] = x2
        generalize l[j] = x1
        intro q1 q2 z1 z2 hst
        have HJ := Lib.hid hj
        have hj1 : j < 63 := by omega
        have hj2 : 18 ≤ j := by omega
        clear hj i1 i2
        by_cases hx2 : x2 = 0
        · subst hx2
          rw [if_pos rfl] at hst
          have hpe : extsF l 23 0 = pre := by rw [hpre, hst, List.append_nil]
          clear hst hpre q1 hRr z1 z2
          rw [← hpe] at hrow
          go_wp2_with fail
          go_meet
          exact ⟨r, hB, hrow, hF⟩
        · rw [if_neg hx2] at hst
          have hgt : 0 < x2 := by omega
          obtain ⟨z10, z11⟩ := z1
          obtain ⟨z20, z21⟩ := z2
          have HST := Lib.hid hst
          have HPRE := Lib.hid hpre
          have HPL := Lib.hid hpl
          have hpb : pre.length ≤ 22 := by omega
          clear hst hpre hx2 hRr hpl
          have k2 := heap_cell (o := 2) hB rfl
          go_wp2
          have hw1 : IntKind.i64.wrap ((j : Int) + 1) = (j : Int) + 1 := IntWalk.i64_in _ (by omega)
          have hw2 : ((j : Int) + 1).toNat = j + 1 := by omega
          have hw3 : 0 ≤ (j : Int) + 1 := by omega
          have hw4 : (j : Int) + 1 < 64 := by omega
          have hw5 : IntKind.i64.wrap x1 = x1 := IntWalk.i64_in _ (by omega)
          have hw6 : IntKind.i64.wrap x2 = x2 := IntWalk.i64_in _ (by omega)
          obtain ⟨i0, hi0, hz0, hz1, hz2⟩ := info_parts el_ext.info
          have hwl := hF.size
          have hbl : (w.heap.size + 1) < wr.heap.size := by omega
          have hb6l := heap_lt hB
          go_region_law (refine step_append_lies _ (by rfl) _ _ _ (by rfl) W5.heap.size 73 i0 _ 2 16 el_ext.und hi0 hz0 hz1 hz2 rfl (by omega) r pre.length (extCells pre) (by rfl) (World.ownsRow.drew (hrow.alloc _)) ⟨wr.heap.size, 0, none⟩ 1 1 [.int .i64 x1, .int .i64 x2] (by rfl) (by rfl) (World.news_of_block (cs := #[.int .i64 x1, .int .i64 x2]) (t := 73) (fr := (0, 0)) (heap_alloc_new wr _)) (by simp [Value.oneCell']) (by omega) (by unfold maxLen; omega) (by omega) (by simp; omega) (wr.heap.size + 1) (by simp) ?_; intro gg cap' w3 hown' hgrow hat hlt; have hg3 := grownBy_alloc (grownBy_undrew hgrow); have h3 := (hg3.block b6 (heap_lt hB) (not_row hB (by decide) hrow)).trans hB; have k3 := heap_cell (o := 2) h3 rfl; have k4 := heap_frozen (o := 2) h3)
          all_goals (
            have hB9 : (w3.setCell ⟨b6, 2, none⟩ (.slice (some ⟨gg, 0, none⟩) (pre.length + 1) cap')).heap[b6]? = some (.cells #[.string (nameOf l), .int .i64 (sizeOf' l), .slice (some ⟨gg, 0, none⟩) (pre.length + 1) cap'] 26 (0, 0)) := by simp [World.setCell, Array.getElem?_modify, h3]
            have hgs : w3.grownBy (w3.setCell ⟨b6, 2, none⟩ (.slice (some ⟨gg, 0, none⟩) (pre.length + 1) cap')) (some b6) := ⟨rfl, rfl, rfl, by simp [World.setCell], fun i _ hn => Below.heap_setCell _ _ _ _ (fun e => hn (by rw [e]))⟩
            have hrow9 := hown'.kept hgs (.inr (not_row h3 (by decide) hown').symm)
            have hF9 := (hF.grown hg3 (fun k e hk => by have := (hrow.lt k e).1; omega)).setCell (p := ⟨b6, 2, none⟩) (fun hh => absurd hh (by simp; omega)) (.slice (some ⟨gg, 0, none⟩) (pre.length + 1) cap')
            clear hgs h3 hg3 k3 k4 hown' hgrow hat hlt hrow hB
            generalize World.setCell w3 _ _ = W9 at *
            go_wp2
            refine ⟨⟨j + 2, k + 1, by omega, by have := HJ.out; omega, by go_num, pre ++ [(x1, x2)], .slice (some ⟨gg, 0, none⟩) (pre.length + 1) cap', by simp [HPL.out], ?_, hB9, ?_, hF9⟩, by simp [intOf]; omega⟩
            · rw [HPRE.out, HST.out, show 22 - k = 23 - (k + 1) by omega]; simp
            · rw [extCells_snoc, List.length_append, List.length_singleton]; exact hrow9)
      · have hk4 : k = 23 := by omega
        subst hk4
        have hpe : extsF l 23 0 = pre := by rw [hpre]; simp [extsF]
        have hj64 : j = 64 := by omega
        subst hj64
        clear hpre hRr
        rw [← hpe] at hrow
        go_wp2_with fail
        go_meet
        exact ⟨r, hB, hrow, hF⟩
  case rest =>
  obtain ⟨r, hB, hrow, hF⟩ := hcut
  have hr3 := Sl.of_owns hrow
  obtain ⟨a3, cap3, rfl⟩ := hr3.form
  have c0 := heap_cell (o := 0) hB rfl
  have c1 := heap_cell (o := 1) hB rfl
  have c2 := heap_cell (o := 2) hB rfl
  have hF0w : Fr No w wc := hF5.trans hF
  have hsz := HSB.out
  have CE := Lib.hid (encode_calls (nameOf l) (sizeOf' l) (.slice a3 (extsF l 23 0).length cap3) (extsF l 23 0) wc (by rw [nameOf, strOfNums_size, hg]; simp; omega) (by omega) (by omega) (by have := extsF_length l 23 0; omega) hr3)
  have HB3 := Lib.hid (fun k (e : (Value.slice a3 (extsF l 23 0).length cap3).ownBlock = some k) => (hrow.lt k e).1)
  clear hsz hrow
  go_wp2_with fail
  refine CE.out.mono ?_
  rintro e w7 ⟨hF7, ⟨ho, r7, rfl, hr7⟩ | ⟨ho, rfl⟩⟩
  · have g2 := (inoOk_small ho).2.1
    have HQ := equal_calls r7 (.slice (some ⟨b, off, none⟩) 64 cap) (encF (nameOf l) (sizeOf' l) (extsF l 23 0)) l w7 (encF_range _ _ _ g2) h0' (by rw [encF_length _ _ _ g2]; exact hr7) (HV.out.fr0 (hF0w.trans hF7))
    have HT := Lib.hid (hF7.heap hB (fun h => h))
    have HO := Lib.hid ((hF.trans hF7).heap HB5.out (fun h => h))
    have HS3 := Lib.hid (Sl.fr0 hr3 hF7)
    have hF07 := hF0w.trans hF7
    have d0 := heap_cell (o := 0) HT.out rfl
    have d1 := heap_cell (o := 1) HT.out rfl
    have d2 := heap_cell (o := 2) HT.out rfl
    have o0 := heap_cell (o := 0) HO.out rfl
    have o1 := heap_cell (o := 1) HO.out rfl
    have o2 := heap_cell (o := 2) HO.out rfl
    have p0 := heap_frozen (o := 0) HO.out
    have p1 := heap_frozen (o := 1) HO.out
    have p2 := heap_frozen (o := 2) HO.out
    clear hr7 hr3 c0 c1 c2 hB CE
    by_cases hq : encF (nameOf l) (sizeOf' l) (extsF l 23 0) = l
    · rw [decide_eq_true hq] at HQ
      have HQ' := Lib.hid HQ
      have hok : decOk l = true := by rw [decOk, ho, decide_eq_true hq]; rfl
      clear HQ hq
      go_wp2_with (go_at_call 40; ((with_reducible refine HQ'.out.mono ?_); rintro e w8 ⟨rfl, rfl⟩))
      have q := heap_set3 (.string (nameOf l)) (.int .i64 (sizeOf' l)) (.slice a3 (extsF l 23 0).length cap3) HO.out
      have q0 := heap_cell (o := 0) q rfl
      have q1 := heap_cell (o := 1) q rfl
      have q2 := heap_cell (o := 2) q rfl
      refine bodyPost_ret (v := .tuple #[.agg #[.string (nameOf l), .int .i64 (sizeOf' l), .slice a3 (extsF l 23 0).length cap3], .bool true, .int .i64 0]) (by simp [results, Try.results10, go_sem, q0, q1, q2]) rfl ⟨hF07.set3 (Nat.le_refl _) _ _ _, .inl ⟨hok, _, rfl, HS3.out.fr (Fr.set3_at _ _ _ _ _) (fun k e _ hk => by have := HB3.out k e; omega)⟩⟩
    · rw [decide_eq_false hq] at HQ
      have HQ' := Lib.hid HQ
      have hok : decOk l = false := by rw [decOk, ho, decide_eq_false hq]; rfl
      clear HQ hq
      go_wp2_with (go_at_call 40; ((with_reducible refine HQ'.out.mono ?_); rintro e w8 ⟨rfl, rfl⟩))
      have q := heap_set3 (.string ⟨#[]⟩) (.int .i64 0) (.slice none 0 0) HO.out
      have q0 := heap_cell (o := 0) q rfl
      have q1 := heap_cell (o := 1) q rfl
      have q2 := heap_cell (o := 2) q rfl
      refine bodyPost_ret (v := .tuple #[.agg #[.string ⟨#[]⟩, .int .i64 0, .slice none 0 0], .bool false, .int .i64 110]) (by simp [results, Try.results10, go_sem, q0, q1, q2]) rfl ⟨hF07.set3 (Nat.le_refl _) _ _ _, .inr ⟨hok, rfl⟩⟩
  · have hok : decOk l = false := by rw [decOk, ho]; rfl
    have HO := Lib.hid ((hF.trans hF7).heap HB5.out (fun h => h))
    have hF07 := hF0w.trans hF7
    have o0 := heap_cell (o := 0) HO.out rfl
    have o1 := heap_cell (o := 1) HO.out rfl
    have o2 := heap_cell (o := 2) HO.out rfl
    have p0 := heap_frozen (o := 0) HO.out
    have p1 := heap_frozen (o := 1) HO.out
    have p2 := heap_frozen (o := 2) HO.out
    clear hr3 c0 c1 c2 hB CE
    go_wp2
    have q := heap_set3 (.string ⟨#[]⟩) (.int .i64 0) (.slice none 0 0) HO.out
    have q0 := heap_cell (o := 0) q rfl
    have q1 := heap_cell (o := 1) q rfl
    have q2 := heap_cell (o := 2) q rfl
    refine bodyPost_ret (v := .tuple #[.agg #[.string ⟨#[]⟩, .int .i64 0, .slice none 0 0], .bool false, .int .i64 110]) (by simp [results, Try.results10, go_sem, q0, q1, q2]) rfl ⟨hF07.set3 (Nat.le_refl _) _ _ _, .inr ⟨hok, rfl⟩⟩
end Go.Proofs.Ytbjffempiaohpaa
