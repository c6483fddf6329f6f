/-
  Chapter 7: the reference's Changed.
-/
import Derived.Test.YtpcikbloflpahaaDoorZLo1
import Derived.Test.YtpcikbloflpahaaDoorYK
namespace Go.Proofs.YtpcikbloflpahaaDoor
set_option linter.unusedVariables false
set_option linter.unusedSimpArgs false
open Go.RowKit Go.Shelf Go.Maps

/-- copy into a row of one's own that may have room behind it. -/
theorem own_copy {w : World} {base g n cap : Nat} {l : List Int} (h : w.ownsRow base 5 1 (.slice (some ⟨g, 0, none⟩) n cap) n (bys l)) (m : List Int) (ad : Option Addr) (sc o dCap : Nat) (hm : 0 < m.length) (hv : Sl w (.slice ad m.length sc) m.length (bys m)) (hfit : o + m.length ≤ n) :
    ∃ w', w'.ownsRow base 5 1 (.slice (some ⟨g, 0, none⟩) n cap) n (bys (spl l o m)) ∧ Fr (fun k => k = g) w w' ∧ ∀ ty, (Builtin.copy_ #[30, 30] ty #[.slice (some ⟨g, o, none⟩) (n - o) dCap, .slice ad m.length sc]).run Tryd.prog w = .ok (.int .i64 m.length) w' := by
  obtain ⟨h0, ⟨h1, -⟩ | ⟨g', cap', cur, h1, h2, h3, h4, h5, h6, h7⟩⟩ := h
  · cases h1
  · injection h1 with e1 e2 e3
    injection e1 with e1
    injection e1 with e1
    subst e1 e3
    rw [Nat.mul_one] at h0 h6 h7
    have hll : l.length = n := by rw [bys_len] at h0; exact h0
    obtain ⟨b', off', rfl, hb', hc'⟩ := hv.at (bys_ne m 0 hm)
    have hF : Fr (fun k => k = g) w (w.setRow g (cur.toList.take o ++ bys m ++ cur.toList.drop (o + (bys m).length)).toArray) := ⟨rfl, rfl, rfl, by simp [World.setRow], fun k _ hk => setRow_other w g k _ hk⟩
    refine ⟨w.setRow g (cur.toList.take o ++ bys m ++ cur.toList.drop (o + (bys m).length)).toArray, ⟨by rw [bys_len, spl_len (by omega), hll]; omega, .inr ⟨g, cap, _, rfl, h2, setRow_heap w g _ _ _ _ h3, h4, h5, ?_, ?_⟩⟩, hF, fun ty => ?_⟩
    · rw [List.size_toArray, List.length_append, List.length_append, List.length_take, List.length_drop, bys_len, Array.length_toList, h6]
      omega
    · rw [Nat.mul_one, bys_spl, ← h7]
      apply List.ext_getElem?
      intro i
      have hcl : cur.toList.length = cap := by rw [Array.length_toList, h6]
      by_cases hi : i < n
      · rw [List.getElem?_take_of_lt hi]
        by_cases a1 : i < o
        · rw [List.getElem?_append_left (by simp [bys_len]; omega), List.getElem?_append_left (by simp; omega), List.getElem?_append_left (by simp [bys_len]; omega), List.getElem?_append_left (by simp; omega), List.getElem?_take_of_lt a1, List.getElem?_take_of_lt a1, List.getElem?_take_of_lt hi]
        · by_cases a2 : i < o + m.length
          · rw [List.getElem?_append_left (by simp [bys_len]; omega), List.getElem?_append_right (by simp; omega), List.getElem?_append_left (by simp [bys_len]; omega), List.getElem?_append_right (by simp; omega)]
            congr 1
            simp; omega
          · rw [List.getElem?_append_right (by simp [bys_len]; omega), List.getElem?_append_right (by simp [bys_len]; omega), List.getElem?_drop, List.getElem?_drop]
            have e1 : o + (bys m).length + (i - (List.take o cur.toList ++ bys m).length) = i := by simp [bys_len]; omega
            have e2 : o + m.length + (i - (List.take o (List.take n cur.toList) ++ bys m).length) = i := by simp [bys_len]; omega
            rw [e1, e2, List.getElem?_take_of_lt hi]
      · rw [List.getElem?_eq_none (by simp; omega), List.getElem?_eq_none (by simp [bys_len]; omega)]
    · rw [run_copy_row (P := Tryd.prog) w 30 30 ty 5 g o (n - o) dCap ⟨b', off', none⟩ m.length sc cur 5 (bys m) Tryd.underlying30 (by kernel_rfl) h3 (by rw [bys_len]; exact (Nat.min_eq_left (by omega)).symm) ?_ (by rw [bys_len, h6]; omega) (bys_one m)]
      · rw [bys_len]; rfl
      · intro j v hj
        have := hc' j v hj
        simp only [Addr.add]
        split
        · next h0 => subst h0; simpa using this
        · exact this
attribute [local irreducible] chgB
set_option maxHeartbeats 4000000 in
set_option maxRecDepth 1000000 in
theorem rchanged_calls {w : World} {n0 : Nat} (v : Value) (m : List Int) (hm : m.length = 8192) (hv : Sl w v 8192 (bys m)) (u : Value) (cs : List Chg) (vs : List (Int × Value)) (hown : w.ownsRow n0 32 2 u cs.length (chgCells vs)) (hcv : ChV n0 cs vs w)
    (hpg : ∀ c ∈ cs, 0 ≤ c.1 ∧ c.1 < 128 ∧ c.2.length = 64) (hcs : cs.length ≤ 128) :
    Calls Tryd.prog 49 #[v, u] w fun e w' => ∃ r, e = .returned r ∧ Fr No w w' ∧ w'.ownsRow w.heap.size 5 1 r 8192 (bys (chgB m cs)) := by
  obtain ⟨bv, bc, rfl⟩ := hv.form
  obtain ⟨av, cv, rfl⟩ := (Sl.of_owns hown).form
  have HV := Lib.hid hv
  have HOW := Lib.hid hown
  have HCV := Lib.hid hcv
  have HPG := Lib.hid hpg
  have HL := Lib.hid (show (bys m).length = 8192 * 1 by rw [bys_len, hm])
  have HCL : RowKit.Hid (∀ j, (chgB m (cs.take j)).length = 8192) := Lib.hid (fun j => by
    have gen : ∀ n ≤ cs.length, (chgB m (cs.take n)).length = 8192 := by
      intro n
      induction n with
      | zero => intro _; rw [List.take_zero]; unfold chgB; exact hm
      | succ n ih =>
        intro hn
        obtain ⟨g1, g2, g3⟩ := hpg _ (List.getElem_mem (h := (by omega : n < cs.length)))
        rw [List.take_succ_eq_append_getElem (by omega), chgB_snoc, spl_len (by rw [g3, ih (by omega)]; omega)]
        exact ih (by omega)
    by_cases h : j ≤ cs.length
    · exact gen j h
    · rw [List.take_of_length_le (by omega)]
      have := gen cs.length (Nat.le_refl _)
      rwa [List.take_length] at this)
  have HM0 : RowKit.Hid (chgB m (cs.take 0) = m) := Lib.hid (by rw [List.take_zero]; unfold chgB; rfl)
  clear hv hown hcv hpg hm
  go_enter Tryd.func49, Tryd.ntmps49
  go_wp2_with (first
    | (at_builtin; (refine append_at7 el_u8 rfl _ (.tmp 8) rfl w.heap.size (.slice none 0 0) 0 [] rfl (World.ownsRow_nil _ _ _ _) rfl HV.out HL.out (bys_one _) (by unfold maxLen; omega) (by omega) (Nat.le_refl _) ?_; intro a3 n3 c3 w3 hown3 hgrow3 hlie3; rw [Nat.zero_add, List.nil_append] at hown3))
    | fail "arm")
  have HO3 := Lib.hid hown3
  have HF3 := Lib.hid (show Fr No w w3 from (fr_grown7 hgrow3).mono (fun k _ e => by cases e))
  obtain ⟨h0, ⟨h1, h1'⟩ | ⟨g, cap, cur, h1, h2, h3', h4', -⟩⟩ := id hown3
  · omega
  injection h1 with e1 e2 e3
  subst e1 e2 e3
  have hgb : w.heap.size ≤ g := h2
  have HCAP : RowKit.Hid (8192 ≤ c3) := Lib.hid h4'
  clear hown3 hgrow3 hlie3 h0 h2
  go_loopw [12] (fun i wr => ∃ j : Nat, j ≤ cs.length ∧ i = .int .i64 (j : Int) ∧ wr.ownsRow w.heap.size 5 1 (.slice (some ⟨g, 0, none⟩) 8192 c3) 8192 (bys (chgB m (cs.take j))) ∧ Fr No w wr) (fun i _ => cs.length - (intOf i).toNat)
  case atStart => exact ⟨0, by omega, rfl, by rw [HM0.out]; exact HO3.out, HF3.out⟩
  case round =>
    obtain ⟨j, hj, rfl, hro, hF⟩ := hrel
    by_cases hlt : j < cs.length
    · have dj : decide ((j : Int) < (cs.length : Int)) = true := decide_eq_true (by omega)
      have hF0 := hF
      have hln := HCV.out.1
      obtain ⟨e1, e2⟩ := HCV.out.2 j (by omega) (by omega)
      obtain ⟨db', dc, e3⟩ := (Sl.of_owns e2).form
      have hown2 := ownsRow_fr7 e2 hF (fun k e h => h)
      have hownw := ownsRow_fr7 HOW.out hF (fun k e h => h)
      obtain ⟨q0, q1⟩ := chgCells_get vs j (by omega)
      obtain ⟨g', o, hag, -, hc⟩ := (Sl.of_owns hownw).at (fun e : chgCells vs = [] => by rw [e] at q0; simp at q0)
      have x1 := hc _ _ q0
      have y1 := hc _ _ q1
      rw [e1] at x1
      rw [e3] at y1 hown2
      rw [← Nat.add_assoc] at y1
      obtain ⟨hp0, hp1, hp2⟩ := HPG.out _ (List.getElem_mem hlt)
      rw [hp2] at y1 hown2
      have h1 : chgB m (cs.take (j + 1)) = spl (chgB m (cs.take j)) (64 * cs[j].1.toNat) cs[j].2 := by rw [List.take_succ_eq_append_getElem hlt, chgB_snoc]
      generalize cs[j] = c at *
      obtain ⟨pg, dt⟩ := c
      dsimp only at x1 y1 hown2 hp0 hp1 hp2 h1
      obtain ⟨p, rfl⟩ : ∃ p : Nat, pg = (p : Int) := ⟨pg.toNat, by omega⟩
      rw [Int.toNat_natCast] at h1
      subst hag
      have hFr0 : Fr No wr (wr.alloc (Obj.cells #[.int .i64 (p : Int), .slice db' 64 dc] 32)) := (Fr.refl No wr).alloc _
      have HB10 := Lib.hid (heap_new wr (Obj.cells #[.int .i64 (p : Int), .slice db' 64 dc] 32))
      have k10 : (wr.alloc (Obj.cells #[.int .i64 (p : Int), .slice db' 64 dc] 32)).drew.cell? ⟨wr.heap.size, 0, none⟩ = some (.int .i64 (p : Int)) := heap_cell (w := wr.alloc (Obj.cells #[.int .i64 (p : Int), .slice db' 64 dc] 32)) (o := 0) HB10.out rfl
      have k11 : (wr.alloc (Obj.cells #[.int .i64 (p : Int), .slice db' 64 dc] 32)).drew.cell? ⟨wr.heap.size, 1, none⟩ = some (.slice db' 64 dc) := heap_cell (w := wr.alloc (Obj.cells #[.int .i64 (p : Int), .slice db' 64 dc] 32)) (o := 1) HB10.out rfl
      have hFd := hFr0.trans (Fr.refl No _).drew
      have hro2 := ownsRow_fr7 hro hFd (fun k e h => h)
      have hown3 := Sl.of_owns (ownsRow_fr7 hown2 hFd (fun k e h => h))
      obtain ⟨w6, ho6, hF6, hcp⟩ := own_copy hro2 dt db' dc (64 * p) (c3 - 64 * p) (by omega) (by rw [hp2]; exact hown3) (by omega)
      rw [← h1] at ho6
      rw [hp2] at hcp
      have HO6 := Lib.hid ho6
      have HF6 := Lib.hid ((hF.trans hFd).trans' hF6 (fun i hi (e : i = g) => by omega))
      have hwr : IntKind.i64.wrap ((p : Int) * 64) = 64 * (p : Int) := by have := IntWalk.i64_in ((p : Int) * 64) (by omega); rw [this]; omega
      have hq0 : (64 * (p : Int)).toNat = 64 * p := by omega
      have hq1 : (0 ≤ 64 * (p : Int) ∧ 64 * (p : Int) ≤ 8192) = True := eq_true ⟨by omega, by omega⟩
      have hq2 : (8192 = 64 * p) = False := eq_false (by omega)
      have hcap : 8192 ≤ c3 := HCAP.out
      have hq3 : (c3 = 64 * p) = False := eq_false (by omega)
      have hgl : g < wr.heap.size := by
        obtain ⟨-, ⟨k1, -⟩ | ⟨g2, _, _, k1, -, k3, -⟩⟩ := id hro
        · cases k1
        · injection k1 with k1 _ _
          injection k1 with k1
          injection k1 with k1
          subst k1
          exact (Array.getElem?_eq_some_iff.1 k3).1
      have HK6 : RowKit.Hid (w6.cell? ⟨wr.heap.size, 0, none⟩ = some (.int .i64 (p : Int)) ∧ w6.cell? ⟨wr.heap.size, 1, none⟩ = some (.slice db' 64 dc)) := by
        have hb : w6.heap[wr.heap.size]? = some (Obj.cells #[.int .i64 (p : Int), .slice db' 64 dc] 32) := by
          rw [hF6.blk wr.heap.size (by simp) (fun (e : _ = g) => by omega)]
          exact HB10.out
        exact Lib.hid ⟨heap_cell (o := 0) hb rfl, heap_cell (o := 1) hb rfl⟩
      clear hF0 hln e1 e2 e3 hown2 hownw q0 q1 hc hp2 h1 hro hF hFd hro2 hown3 hFr0 hF6 ho6
      go_upto_region 5 with fail
      refine wp_region_held_drew (S := (fun w' => w'.cell? ⟨wr.heap.size, 0, none⟩ = some (.int .i64 (p : Int)) ∧ w'.cell? ⟨wr.heap.size, 1, none⟩ = some (.slice db' 64 dc))) (by kernel_rfl) ⟨k10, k11⟩ (fun hS0 => ?_)
      refine take_at7 (i := 0) (d := some 16) (v := ?_) rfl rfl (by kernel_rfl) (by kernel_rfl) (by kernel_rfl) (fun _ _ _ h => h) (Or.inl ⟨by rfl, ?_⟩) (by assumption) ?_
      rotate_left
      · intro w hSw; go_simp; try (with_reducible rfl)
      try simp only [Act.put, List.setIfInBounds_toArray, List.set_cons_zero, List.set_cons_succ]
      refine take_at7 (i := 1) (d := some 17) (v := ?_) rfl rfl (by kernel_rfl) (by kernel_rfl) (by kernel_rfl) (fun _ _ _ h => h) (Or.inl ⟨by rfl, ?_⟩) (by assumption) ?_
      rotate_left
      · intro w hSw; go_simp; try (with_reducible rfl)
      try simp only [Act.put, List.setIfInBounds_toArray, List.set_cons_zero, List.set_cons_succ]
      refine take_at7 (i := 2) (d := some 18) (v := ?_) rfl rfl (by kernel_rfl) (by kernel_rfl) (by kernel_rfl) (fun _ _ _ h => h) (Or.inl ⟨by rfl, ?_⟩) (by assumption) ?_
      rotate_left
      · intro w hSw; go_simp; try (with_reducible rfl)
      try simp only [Act.put, List.setIfInBounds_toArray, List.set_cons_zero, List.set_cons_succ]
      refine take_at7 (i := 3) (d := some 19) (v := ?_) rfl rfl (by kernel_rfl) (by kernel_rfl) (by kernel_rfl) (fun _ _ _ h => h) (Or.inl ⟨by rfl, ?_⟩) (by assumption) ?_
      rotate_left
      · intro w hSw; go_simp; try (with_reducible rfl)
      try simp only [Act.put, List.setIfInBounds_toArray, List.set_cons_zero, List.set_cons_succ]
      refine take_at7 (i := 4) (d := some 20) (v := ?_) rfl rfl (by kernel_rfl) (by kernel_rfl) (by kernel_rfl) (fun _ _ _ h => h) (Or.inl ⟨by rfl, ?_⟩) (by assumption) ?_
      rotate_left
      · intro w hSw; go_simp; try (with_reducible rfl)
      try simp only [Act.put, List.setIfInBounds_toArray, List.set_cons_zero, List.set_cons_succ]
      refine take_at7 (i := 5) (d := some 21) (v := ?_) rfl rfl (by kernel_rfl) (by kernel_rfl) (by kernel_rfl) (fun _ _ _ h => h) (Or.inl ⟨by rfl, ?_⟩) (by assumption) ?_
      rotate_left
      · intro w hSw; go_simp; try (with_reducible rfl)
      try simp only [Act.put, List.setIfInBounds_toArray, List.set_cons_zero, List.set_cons_succ]
      refine take_at7 (i := 6) (d := some 22) (v := ?_) rfl rfl (by kernel_rfl) (by kernel_rfl) (by kernel_rfl) (fun _ _ _ h => h) (Or.inl ⟨by rfl, ?_⟩) (by assumption) ?_
      rotate_left
      · intro w hSw; go_simp; try (with_reducible rfl)
      try simp only [Act.put, List.setIfInBounds_toArray, List.set_cons_zero, List.set_cons_succ]
      refine one_H7 (i := 7) (d := some 23) rfl rfl rfl (by kernel_rfl) (fun K hK => ?_)
      go_simp
      refine hK.out _ _ ⟨HK6.out.1, HK6.out.2⟩ (fun hHeld => ?_)
      clear hK K
      try simp only [Act.put, List.setIfInBounds_toArray, List.set_cons_zero, List.set_cons_succ]
      refine wpAnyH_done (by kernel_rfl) ?_ _
      go_simp
      go_wp2_with fail
      refine ⟨⟨j + 1, by omega, by go_num, HO6.out, HF6.out⟩, by simp [intOf]; omega⟩
    · obtain rfl : j = cs.length := by omega
      have dj : decide ((cs.length : Int) < (cs.length : Int)) = false := decide_eq_false (by omega)
      rw [List.take_length] at hro
      have HX := Lib.hid (And.intro hro hF)
      clear hro hF
      go_wp2_with fail
      go_ret
      exact ⟨_, rfl, HX.out.2, HX.out.1⟩
end Go.Proofs.YtpcikbloflpahaaDoor
