/-
  Chapter 7: the reference's Count.
-/
import Derived.Test.YtpcikbloflpahaaDoorZRf7
namespace Go.Proofs.YtpcikbloflpahaaDoor
set_option linter.unusedVariables false
set_option linter.unusedSimpArgs false
open Go.RowKit Go.Shelf Go.Maps

theorem alloc_b4 {ops : Array Oper} {rest : List Oper} {o : Oper} {a : Act} {w : World} {Q : Exit → Act → World → Prop} (hg : o.guard = none) (ho : o.op = .alloc 94)
    (hK : wpList Tryd.prog ops Q rest (a.put o.dst (.pointer (some ⟨w.heap.size, 0, none⟩))) (w.alloc (.cells (bls (List.replicate 4 false)).toArray 94))) : wpList Tryd.prog ops Q (o :: rest) a w := by
  have hr : (Instr.alloc 94 true (.tuple #[])).run Tryd.prog w = .ok (.pointer (some ⟨w.heap.size, 0, none⟩)) (w.alloc (.cells (bls (List.replicate 4 false)).toArray 94)) := by kernel_rfl
  refine wpList_plain hg fun K' hK' => ?_
  unfold Oper.wp
  simp only [execOp, ho, Sem.run_bind, hr, Result.andThen]
  exact hK' _ _ hK
theorem heap_new3_7 (w : World) (o o' o'' : Obj) : (((w.alloc o).alloc o').alloc o'').heap[w.heap.size + 1 + 1]? = some o'' := by simpa using heap_new ((w.alloc o).alloc o') o''
set_option maxHeartbeats 8000000 in
set_option maxRecDepth 1000000 in
theorem count_calls {w : World} {n0 : Nat} (has lv : List Bool) (h128 : has.length = 128) (h4 : lv.length = 4) (v : Value) (cs : List Chg) (vs : List (Int × Value)) (hown : w.ownsRow n0 32 2 v cs.length (chgCells vs)) (hcv : ChV n0 cs vs w)
    (hpg : ∀ c ∈ cs, 0 ≤ c.1 ∧ c.1 < 128 ∧ c.2.length = 64) (hcs : cs.length ≤ 128) :
    Calls Tryd.prog 38 #[.agg (bls has).toArray, .agg (bls lv).toArray, v] w fun e w' => e = .returned (.int .i64 (countR has lv cs : Int)) ∧ Fr No w w' := by
  obtain ⟨av, cv, rfl⟩ := (Sl.of_owns hown).form
  have hFa := (((Fr.refl No w).alloc (.cells (bls has).toArray 93)).alloc (.cells (bls lv).toArray 94)).alloc (.cells (bls (List.replicate 4 false)).toArray 94)
  have HC0 : RowKit.Hid (CbI w (hasF has []) lv (touF []) (((w.alloc (.cells (bls has).toArray 93)).alloc (.cells (bls lv).toArray 94)).alloc (.cells (bls (List.replicate 4 false)).toArray 94))) := Lib.hid ⟨h128, h4, rfl, heap_alloc _ (heap_alloc _ (heap_new _ _)), heap_alloc _ (heap_new2_7 _ _ _), heap_new3_7 w _ _ _, hFa⟩
  have HOW := Lib.hid hown
  have HCV := Lib.hid hcv
  have HPG := Lib.hid hpg
  have HLN := Lib.hid (And.intro h128 h4)
  have HR0 : RowKit.Hid (∀ r, countR has lv cs = r → r = countR has lv cs) := Lib.hid (fun r e => e.symm)
  obtain ⟨R, hR⟩ : ∃ R, countR has lv cs = R := ⟨_, rfl⟩
  rw [hR]
  have HR := Lib.hid hR
  clear hR HR0 hown hcv hpg h128 h4 hFa
  go_enter Tryd.func38, Tryd.ntmps38
  go_wp2_with (first
    | (refine alloc_b4 rfl rfl ?_)
    | fail "arm")
  go_loopw [7, 16] (fun n i wr => ∃ (j : Nat), j ≤ cs.length ∧ i = .int .i64 (j : Int) ∧ n = .int .i64 ((fullC (cs.take j)).length : Int) ∧ CbI w (hasF has (cs.take j)) lv (touF (cs.take j)) wr) (fun _ i _ => cs.length - (intOf i).toNat)
  case atStart => exact ⟨0, Nat.zero_le _, rfl, rfl, HC0.out⟩
  case round =>
    obtain ⟨j, hj, rfl, rfl, hI⟩ := hrel
    by_cases hlt : j < cs.length
    · have dj : decide ((j : Int) < (cs.length : Int)) = true := decide_eq_true (by omega)
      have hF := hI.2.2.2.2.2.2
      have hln := HCV.out.1
      obtain ⟨e1, e2⟩ := HCV.out.2 j (by omega) (by omega)
      obtain ⟨db', dc, e3⟩ := (Sl.of_owns e2).form
      have hown2 := ownsRow_fr7 e2 hF (fun k e h => h)
      have hownw := ownsRow_fr7 HOW.out hF (fun k e h => h)
      obtain ⟨q0, q1⟩ := chgCells_get vs j (by omega)
      obtain ⟨g, o, hag, -, hc⟩ := (Sl.of_owns hownw).at (fun e : chgCells vs = [] => by rw [e] at q0; simp at q0)
      have x1 := hc _ _ q0
      have y1 := hc _ _ q1
      rw [e1] at x1
      rw [e3] at y1 hown2
      rw [← Nat.add_assoc] at y1
      obtain ⟨hp0, hp1, hp2⟩ := HPG.out _ (List.getElem_mem hlt)
      rw [hp2] at y1 hown2
      have htk : cs.take (j + 1) = cs.take j ++ [cs[j]] := List.take_succ_eq_append_getElem hlt
      have h1 := hasF_snoc has (cs.take j) cs[j]
      have h2 := touF_snoc (cs.take j) cs[j]
      have h3 := fullC_snoc (cs.take j) cs[j]
      rw [← htk] at h1 h2 h3
      generalize cs[j] = c at *
      obtain ⟨pg, dt⟩ := c
      dsimp only at x1 y1 hown2 hp0 hp1 hp2 h1 h2 h3
      obtain ⟨p, rfl⟩ : ∃ p : Nat, pg = (p : Int) := ⟨pg.toNat, by omega⟩
      rw [Int.toNat_natCast] at h1
      rw [show ((p : Int) / 32).toNat = p / 32 from by omega] at h2
      have hfl : (fullC (cs.take j)).length ≤ j := Nat.le_trans (List.length_filter_le _ _) (by rw [List.length_take]; omega)
      subst hag
      have HBK := Lib.hid (fun (w1 : World) (hF1 : Fr No wr w1) => rblank_calls (.slice db' 64 dc) dt w1 (by omega) (by rw [hp2]; exact (Sl.of_owns hown2).fr0 hF1))
      have HI := Lib.hid hI
      have HST := Lib.hid (And.intro h1 (And.intro h2 h3))
      have HPL := Lib.hid hp2
      clear hF hln e1 e2 e3 hown2 hownw q0 q1 hc hp2 htk h1 h2 h3 hI
      generalize hbk : blankB dt = bk at *
      have hbk2 := hbk
      clear hbk
      generalize hfn : (fullC (cs.take j)).length = fn at *
      have HFLN := Lib.hid hfn
      clear hfn
      have hFr0 : Fr No wr (wr.alloc (Obj.cells #[.int .i64 (p : Int), .slice db' 64 dc] 32)) := (Fr.refl No wr).alloc _
      have HB10 := Lib.hid (heap_new wr (Obj.cells #[.int .i64 (p : Int), .slice db' 64 dc] 32))
      have HI1 := Lib.hid (HI.out.fr0 hFr0)
      have HF1 := Lib.hid hFr0
      clear hFr0
      have k10 : (wr.alloc (Obj.cells #[.int .i64 (p : Int), .slice db' 64 dc] 32)).drew.cell? ⟨wr.heap.size, 0, none⟩ = some (.int .i64 (p : Int)) := heap_cell (w := wr.alloc (Obj.cells #[.int .i64 (p : Int), .slice db' 64 dc] 32)) (o := 0) HB10.out rfl
      have k11 : (wr.alloc (Obj.cells #[.int .i64 (p : Int), .slice db' 64 dc] 32)).drew.cell? ⟨wr.heap.size, 1, none⟩ = some (.slice db' 64 dc) := heap_cell (w := wr.alloc (Obj.cells #[.int .i64 (p : Int), .slice db' 64 dc] 32)) (o := 1) HB10.out rfl
      go_upto_region 6 with fail
      refine wp_region_held_drew (S := (fun w' => w'.cell? ⟨wr.heap.size, 0, none⟩ = some (.int .i64 (p : Int)) ∧ w'.cell? ⟨wr.heap.size, 1, none⟩ = some (.slice db' 64 dc))) (by kernel_rfl) ⟨k10, k11⟩ (fun hS0 => ?_)
      refine take_at7 (i := 0) (d := some 20) (v := ?_) rfl rfl (by kernel_rfl) (by kernel_rfl) (by kernel_rfl) (fun _ _ _ h => h) (Or.inl ⟨by rfl, ?_⟩) (by assumption) ?_
      rotate_left
      · intro w hSw; go_simp; try (with_reducible rfl)
      try simp only [Act.put, List.setIfInBounds_toArray, List.set_cons_zero, List.set_cons_succ]
      refine take_at7 (i := 1) (d := some 21) (v := ?_) rfl rfl (by kernel_rfl) (by kernel_rfl) (by kernel_rfl) (fun _ _ _ h => h) (Or.inl ⟨by rfl, ?_⟩) (by assumption) ?_
      rotate_left
      · intro w hSw; go_simp; try (with_reducible rfl)
      try simp only [Act.put, List.setIfInBounds_toArray, List.set_cons_zero, List.set_cons_succ]
      refine take_at7 (i := 2) (d := some 22) (v := ?_) rfl rfl (by kernel_rfl) (by kernel_rfl) (by kernel_rfl) (fun _ _ _ h => h) (Or.inl ⟨by rfl, ?_⟩) (by assumption) ?_
      rotate_left
      · intro w hSw; go_simp; try (with_reducible rfl)
      try simp only [Act.put, List.setIfInBounds_toArray, List.set_cons_zero, List.set_cons_succ]
      refine take_at7 (i := 3) (d := some 23) (v := ?_) rfl rfl (by kernel_rfl) (by kernel_rfl) (by kernel_rfl) (fun _ _ _ h => h) (Or.inl ⟨by rfl, ?_⟩) (by assumption) ?_
      rotate_left
      · intro w hSw; go_simp; try (with_reducible rfl)
      try simp only [Act.put, List.setIfInBounds_toArray, List.set_cons_zero, List.set_cons_succ]
      refine one_H7 (i := 4) (d := some 24) rfl rfl rfl (by kernel_rfl) (fun K hK => ?_)
      go_simp
      (go_at_call 62; ((with_reducible refine (HBK.out _ HF1.out.drew).mono ?_); rintro e w3 ⟨rfl, rfl⟩))
      refine hK.out _ _ ⟨k10, k11⟩ (fun hHeld => ?_)
      clear hK K
      try simp only [Act.put, List.setIfInBounds_toArray, List.set_cons_zero, List.set_cons_succ]
      refine take_at7 (i := 5) (d := some 25) (v := ?_) rfl rfl (by kernel_rfl) (by kernel_rfl) (by kernel_rfl) (fun _ _ _ h => h) (Or.inl ⟨by rfl, ?_⟩) (by assumption) ?_
      rotate_left
      · intro w hSw; go_simp; try (with_reducible rfl)
      try simp only [Act.put, List.setIfInBounds_toArray, List.set_cons_zero, List.set_cons_succ]
      refine take_at7 (i := 6) (d := some 26) (v := ?_) rfl rfl (by kernel_rfl) (by kernel_rfl) (by kernel_rfl) (fun _ _ _ h => h) (Or.inl ⟨by rfl, ?_⟩) (by assumption) ?_
      rotate_left
      · intro w hSw; go_simp; try (with_reducible rfl)
      try simp only [Act.put, List.setIfInBounds_toArray, List.set_cons_zero, List.set_cons_succ]
      have hI3 := HI1.out.fr0 (Fr.refl No _).drew
      have hsw : wr.heap.size < (wr.alloc (Obj.cells #[.int .i64 (p : Int), .slice db' 64 dc] 32)).drew.heap.size := by simp
      generalize (wr.alloc (Obj.cells #[.int .i64 (p : Int), .slice db' 64 dc] 32)).drew = W3 at *
      generalize hH : hasF has (cs.take j) = H at *
      generalize hT : touF (cs.take j) = T at *
      obtain ⟨cB, fB⟩ := hI3.cH p (by omega)
      obtain ⟨bk2, hbk3⟩ : ∃ b, (!bk) = b := ⟨_, rfl⟩
      rw [hbk3] at HST ⊢
      have HI2 := Lib.hid (hI3.setH p bk2)
      have HSF := Lib.hid (ct_put (w := w) (wr := W3) w.heap.size p (.bool bk2) hI3.2.2.2.2.2.2 (Nat.le_refl _))
      have hszw2 : w.heap.size + 1 + 1 < wr.heap.size := heap_lt7 HI.out.2.2.2.2.2.1
      have HHT := Lib.hid (And.intro hH hT)
      have HBKE := Lib.hid hbk3
      clear hH hT hI3 hbk3
      refine one_H7 (i := 7) (d := none) rfl rfl rfl (by kernel_rfl) (fun K hK => ?_)
      go_simp
      have k10' := HSF.out.1.cell k10 (fun (e : wr.heap.size = w.heap.size) => by omega)
      have k11' := HSF.out.1.cell k11 (fun (e : wr.heap.size = w.heap.size) => by omega)
      refine hK.out undef _ ⟨k10', k11'⟩ (fun hHeld => ?_)
      clear hK K
      try simp only [Act.put, List.setIfInBounds_toArray, List.set_cons_zero, List.set_cons_succ]
      refine wpAnyH_done (by kernel_rfl) ?_ _
      have hI4 := HI2.out
      have hsw4 : wr.heap.size < (W3.setCell ⟨w.heap.size, p, none⟩ (.bool bk2)).heap.size := Nat.lt_of_lt_of_le hsw HSF.out.1.size
      generalize W3.setCell ⟨w.heap.size, p, none⟩ (.bool bk2) = W4 at *
      clear hS0 hHeld k10 k11 cB fB
      obtain ⟨cT, fT⟩ := hI4.cT (p / 32) (by omega)
      have hq : IntKind.i64.wrap ((p : Int) / 32) = ((p / 32 : Nat) : Int) := by rw [IntWalk.i64_in _ (by omega)]; omega
      have HI5 := Lib.hid (hI4.setT (p / 32) true)
      have HSF5 := Lib.hid (ct_put (w := w) (wr := W4) (w.heap.size + 1 + 1) (p / 32) (.bool true) hI4.2.2.2.2.2.2 (by omega))
      have k10a := HSF5.out.1.cell k10' (fun (e : wr.heap.size = w.heap.size + 1 + 1) => by omega)
      obtain ⟨cB5, fB5⟩ := HI5.out.cH p (by omega)
      have hget : (H.set p bk2).getD p false = bk2 := by
        have := HI5.out.1
        rw [List.length_set] at this
        rw [List.getD_eq_getElem?_getD, List.getElem?_set_self (by omega)]
        rfl
      rw [hget] at cB5
      have HFN : RowKit.Hid ((fullC (cs.take (j + 1))).length = fn + (if bk = true then 0 else 1)) := Lib.hid (by
        rw [HST.out.2.2, List.length_append, HFLN.out]
        cases bk <;> rfl)
      clear hI4 hget
      have HIR := Lib.hid (show CbI w (hasF has (cs.take (j + 1))) lv (touF (cs.take (j + 1))) (W4.setCell ⟨w.heap.size + 1 + 1, p / 32, none⟩ (.bool true)) by rw [HST.out.1, HST.out.2.1]; exact HI5.out)
      have hwn : IntKind.i64.wrap ((fn : Int) + 1) = (fn : Int) + 1 := IntWalk.i64_in _ (by omega)
      cases bk2
      · have HBT : RowKit.Hid (bk = true) := Lib.hid (by have := HBKE.out; cases bk; cases this; rfl)
        go_wp2_with fail
        refine ⟨⟨j + 1, by omega, by go_num, by rw [HFN.out, if_pos HBT.out]; rfl, HIR.out⟩, by simp [intOf]; omega⟩
      · have HBT : RowKit.Hid (bk = false) := Lib.hid (by have := HBKE.out; cases bk; rfl; cases this)
        go_wp2_with fail
        refine ⟨⟨j + 1, by omega, by go_num, by rw [HFN.out, HBT.out]; go_num, HIR.out⟩, by simp [intOf]; omega⟩
    · obtain rfl : j = cs.length := by omega
      have dj : decide ((cs.length : Int) < (cs.length : Int)) = false := decide_eq_false (by omega)
      rw [List.take_length] at hI ⊢
      have HI := Lib.hid hI
      clear hI HC0
      have hN : (fullC cs).length ≤ 128 := Nat.le_trans (List.length_filter_le _ _) hcs
      have HRR : RowKit.Hid (R = (fullC cs).length + cN (hasF has cs) (touF cs) 4 + if cs ≠ [] ∧ sN (hasF has cs) lv (touF cs) 4 = true then 1 else 0) := Lib.hid (by rw [← HR.out]; rfl)
      clear HR
      generalize hasF has cs = H at *
      generalize touF cs = T at *
      generalize (fullC cs).length = N at *
      go_wp2_with fail
      go_loopw [7, 11, 38] (fun n b i wy => ∃ (q : Nat), q ≤ 4 ∧ i = .int .i64 (q : Int) ∧ n = .int .i64 ((N + cN H T q : Nat) : Int) ∧ b = .bool (sN H lv T q) ∧ CbI w H (lvN H lv T q) T wy) (fun _ _ i _ => 4 - (intOf i).toNat)
      case atStart => exact ⟨0, by omega, rfl, rfl, rfl, by rw [lvN_zero HLN.out.2]; exact HI.out⟩
      case round =>
        obtain ⟨q, hq, rfl, rfl, rfl, hI2⟩ := hrel
        have hcn := cN_le H T q
        by_cases hlt : q < 4
        · have dq : decide ((q : Int) < 4) = true := decide_eq_true (by omega)
          obtain ⟨cT, fT⟩ := hI2.cT q hlt
          have HI2 := Lib.hid hI2
          have HSK := Lib.hid (fun h => lvN_skip H lv T q hlt h)
          have HAT := Lib.hid (lvN_at H lv T q hlt)
          have HST := Lib.hid (fun b hb => lvN_set H lv T q hlt b hb)
          have HCS : RowKit.Hid (∀ b, T.getD q false = b → svL H lv T q = (if b = true then anyH H q 32 else lv.getD q false) ∧ cN H T (q + 1) = cN H T q + (if b = true ∧ anyH H q 32 = true then 1 else 0)) := Lib.hid (fun b e => by subst e; exact ⟨rfl, rfl⟩)
          have HSN : RowKit.Hid (sN H lv T (q + 1) = (sN H lv T q || svL H lv T q)) := Lib.hid rfl
          clear hI2
          generalize hcnq : cN H T q = c at *
          have HCQ := Lib.hid hcnq
          clear hcnq
          generalize hsq : sN H lv T q = sm at *
          have HSQ := Lib.hid hsq
          clear hsq
          generalize htb : T.getD q false = tb at *
          have HTB := Lib.hid htb
          clear htb
          cases tb
          · have HIN := Lib.hid (show CbI w H (lvN H lv T (q + 1)) T wr by rw [← HSK.out rfl]; exact HI2.out)
            obtain ⟨cL, fL⟩ := HIN.out.cL q hlt
            rw [HAT.out] at cL
            have HCN : RowKit.Hid (cN H T (q + 1) = c) := Lib.hid (by have := (HCS.out false rfl).2; simpa using this)
            generalize hsv : svL H lv T q = sv at *
            have HSV := Lib.hid hsv
            clear hsv
            cases sm
            · go_wp2_with fail
              refine ⟨⟨q + 1, by omega, by go_num, by rw [HCN.out], by rw [HSN.out]; rfl, HIN.out⟩, by simp [intOf]; omega⟩
            · go_wp2_with fail
              refine ⟨⟨q + 1, by omega, by go_num, by rw [HCN.out], by rw [HSN.out]; rfl, HIN.out⟩, by simp [intOf]; omega⟩
          · have HCN : RowKit.Hid (svL H lv T q = anyH H q 32 ∧ cN H T (q + 1) = c + if anyH H q 32 = true then 1 else 0) := Lib.hid ⟨(HCS.out true rfl).1, by have := (HCS.out true rfl).2; simpa using this⟩
            obtain ⟨cL, fL⟩ := HI2.out.cL q hlt
            have HI3 := Lib.hid (HI2.out.setL q false)
            go_wp2_with fail
            go_loopw [13] (fun i wz => ∃ (k : Nat), k ≤ 32 ∧ i = .int .i64 (k : Int) ∧ CbI w H ((lvN H lv T q).set q (anyH H q k)) T wz) (fun i _ => 32 - (intOf i).toNat)
            case atStart => exact ⟨0, by omega, rfl, HI3.out⟩
            case round =>
              obtain ⟨k, hk, rfl, hI5⟩ := hrel
              have HI5 := Lib.hid hI5
              clear hI5
              have hgl : ∀ b, ((lvN H lv T q).set q b).getD q false = b := fun b => by
                rw [List.getD_eq_getElem?_getD, List.getElem?_set_self (by rw [lvN_len]; exact hlt)]
                rfl
              obtain ⟨cL5, fL5⟩ := HI5.out.cL q hlt
              rw [hgl] at cL5
              by_cases hkt : k < 32
              · have dk : decide ((k : Int) < 32) = true := decide_eq_true (by omega)
                have HAS := Lib.hid (anyH_succ H q k)
                have HI6 := Lib.hid (fun b => HI5.out.setL q b)
                obtain ⟨cH, fH⟩ := HI5.out.cH (32 * q + k) (by omega)
                have hw1 : IntKind.i64.wrap ((q : Int) * 32) = (q : Int) * 32 := IntWalk.i64_in _ (by omega)
                have hw2 : IntKind.i64.wrap ((q : Int) * 32 + (k : Int)) = ((32 * q + k : Nat) : Int) := by rw [IntWalk.i64_in _ (by omega)]; omega
                generalize hak : anyH H q k = ak at *
                have HAK := Lib.hid hak
                clear hak hgl
                generalize hhk : H.getD (32 * q + k) false = hb at *
                have HHK := Lib.hid hhk
                clear hhk
                cases ak
                · have HI7 := Lib.hid (show CbI w H ((lvN H lv T q).set q (anyH H q (k + 1))) T (wr.setCell ⟨w.heap.size + 1, q, none⟩ (.bool hb)) by
                    rw [HAS.out]
                    have := HI6.out hb
                    rwa [List.set_set] at this)
                  go_wp2_with fail
                  refine ⟨⟨k + 1, by omega, by go_num, HI7.out⟩, by simp [intOf]; omega⟩
                · have HI7 := Lib.hid (show CbI w H ((lvN H lv T q).set q (anyH H q (k + 1))) T (wr.setCell ⟨w.heap.size + 1, q, none⟩ (.bool true)) by
                    rw [HAS.out]
                    have := HI6.out true
                    rwa [List.set_set] at this)
                  go_wp2_with fail
                  refine ⟨⟨k + 1, by omega, by go_num, HI7.out⟩, by simp [intOf]; omega⟩
              · obtain rfl : k = 32 := by omega
                have dk : decide (((32 : Nat) : Int) < 32) = false := by decide
                have HI7 := Lib.hid (show CbI w H (lvN H lv T (q + 1)) T wr by
                  rw [← HST.out (anyH H q 32) HCN.out.1.symm]
                  exact HI5.out)
                have hwc : IntKind.i64.wrap (((N + c : Nat) : Int) + 1) = ((N + c + 1 : Nat) : Int) := by rw [IntWalk.i64_in _ (by omega)]; omega
                generalize hak : anyH H q 32 = ak at *
                have HAK := Lib.hid hak
                clear hak hgl
                cases ak
                · have HC0 : RowKit.Hid (cN H T (q + 1) = c ∧ sN H lv T (q + 1) = sm) := Lib.hid ⟨by rw [HCN.out.2]; rfl, by rw [HSN.out, HCN.out.1]; simp⟩
                  cases sm
                  · go_wp2_with fail
                    refine ⟨⟨q + 1, by omega, by go_num, by rw [HC0.out.1], by rw [HC0.out.2], HI7.out⟩, by simp [intOf]; omega⟩
                  · go_wp2_with fail
                    refine ⟨⟨q + 1, by omega, by go_num, by rw [HC0.out.1], by rw [HC0.out.2], HI7.out⟩, by simp [intOf]; omega⟩
                · have HC0 : RowKit.Hid (cN H T (q + 1) = c + 1 ∧ sN H lv T (q + 1) = true) := Lib.hid ⟨by rw [HCN.out.2]; rfl, by rw [HSN.out, HCN.out.1]; simp⟩
                  cases sm
                  · go_wp2_with fail
                    refine ⟨⟨q + 1, by omega, by go_num, by rw [HC0.out.1]; rfl, by rw [HC0.out.2], HI7.out⟩, by simp [intOf]; omega⟩
                  · go_wp2_with fail
                    refine ⟨⟨q + 1, by omega, by go_num, by rw [HC0.out.1]; rfl, by rw [HC0.out.2], HI7.out⟩, by simp [intOf]; omega⟩
        · obtain rfl : q = 4 := by omega
          have dq : decide (((4 : Nat) : Int) < 4) = false := by decide
          have HI4 := Lib.hid hI2
          clear hI2
          generalize hcn4 : cN H T 4 = c at *
          generalize hs4 : sN H lv T 4 = sm at *
          have hw1 : IntKind.i64.wrap (((N + c : Nat) : Int) + 1) = ((N + c + 1 : Nat) : Int) := by rw [IntWalk.i64_in _ (by omega)]; omega
          by_cases hce : cs = []
          · have HCE := Lib.hid hce
            have dl : (0 < cs.length) = False := by rw [hce]; simp
            have HE : RowKit.Hid (R = N + c) := Lib.hid (by rw [HRR.out, if_neg (fun h => h.1 hce)]; rfl)
            clear hce
            go_wp2_with fail
            go_ret
            exact ⟨by rw [HE.out]; rfl, HI4.out.2.2.2.2.2.2⟩
          · have dl : (0 < cs.length) = True := eq_true (List.length_pos_iff.2 hce)
            have HE : RowKit.Hid (R = N + c + if sm = true then 1 else 0) := Lib.hid (by rw [HRR.out]; simp only [ne_eq, hce, not_false_eq_true, true_and])
            clear hce
            cases sm
            · have HE2 : RowKit.Hid (R = N + c) := Lib.hid (by rw [HE.out]; rfl)
              clear HE HRR
              go_wp2_with fail
              go_ret
              exact ⟨by rw [HE2.out]; rfl, HI4.out.2.2.2.2.2.2⟩
            · have HE2 : RowKit.Hid (R = N + c + 1) := Lib.hid (by rw [HE.out]; rfl)
              clear HE HRR
              go_wp2_with fail
              go_ret
              exact ⟨by rw [HE2.out]; rfl, HI4.out.2.2.2.2.2.2⟩
end Go.Proofs.YtpcikbloflpahaaDoor
