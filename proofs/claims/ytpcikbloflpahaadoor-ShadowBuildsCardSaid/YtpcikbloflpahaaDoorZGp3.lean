/-
  Chapter 7: the plan of any changes to any tree: planned.
-/
import Derived.Test.YtpcikbloflpahaaDoorYM
import Derived.Test.YtpcikbloflpahaaDoorZSh3
import Derived.Laws.StructEq
namespace Go.Proofs.YtpcikbloflpahaaDoor
set_option linter.unusedVariables false
set_option linter.unusedSimpArgs false
open Go.RowKit Go.Shelf Go.Maps

/-- Behind some rounds of planned's first loop. -/
def PlI (n0 : Nat) (W6 : World) (pb lm : Nat) (B tn : List Int) (top : Int) (sm : Bool) (cs : List Chg) (wr : World) : Prop :=
  ∃ pv vp, wr.heap[pb]? = some (.cells (PlC pv tn lm top sm).toArray 129 (0, 0)) ∧ wr.ownsRow W6.heap.size 32 2 pv (fullC cs).length (chgCells vp) ∧ ChV n0 (fullC cs) vp wr ∧
    MapAt Tryd.prog 3 wr lm (cnt4 (plnF B tn cs)) (mpF (plnF B tn cs)) ∧ Fr (fun k => k = pb ∨ k = lm) W6 wr
theorem plan33g {w : World} {pb lm : Nat} {pv : Value} {tn : List Int} {old : Int} {sm : Bool} (h : w.heap[pb]? = some (.cells (PlC pv tn lm old sm).toArray 129 (0, 0))) (hl : tn.length = 32) : w.cell? ⟨pb, 33, none⟩ = some (.map (some lm)) := by
  refine heap_cell h ?_
  rw [List.getElem?_toArray, PlC, List.getElem?_cons_succ, List.getElem?_append_right (by rw [nds_len, hl]; omega), nds_len, hl]
  rfl
theorem plan35g {w : World} {pb lm : Nat} {pv : Value} {tn : List Int} {old : Int} {sm : Bool} (h : w.heap[pb]? = some (.cells (PlC pv tn lm old sm).toArray 129 (0, 0))) (hl : tn.length = 32) : w.cell? ⟨pb, 35, none⟩ = some (.bool sm) := by
  refine heap_cell h ?_
  rw [List.getElem?_toArray, PlC, List.getElem?_cons_succ, List.getElem?_append_right (by rw [nds_len, hl]; omega), nds_len, hl]
  rfl
theorem ChV.frP {n0 : Nat} {cs : List Chg} {vs : List (Int × Value)} {S : Nat → Prop} {W W' : World} (h : ChV n0 cs vs W) (hF : Fr S W W') (hs : ∀ n v xs q, W.ownsRow n0 5 1 v n xs → v.ownBlock = some q → ¬ S q) : ChV n0 cs vs W' := h.imp (fun n v xs hv => ownsRow_fr7 hv hF (fun q e => hs _ _ _ q hv e))
theorem rgc_range {P : Program} {w : World} {ops : Array Oper} {rest : List Oper} {o : Oper} {a : Act} {Q : Exit → Act → World → Prop} (hg : o.guard = none) (m : Operand) (t : TypeId) (hop : o.op = Op.range t m)
    {k e : TypeId} {b c : Nat} {f : Int → Option Value} (hm : a.eval m = .map (some b)) (h : MapAt P k w b c f) (hk : P.underlying k = some (.int .i64)) (ht : P.underlying t = some (.map k e))
    (hK : ∀ w', RgC P k w' b w.heap.size c f (fun i => (f i).isSome) c → Fr No w w' → w'.heap.size = w.heap.size + 1 → wpList P ops Q rest (a.put o.dst (.pointer (some ⟨w.heap.size, 0, none⟩))) w') : wpList P ops Q (o :: rest) a w := by
  refine wpList_plain hg fun K' hK' => ?_
  obtain ⟨D, h, hc, ha⟩ := h
  obtain ⟨w', h1, h2, h3, h4⟩ := h.range (int_keyed hk) ht
  unfold Oper.wp
  simp [execOp, hop, hm, h1, Result.andThen]
  exact hK' _ _ (hK w' ⟨c, D, _, hc ▸ h2, hc, ha, fun i => (ha i).1⟩ ((Fr.refl No w).grown h3 (fun k e => by cases e)) h4)
theorem eql_ndw {ops : Array Oper} {rest : List Oper} {o : Oper} {a : Act} {w : World} {Q : Exit → Act → World → Prop} (hg : o.guard = none) (x y : Operand) (ty : TypeId) (ho : o.op = .binOp .eql 99 x y ty) (l l' : List Int) (hl : l.length = 32) (hl' : l'.length = 32) (hx : a.eval x = .agg (nds l).toArray) (hy : a.eval y = .agg (nds l').toArray) (b : Bool) (hb : decide (l = l') = b)
    (hK : wpList Tryd.prog ops Q rest (a.put o.dst (.bool b)) w) : wpList Tryd.prog ops Q (o :: rest) a w := by
  have hr := eq_nd l l' hl hl' w
  rw [hb] at hr
  have hq := run_eqGuard_agg (P := Tryd.prog) (w := w) .eql 99 x y (nds l).toArray (nds l').toArray (by kernel_rfl)
  refine wpList_plain hg fun K' hK' => ?_
  unfold Oper.wp
  simp [execOp, ho, hx, hy, Sem.run_bind, hq, hr, Result.andThen]
  exact hK' _ _ hK
theorem keepV_cnt {F : LfF} {left : Int → Bool} {i : Int} (hi : 0 ≤ i ∧ i < 4) (hl : F i = some nd0) (hL : left i = true) : cnt4 (keepV F (fun j => left j && !decide (j = i))) = cnt4 (keepV F left) - 1 := by
  have h : ∀ j, one4 (keepV F (fun j => left j && !decide (j = i))) j = if j = i then 0 else one4 (keepV F left) j := fun j => by
    unfold one4 keepV
    by_cases e : j = i
    · subst e
      simp [keepF, hl]
    · have : decide (j = i) = false := decide_eq_false e
      simp only [this, Bool.not_false, Bool.and_true]
      rw [if_neg e]
  have ho : one4 (keepV F left) i = 1 := by unfold one4 keepV; simp [hL, hl]
  unfold cnt4
  rw [h, h, h, h]
  have hd : i = 0 ∨ i = 1 ∨ i = 2 ∨ i = 3 := by omega
  rcases hd with e | e | e | e
  all_goals (subst e; simp at ho ⊢; omega)
/-- Behind some rounds of planned's second loop. -/
def PlK (n0 n1 : Nat) (W11 : World) (pb lm r : Nat) (tn : List Int) (F : LfF) (top : Int) (sm : Bool) (ps : List Chg) (wr : World) : Prop :=
  ∃ left cnt, (∀ i, left i = true → (F i).isSome = true) ∧ RgC Tryd.prog 3 wr lm r (cnt4 (keepV F left)) (mpF (keepV F left)) left cnt ∧
    (∃ pv vp, wr.heap[pb]? = some (.cells (PlC pv (topV tn F left) lm top sm).toArray 129 (0, 0)) ∧ wr.ownsRow n1 32 2 pv ps.length (chgCells vp) ∧ ChV n0 ps vp wr) ∧ Fr (fun k => k = pb ∨ k = lm ∨ k = r) W11 wr
/-- Where the ways of a page meet. -/
def PlJ (n0 : Nat) (W6 : World) (pb lm b15 : Nat) (tn : List Int) (top : Int) (sm : Bool) (F : LfF) (lf : List Int) (fl : List Chg) (z : Int) (s17 : Value) (wx : World) : Prop :=
  s17 = .int .i64 z ∧ wx.heap[b15]? = some (.cells (nds lf).toArray 99 (0, 0)) ∧ MapAt Tryd.prog 3 wx lm (cnt4 F) (mpF F) ∧
  (∃ pv vp, wx.heap[pb]? = some (.cells (PlC pv tn lm top sm).toArray 129 (0, 0)) ∧ wx.ownsRow W6.heap.size 32 2 pv fl.length (chgCells vp) ∧ ChV n0 fl vp wx) ∧ Fr (fun k => k = pb ∨ k = lm) W6 wx ∧ b15 < wx.heap.size ∧ lm + 2 ≤ b15
attribute [local irreducible] nd0 rdN ndB decN
set_option maxHeartbeats 8000000 in
set_option maxRecDepth 1000000 in
theorem plannedg_calls {w : World} {db acts N : Nat} {Ad : Nat → Prop} {B : List Int} (hd : DkR w db Ad acts N B) (top : Int) (htop : -9223372036854775808 ≤ top ∧ top ≤ 9223372036854775807)
    (v : Value) (L : List ChA) (hv : Sl w v L.length (L.flatMap chaC)) (hok : ∀ y ∈ L, chaOk w y) (hlen : L.length ≤ 140737488355328) :
    Calls Tryd.prog 36 #[.pointer (some ⟨db, 0, none⟩), .int .i64 top, v] w (PlanQ w B N top L) := by
  have hmm : ∀ w : World, (Instr.makeMap 127 none).run Tryd.prog w = .ok (.map (some w.heap.size)) (w.alloc (.map #[] 0)) := fun _ => rfl
  have hz : ∀ w : World, (zeroValue 99).run Tryd.prog w = .ok (.agg (nds nd0).toArray) w := fun _ => by kernel_rfl
  have HMG := Lib.hid (merge_calls v L w hv hok hlen)
  have HMU := Lib.hid smust0_calls
  have HB1 := Lib.hid (smustbad_calls 1 (by decide))
  have HB60 := Lib.hid (smustbad_calls 60 (by decide))
  have HD := Lib.hid hd
  have HTP := Lib.hid htop
  obtain ⟨av, cv, rfl⟩ := hv.form
  clear hd hv hok
  go_enter Tryd.func36, Tryd.ntmps36
  go_wp2_with fail
  refine HMG.out.mono ?_
  rintro e w1 (⟨hg, r, vs, rfl, hF1, hown, hcv⟩ | ⟨hb, rfl, hF1⟩)
  rotate_left
  · have HF1 := Lib.hid hF1
    have HBD := Lib.hid hb
    clear hF1 hb
    go_wp2_with fail
    refine (HB1.out _).mono ?_
    rintro e w2 ⟨rfl, rfl⟩
    go_wp2_with fail
    exact ⟨rfl, HF1.out, .inl ⟨HBD.out, rfl⟩⟩
  obtain ⟨ar, cr, rfl⟩ := (Sl.of_owns hown).form
  have HGD := Lib.hid hg
  have HF1 := Lib.hid hF1
  have HOW := Lib.hid hown
  have HCV := Lib.hid hcv
  have HCG := Lib.hid (outG_good hg)
  have hcl : (outG (pagesG L 128)).length = (pagesG L 128).length := outG_len _
  have hc8 := pagesG_len L 128
  clear hg hown hcv hF1
  generalize hcs : outG (pagesG L 128) = cs at *
  generalize (pagesG L 128).length = n at *
  have HCS := Lib.hid hcs
  have HCL := Lib.hid hcl
  clear hcs hcl
  go_wp2_with fail
  refine (HMU.out _).mono ?_
  rintro e w2 ⟨rfl, rfl⟩
  go_wp2_with fail
  refine (reachg_calls (HD.out.fr0 HF1.out) top HTP.out).mono ?_
  rintro e w3 ⟨hF3, ⟨s, rr, hts, rfl, -⟩ | ⟨htn, rfl⟩⟩
  rotate_left
  · have HF3 := Lib.hid (HF1.out.trans hF3)
    have HTN := Lib.hid htn
    clear hF3 htn
    go_wp2_with fail
    refine (HB60.out _).mono ?_
    rintro e w4 ⟨rfl, rfl⟩
    go_wp2_with fail
    exact ⟨rfl, HF3.out, .inr (.inl ⟨HGD.out, HTN.out, rfl⟩)⟩
  have HTS := Lib.hid hts
  have HF13 := Lib.hid hF3.size
  have HF3 := Lib.hid (HF1.out.trans hF3)
  have HOW3 := Lib.hid (ownsRow_fr7 HOW.out hF3 (fun _ _ h => h))
  have HCV3 := Lib.hid (HCV.out.fr0 hF3)
  clear hts hF3
  go_wp2_with fail
  refine (HMU.out _).mono ?_
  rintro e w4 ⟨rfl, rfl⟩
  have HRT := Lib.hid (sreadn_calls (HD.out.fr0 HF3.out) top (by
    by_cases hz : top = 0
    · exact .inl hz
    · exact .inr (tree_top HTS.out hz)))
  go_wp2_with fail
  refine HRT.out.mono ?_
  rintro e w5 ⟨rfl, hF5⟩
  have HF13 := Lib.hid (Nat.le_trans HF13.out hF5.size)
  have HF5 := Lib.hid (HF3.out.trans hF5)
  have HOW5 := Lib.hid (ownsRow_fr7 HOW3.out hF5 (fun _ _ h => h))
  have HCV5 := Lib.hid (HCV3.out.fr0 hF5)
  have HLF := Lib.hid (fun k hk => tree_leaf HTS.out k hk)
  have HTL := Lib.hid (rdN_len B top)
  have HDN : RowKit.Hid (((n : Int) == 0) = decide (cs = [])) := Lib.hid (by
    have := HCL.out
    by_cases h : cs = []
    · subst h; simp at this; subst this; rfl
    · rw [decide_eq_false h]
      have : cs.length ≠ 0 := by simpa using h
      simp; omega)
  have hdn := HDN.out
  clear hF5
  generalize htn : rdN B top = tn at *
  have HTN := Lib.hid htn
  clear htn
  generalize hsm : decide (cs = []) = sm at *
  have HSM := Lib.hid hsm
  clear hsm
  go_wp2_with (first
    | (refine build_plang rfl _ _ _ _ rfl w5.heap.size tn HTL.out top sm rfl rfl rfl rfl ?_)
    | fail "arm")
  generalize hlm : w5.heap.size = lm at *
  generalize hpb : lm + 1 = pb at *
  generalize hW : (w5.alloc (Obj.map #[] 0)).alloc (Obj.cells (PlC (.slice none 0 0) tn lm top sm).toArray 129) = W6
  have hF6 : Fr No w5 W6 := by rw [← hW]; exact ((Fr.refl No w5).alloc _).alloc _
  have hs6 : W6.heap.size = lm + 2 := by rw [← hW, ← hlm]; simp
  have hb6 : W6.heap[pb]? = some (.cells (PlC (.slice none 0 0) tn lm top sm).toArray 129 (0, 0)) := by rw [← hW, ← hpb, ← hlm]; exact heap_new2_7 w5 _ _
  have hm6 : MapAt Tryd.prog 3 W6 lm 0 (fun _ => none) := by rw [← hW, ← hlm]; exact (MapAt.made _ _ w5).fr ((Fr.refl No _).alloc _) (fun h => h)
  have HI6 : RowKit.Hid (PlI w.heap.size W6 pb lm B tn top sm (cs.take 0) W6) := Lib.hid (by
    rw [List.take_zero]
    exact ⟨_, [], hb6, World.ownsRow_nil _ _ _ _, ChV.nil _ _, by
      have e : mpF (plnF B tn []) = fun _ => none := by funext k; rfl
      rw [e]
      exact hm6, Fr.refl _ _⟩)
  have hle5 : w.heap.size ≤ lm := by rw [← hlm]; exact HF5.out.size
  have hl1 := HF13.out
  have HF6 := Lib.hid (HF5.out.trans hF6)
  have HOW6 := Lib.hid (ownsRow_fr7 HOW5.out hF6 (fun _ _ h => h))
  have HCV6 := Lib.hid (HCV5.out.fr0 hF6)
  have HPB := Lib.hid (And.intro hpb (And.intro hs6 (And.intro hle5 hl1)))
  clear hb6 hm6 hF6 hW hpb hs6 hle5 hl1 hlm hmm
  go_loopw [48] (fun i wr => ∃ j : Nat, j ≤ n ∧ i = .int .i64 (j : Int) ∧ PlI w.heap.size W6 pb lm B tn top sm (cs.take j) wr) (fun i _ => n - (intOf i).toNat)
  case atStart => exact ⟨0, Nat.zero_le _, rfl, HI6.out⟩
  case round =>
    obtain ⟨j, hj, rfl, hI⟩ := hrel
    by_cases hlt : j < n
    · have dj : decide ((j : Int) < (n : Int)) = true := decide_eq_true (by omega)
      have HI := Lib.hid hI
      obtain ⟨pv, vp, hbx, hpo, hpc, hmp, hF⟩ := hI
      obtain ⟨h1, h2, h3, h4⟩ := HPB.out
      have hrb : ∀ k, (Value.slice ar n cr).ownBlock = some k → ¬ (k = pb ∨ k = lm) := fun k e => by have := (HOW.out.lt k e).2; omega
      have hown := ownsRow_fr7 HOW6.out hF hrb
      have hcl := HCL.out
      obtain ⟨e1, e2⟩ := HCV6.out.2 j (by omega) (by have := HCV6.out.1; omega)
      obtain ⟨db', dc, e3⟩ := (Sl.of_owns e2).form
      have hdw := (HCV.out.2 j (by omega) (by have := HCV.out.1; omega)).2
      have hown2 := ownsRow_fr7 e2 hF (fun k e => by have := (hdw.lt k e).2; omega)
      obtain ⟨q0, q1⟩ := chgCells_get vs j (by have := HCV.out.1; omega)
      obtain ⟨g, o, hag, -, hc⟩ := (Sl.of_owns hown).at (by intro e; rw [e] at q0; simp at q0)
      have x1 := hc _ _ q0
      have y1 := hc _ _ q1
      rw [e1] at x1
      rw [e3] at y1 hown2
      rw [← Nat.add_assoc] at y1
      obtain ⟨hp0, hp1, hp2⟩ := HCG.out _ (List.getElem_mem (h := (by omega : j < cs.length)))
      rw [hp2] at y1 hown2
      obtain ⟨c, hcj⟩ : ∃ c, cs[j]'(by omega) = c := ⟨_, rfl⟩
      have htk : cs.take (j + 1) = cs.take j ++ [c] := by rw [List.take_succ_eq_append_getElem (by omega), hcj]
      rw [hcj] at x1 hown2 hp0 hp1 hp2
      subst hag
      obtain ⟨pg, dt⟩ := c
      dsimp only at x1 y1 hown2 hp0 hp1 hp2
      obtain ⟨i, hi⟩ : ∃ i : Nat, pg / 32 = (i : Int) := ⟨(pg / 32).toNat, by omega⟩
      obtain ⟨k, hk⟩ : ∃ k : Nat, pg % 32 = (k : Int) := ⟨(pg % 32).toNat, by omega⟩
      have hi4 : i < 4 := by omega
      have hk32 : k < 32 := by omega
      have HPA : RowKit.Hid (∀ w1 : World, Calls Tryd.prog 33 #[.int .i64 pg] w1 fun e w' => e = .returned (.tuple #[.int .i64 (i : Int), .int .i64 (k : Int), .int .i64 0]) ∧ w1 = w') := Lib.hid (fun w1 => by
        have := path_calls pg w1
        rw [show pathF pg = (pg / 32, pg % 32, 0) from if_pos ⟨hp0, hp1⟩] at this
        rw [hi, hk] at this
        exact this)
      have hok : okF (plnF B tn (cs.take j)) := plnF_ok _ _ _ (fun c hc => by have := HCG.out c (List.mem_of_mem_take hc); exact ⟨this.1, this.2.1⟩)
      have hstep := mpF_step B tn (plnF B tn (cs.take j)) (pg, dt)
      have hcnt := cnt4_step B tn (plnF B tn (cs.take j)) (pg, dt) ⟨hp0, hp1⟩
      have hfs := plnF_snoc B tn (cs.take j) (pg, dt)
      have hfu := fullC_snoc (cs.take j) (pg, dt)
      rw [← htk] at hfs hfu
      dsimp only at hstep hcnt hfu
      rw [hi, hk] at hstep
      rw [hi] at hcnt
      rw [Int.toNat_natCast] at hstep
      have hc4 := cnt4_le (plnF B tn (cs.take j))
      have hlfl := leafG7_len hok B tn (i : Int)
      have hlfd : leafG7 (plnF B tn (cs.take j)) B tn (i : Int) = (plnF B tn (cs.take j) i).getD (rdN B (tn.getD i 0)) := rfl
      have hFq : ∀ l, plnF B tn (cs.take j) i = some l → l.length = 32 := fun l hl => (hok i l hl).2.2
      rw [← hfs] at hstep hcnt
      clear hfs hok hi hk
      have hfll : (fullC (cs.take j)).length ≤ 128 := Nat.le_trans (List.length_filter_le _ _) (by rw [List.length_take]; omega)
      obtain ⟨F', hF'⟩ : ∃ F', plnF B tn (cs.take (j + 1)) = F' := ⟨_, rfl⟩
      rw [hF'] at hstep hcnt
      have HPL := Lib.hid hF'.symm
      clear hF'
      generalize plnF B tn (cs.take j) = F at *
      generalize fullC (cs.take j) = fl at *
      obtain ⟨fl', hfl'⟩ : ∃ fl', fullC (cs.take (j + 1)) = fl' := ⟨_, rfl⟩
      rw [hfl'] at hfu
      generalize hlf : leafG7 F B tn (i : Int) = lf at *
      have hFr0 : Fr No wr (wr.alloc (Obj.cells #[.int .i64 pg, .slice db' 64 dc] 32)) := (Fr.refl No wr).alloc _
      have hlk := ((hmp.fr hFr0 (fun h => h)).look Tryd.underlying3 Tryd.underlying127 (hz _) (i : Int) (by omega)).1
      have k33 : (wr.alloc (Obj.cells #[.int .i64 pg, .slice db' 64 dc] 32)).cell? ⟨pb, 33, none⟩ = some (.map (some lm)) := plan33g (heap_alloc _ hbx) HTL.out
      have HBX := Lib.hid hbx
      have HMP := Lib.hid hmp
      have HPO := Lib.hid hpo
      have HPC := Lib.hid hpc
      have HFR := Lib.hid hF
      have HDT := Lib.hid hown2
      have HST := Lib.hid (And.intro hstep (And.intro hcnt (And.intro hfu (And.intro hlfl hlfd))))
      have HFQ := Lib.hid hFq
      have HP2 := Lib.hid hp2
      have HTK := Lib.hid (And.intro htk hfl')
      have HLFI := Lib.hid (HLF.out i (by omega))
      have HB11 := Lib.hid (heap_new wr (Obj.cells #[.int .i64 pg, .slice db' 64 dc] 32))
      have HB15 := Lib.hid (heap_new2_7 wr (Obj.cells #[.int .i64 pg, .slice db' 64 dc] 32) (Obj.cells (nds nd0).toArray 99))
      have HN15 := Lib.hid (heap_nd HB15.out nd0_len)
      have hwr2 : wr.heap.size ≥ lm + 2 := by have := hF.size; omega
      have HWR := Lib.hid hwr2
      clear hbx hmp hpo hpc hF hown2 hstep hcnt hfu hlfl hlfd hFq hp2 htk hfl' hlf e1 e2 e3 hdw q0 q1 hc hcj hrb hown hFr0 h1 h2 h3 h4 hwr2
      obtain ⟨lx, hlx⟩ : ∃ lx, (F (i : Int)).getD nd0 = lx := ⟨_, rfl⟩
      obtain ⟨bx, hbx2⟩ : ∃ bx, (F (i : Int)).isSome = bx := ⟨_, rfl⟩
      have hlxl : lx.length = 32 := by
        rw [← hlx]
        cases hq : F (i : Int) with
        | none => exact nd0_len
        | some l => exact HFQ.out l hq
      have hlk2 : (Instr.lookup 127 (.map (some lm)) (.int .i64 (i : Int)) true).run Tryd.prog (wr.alloc (Obj.cells #[.int .i64 pg, .slice db' 64 dc] 32)) = .ok (.tuple #[.agg (nds lx).toArray, .bool bx]) (wr.alloc (Obj.cells #[.int .i64 pg, .slice db' 64 dc] 32)) := by
        rw [hlk, ← hlx, ← hbx2]
        unfold mpF
        cases F (i : Int) <;> rfl
      have HLFX : RowKit.Hid ((bx = true → lf = lx) ∧ (bx = false → lf = rdN B (tn.getD i 0))) := Lib.hid (by
        rw [HST.out.2.2.2.2, ← hlx, ← hbx2]
        cases F (i : Int) <;> simp)
      have HLX := Lib.hid hlxl
      have hdr : DkR wr db Ad acts N B := (HD.out.fr0 HF6.out).fr HFR.out (fun k hk => by have := HD.out.low k hk; have := HPB.out.2.2.1; have := HPB.out.1; omega)
      have HDR := Lib.hid hdr
      clear hlk hlx hbx2 hlxl hdr
      go_wp2_with fail
      refine (HPA.out _).mono ?_
      rintro e w7 ⟨rfl, rfl⟩
      go_upto_if 69 with (first
        | (refine alloc_nd7 (wr.heap.size + 1) (by simp) rfl rfl ?_)
        | (refine store_nd rfl _ _ rfl (wr.heap.size + 1) 0 lx rfl rfl HLX.out HN15.out.2.2 ?_; intro hF7)
        | fail "arm")
      have hb15 := heap_setCells7 HB15.out (nds lx) (by rw [nds_len, nds_len, nd0_len, HLX.out])
      have hb11 := hF7.heap (heap_alloc (Obj.cells (nds nd0).toArray 99) HB11.out) (fun (e : wr.heap.size = _) => by omega)
      have hFw7 : Fr No wr (World.setCells ((wr.alloc (Obj.cells #[.int .i64 pg, .slice db' 64 dc] 32)).alloc (Obj.cells (nds nd0).toArray 99)) (wr.heap.size + 1) 0 (nds lx)) := (((Fr.refl No wr).alloc _).alloc _).trans' hF7 (fun i hi (e : i = _) => by omega)
      generalize World.setCells ((wr.alloc (Obj.cells #[.int .i64 pg, .slice db' 64 dc] 32)).alloc (Obj.cells (nds nd0).toArray 99)) (wr.heap.size + 1) 0 (nds lx) = W7 at *
      have HC15 := Lib.hid hb15
      have HC11 := Lib.hid hb11
      have HF7 := Lib.hid hFw7
      have hbp := hFw7.heap HBX.out (fun h => h)
      have hpi := (plan_nd hbp HTL.out).2.1 i (.int .i64 (tn.getD i 0)) (by
        rw [show tn.getD i 0 = tn[i]'(by have := HTL.out; omega) from by rw [List.getD_eq_getElem?_getD, List.getElem?_eq_getElem (by have := HTL.out; omega)]; rfl]
        simpa using nds_get tn i (by have := HTL.out; omega))
      have HSR := Lib.hid (sreadn_calls (HDR.out.fr0 hFw7) (tn.getD i 0) (HLFI.out.elim .inl (fun h => .inr h.2)))
      clear hF7 hb15 hb11 hFw7 hbp hlk2
      generalize tn.getD i 0 = ti at *
      go_cut [] (fun wx => wx.heap[wr.heap.size + 1]? = some (.cells (nds lf).toArray 99 (0, 0)) ∧ wx.heap[wr.heap.size]? = some (.cells [.int .i64 pg, .slice db' 64 dc].toArray 32 (0, 0)) ∧ Fr No wr wx)
      case first =>
        cases bx
        · have HE := Lib.hid (HLFX.out.2 rfl)
          simp only [Bool.not_false]
          go_wp2_with fail
          refine HSR.out.mono ?_
          rintro e W8 ⟨rfl, hF8⟩
          have HC8 := Lib.hid (hF8.heap HC15.out (fun h => h))
          have HD8 := Lib.hid (hF8.heap HC11.out (fun h => h))
          have HN8 := Lib.hid (heap_nd HC8.out HLX.out)
          have HF8 := Lib.hid (HF7.out.trans hF8)
          have HRL := Lib.hid (rdN_len B ti)
          clear hF8
          generalize rdN B ti = lr at *
          go_wp2_with (first
            | (refine store_nd rfl _ _ rfl (wr.heap.size + 1) 0 lr rfl rfl HRL.out HN8.out.2.2 ?_; intro hF9)
            | fail "arm")
          go_meet
          exact ⟨by rw [HE.out]; exact heap_setCells7 HC8.out (nds lr) (by rw [nds_len, nds_len, HLX.out, HRL.out]), hF9.heap HD8.out (fun (e : wr.heap.size = _) => by omega), HF8.out.trans' hF9 (fun i hi (e : i = _) => by omega)⟩
        · have HE := Lib.hid (HLFX.out.1 rfl)
          simp only [Bool.not_true]
          go_wp2_with fail
          go_meet
          exact ⟨by rw [HE.out]; exact HC15.out, HC11.out, HF7.out⟩
      case rest =>
        obtain ⟨hc15, hc11, hFc⟩ := hcut
        have k11 := heap_cell (o := 1) hc11 rfl
        have HBK := Lib.hid (blankg_calls (.slice db' 64 dc) dt wc (by have := HP2.out; omega) (by rw [HP2.out]; exact (Sl.of_owns HDT.out).fr0 hFc))
        have HX15 := Lib.hid hc15
        have HX11 := Lib.hid hc11
        have HXF := Lib.hid hFc
        have HS15 := Lib.hid (Nat.lt_of_lt_of_le (Nat.lt_of_le_of_lt (Nat.le_refl _) (heap_lt7 hc15)) (Nat.le_refl _))
        clear hc15 hc11 hFc HC15 HC11 HF7 HSR HLX HN15 HB15 HB11 hpi k33
        generalize hbk : blankB dt = bk at *
        go_wp2_with fail
        refine HBK.out.mono ?_
        rintro e W9 ⟨rfl, rfl⟩
        go_upto_if 81 with fail
        go_cut [17] (fun s17 wx => PlJ w.heap.size W6 pb lm (wr.heap.size + 1) tn top sm F lf fl' (if bk = true then 0 else -1) s17 wx)
        case first =>
          cases bk
          · simp only [Bool.not_false]
            obtain ⟨pa, pc, hpv⟩ := (Sl.of_owns HPO.out).form
            subst hpv
            have hbx9 := HXF.out.heap HBX.out (fun h => h)
            have k0d : wc.drew.cell? ⟨pb, 0, none⟩ = some (.slice pa fl.length pc) := heap_cell (w := wc) (o := 0) hbx9 rfl
            have k10d : wc.drew.cell? ⟨wr.heap.size, 0, none⟩ = some (.int .i64 pg) := heap_cell (w := wc) (o := 0) HX11.out rfl
            have k11d : wc.drew.cell? ⟨wr.heap.size, 1, none⟩ = some (.slice db' 64 dc) := k11
            have k0e : (wc.alloc (Obj.cells #[.int .i64 pg, .slice db' 64 dc] 32)).cell? ⟨pb, 0, none⟩ = some (.slice pa fl.length pc) := ((Fr.refl No wc).alloc _).cell (heap_cell (o := 0) hbx9 rfl) (fun h => h)
            have HBX9 := Lib.hid hbx9
            have HFD := Lib.hid ((HXF.out.drew).alloc (Obj.cells #[.int .i64 pg, .slice db' 64 dc] 32))
            have HPO9 := Lib.hid (ownsRow_fr7 HPO.out HFD.out (fun _ _ h => h))
            have HS9 : RowKit.Hid (W6.heap.size ≤ (wc.drew.alloc (Obj.cells #[.int .i64 pg, .slice db' 64 dc] 32)).heap.size) := Lib.hid (Nat.le_trans HFR.out.size HFD.out.size)
            clear hbx9
            go_upto_region 16 with fail
            go_region_law (refine step_append_sl el_chg rfl _ _ rfl W6.heap.size (.slice pa fl.length pc) fl.length (chgCells vp) rfl HPO9.out rfl (sl_new7 wc.drew [.int .i64 pg, .slice db' 64 dc] _ 1 (by simp) (by omega)) rfl (fun u hu => by simp at hu; rcases hu with rfl | rfl <;> rfl) (by unfold maxLen; omega) (by omega) HS9.out ?_; intro a9 n9 c9 w9 hown9 hgrow9 hlie9; have hF9 := fr_grown7 hgrow9; have hpb9 := hF9.heap (heap_alloc (Obj.cells #[.int .i64 pg, .slice db' 64 dc] 32) HBX9.out) (fun e => not_row7 (heap_alloc (Obj.cells #[.int .i64 pg, .slice db' 64 dc] 32) HBX9.out) (fun cs f e3 => by injection e3 with _ e3; exact absurd e3 (by decide)) HPO9.out _ e rfl); have k9 := heap_cell (o := 0) hpb9 rfl; have f9 := heap_frozen (o := 0) hpb9)
            all_goals (
              have hFs : Fr (fun k => k = pb) w9 (w9.setCell ⟨pb, 0, none⟩ (.slice a9 n9 c9)) := (Fr.refl (fun k => k = pb) w9).setCell (p := ⟨pb, 0, none⟩) (fun _ => rfl) _
              have hrow : ∀ q, (Value.slice pa fl.length pc).ownBlock = some q → lm + 2 ≤ q := fun q e => by have := (HPO9.out.lt q e).1; have := HPB.out.2.1; omega
              have hd9 : ∀ n v xs q, (wc.drew.alloc (Obj.cells #[.int .i64 pg, .slice db' 64 dc] 32)).ownsRow w.heap.size 5 1 v n xs → v.ownBlock = some q → ¬ (Value.slice pa fl.length pc).ownBlock = some q := fun n v xs q hv e e2 => rows_apart7 hv HPO9.out (by decide) q e e2
              have hds : ∀ n v xs q, w9.ownsRow w.heap.size 5 1 v n xs → v.ownBlock = some q → ¬ q = pb := fun n v xs q hv e e2 => not_row7 hpb9 (fun cs f e3 => by injection e3 with _ e3; exact absurd e3 (by decide)) hv q e e2
              have hx15 := hF9.heap (heap_alloc (Obj.cells #[.int .i64 pg, .slice db' 64 dc] 32) HX15.out) (fun e => not_row7 (heap_alloc (Obj.cells #[.int .i64 pg, .slice db' 64 dc] 32) HX15.out) (fun cs f e3 => by injection e3 with _ e3; exact absurd e3 (by decide)) HPO9.out _ e rfl)
              go_wp2_with fail
              go_meet
              have hpb := HPB.out.1
              have hwr := HWR.out
              have h15 := HS15.out
              have hfl' : fl' = fl ++ [(pg, dt)] := by rw [HST.out.2.2.1]; simp
              have hsz1 : wc.heap.size ≤ w9.heap.size := Nat.le_trans ((Fr.refl No wc).drew.alloc _).size hF9.size
              have hFall : Fr (fun k => k = pb ∨ k = lm) W6 (w9.setCell ⟨pb, 0, none⟩ (.slice a9 n9 c9)) := ((HFR.out.trans HFD.out.no).trans' hF9 (fun q hq e => by have := hrow q e; have := HPB.out.2.1; omega)).trans (hFs.mono (fun k _ e => .inl e))
              refine ⟨rfl, hFs.heap hx15 (fun (e : wr.heap.size + 1 = pb) => by omega), (((HMP.out.fr HFD.out (fun h => h)).fr hF9 (fun e => by have := hrow _ e; omega)).fr hFs (fun (e : lm = pb) => by omega)), ⟨.slice a9 n9 c9, vp ++ [(pg, .slice db' 64 dc)], heap_setAt7 hpb9 0 _, ?_, ?_⟩, hFall, Nat.lt_of_lt_of_le (Nat.lt_of_lt_of_le h15 hsz1) hFs.size, by omega⟩
              · rw [hfl', List.length_append, chgCells_snoc]
                exact ownsRow_fr7 hown9 hFs (fun q e e2 => not_row7 hpb9 (fun cs f e3 => by injection e3 with _ e3; exact absurd e3 (by decide)) hown9 q e e2)
              · rw [hfl']
                refine ChV.snoc (((HPC.out.fr0 HFD.out).frP hF9 hd9).frP hFs hds) ?_
                have hdt := ownsRow_fr7 HDT.out HFD.out (fun _ _ h => h)
                rw [show ((pg, dt) : Chg).2.length = 64 from HP2.out]
                exact ownsRow_fr7 (ownsRow_fr7 hdt hF9 (fun q e => hd9 _ _ _ q hdt e)) hFs (fun q e => hds _ _ _ q (ownsRow_fr7 hdt hF9 (fun q e => hd9 _ _ _ q hdt e)) e))
          · simp only [Bool.not_true]
            go_wp2_with fail
            go_meet
            refine ⟨rfl, HX15.out, HMP.out.fr HXF.out (fun h => h), ⟨pv, vp, HXF.out.heap HBX.out (fun h => h), ?_, ?_⟩, HFR.out.trans HXF.out.no, HS15.out, by have := HWR.out; omega⟩
            · rw [show fl' = fl from by rw [HST.out.2.2.1]; simp]; exact ownsRow_fr7 HPO.out HXF.out (fun _ _ h => h)
            · rw [show fl' = fl from by rw [HST.out.2.2.1]; simp]; exact HPC.out.fr0 HXF.out
        case rest =>
          obtain ⟨rfl, hj15, hjm, ⟨pv9, vp9, hjb, hjp, hjc⟩, hjF, hjs, hjl⟩ := hcut
          have hpb := HPB.out.1
          obtain ⟨z, hz7⟩ : ∃ z : Int, (if bk = true then (0 : Int) else -1) = z := ⟨_, rfl⟩
          have hst1 := HST.out.1
          rw [hz7] at hst1
          rw [hz7]
          have k33 : wc.drew.cell? ⟨pb, 33, none⟩ = some (.map (some lm)) := plan33g (w := wc) hjb HTL.out
          have hnr : wc.drew.rangeAt (wr.heap.size + 1) 0 (nds lf) := fun j v hj => by rw [Nat.zero_add]; exact heap_cell (w := wc) hj15 (by simpa using hj)
          have hlfl := HST.out.2.2.2.1
          have HSZ := Lib.hid (show (Tryd.prog.info? 99).map (·.size) = some (nds lf).length by rw [size_nd, nds_len, hlfl])
          have HWI := Lib.hid (fun w1 => swith_calls lf hlfl k hk32 z w1)
          have HS1 := Lib.hid hst1
          have HJ := Lib.hid (And.intro hj15 (And.intro hjm (And.intro hjb (And.intro hjp (And.intro hjc hjF)))))
          have HC2 := Lib.hid HST.out.2.1
          clear hj15 hjm hjb hjp hjc hjF hst1 hz7
          go_upto_region 17 with fail
          refine wp_region_held_drew (S := (fun w' => w'.cell? ⟨pb, 33, none⟩ = some (.map (some lm)) ∧ w'.rangeAt (wr.heap.size + 1) 0 (nds lf))) (by kernel_rfl) ⟨k33, hnr⟩ (fun hS0 => ?_)
          refine take_at7 (i := 0) (d := some 92) (v := ?_) rfl rfl (by kernel_rfl) (by kernel_rfl) (by kernel_rfl) (fun _ _ _ h => h) (Or.inl ⟨by rfl, ?_⟩) (by assumption) ?_
          rotate_left
          · intro w hSw; go_simp; try (with_reducible rfl)
          try simp only [Act.put, List.setIfInBounds_toArray, List.set_cons_zero, List.set_cons_succ]
          refine take_at7 (i := 1) (d := some 93) (v := ?_) rfl rfl (by kernel_rfl) (by kernel_rfl) (by kernel_rfl) (fun _ _ _ h => h) (Or.inl ⟨by rfl, ?_⟩) (by assumption) ?_
          rotate_left
          · intro w hSw; go_simp; try (with_reducible rfl)
          try simp only [Act.put, List.setIfInBounds_toArray, List.set_cons_zero, List.set_cons_succ]
          refine take_at7 (i := 2) (d := some 94) (v := ?_) rfl rfl (by kernel_rfl) (by kernel_rfl) (by kernel_rfl) (fun _ _ _ h => h) (Or.inl ⟨by rfl, ?_⟩) (by assumption) ?_
          rotate_left
          · intro w hSw; go_simp; try (with_reducible rfl)
          try simp only [Act.put, List.setIfInBounds_toArray, List.set_cons_zero, List.set_cons_succ]
          refine take_at7 (i := 3) (d := some 95) (v := ?_) rfl rfl (by kernel_rfl) (by kernel_rfl) (by kernel_rfl) (fun _ _ _ h => h) (Or.inl ⟨by rfl, ?_⟩) (by assumption) ?_
          rotate_left
          · intro w hSw; go_simp; try (with_reducible rfl)
          try simp only [Act.put, List.setIfInBounds_toArray, List.set_cons_zero, List.set_cons_succ]
          refine take_at7 (i := 4) (d := some 96) (v := ?_) rfl rfl (by kernel_rfl) (by kernel_rfl) (by kernel_rfl) (fun _ _ _ h => h) (Or.inl ⟨by rfl, ?_⟩) (by assumption) ?_
          rotate_left
          · intro w hSw; go_simp; try (with_reducible rfl)
          try simp only [Act.put, List.setIfInBounds_toArray, List.set_cons_zero, List.set_cons_succ]
          refine take_at7 (i := 5) (d := some 97) (v := .agg (nds lf).toArray) rfl rfl (by kernel_rfl) (by kernel_rfl) (by kernel_rfl) (fun _ _ _ h => h) (yieldsIf_load_mid (by rfl) _ _ rfl (wr.heap.size + 1) 0 rfl (nds lf) _ (fun _ h => h.2) Tryd.underlying99 rfl HSZ.out) (by assumption) ?_
          try simp only [Act.put, List.setIfInBounds_toArray, List.set_cons_zero, List.set_cons_succ]
          refine take_at7 (i := 6) (d := some 98) (v := ?_) rfl rfl (by kernel_rfl) (by kernel_rfl) (by kernel_rfl) (fun _ _ _ h => h) (Or.inl ⟨by rfl, ?_⟩) (by assumption) ?_
          rotate_left
          · intro w hSw; go_simp; try (with_reducible rfl)
          try simp only [Act.put, List.setIfInBounds_toArray, List.set_cons_zero, List.set_cons_succ]
          refine take_at7 (i := 7) (d := some 99) (v := ?_) rfl rfl (by kernel_rfl) (by kernel_rfl) (by kernel_rfl) (fun _ _ _ h => h) (Or.inl ⟨by rfl, ?_⟩) (by assumption) ?_
          rotate_left
          · intro w hSw; go_simp; try (with_reducible rfl)
          try simp only [Act.put, List.setIfInBounds_toArray, List.set_cons_zero, List.set_cons_succ]
          refine one_H7 (i := 8) (d := some 100) rfl rfl rfl (by kernel_rfl) (fun K hK => ?_)
          go_simp
          (go_at_call 60; ((with_reducible refine (HWI.out _).mono ?_); rintro e w10 ⟨rfl, hF10⟩))
          refine hK.out _ _ ⟨hF10.cell k33 (fun h => h), fun j v hj => hF10.cell (hnr j v hj) (fun h => h)⟩ (fun hHeld => ?_)
          clear hK K
          try simp only [Act.put, List.setIfInBounds_toArray, List.set_cons_zero, List.set_cons_succ]
          have hFx10 : Fr No wc w10 := ((Fr.refl No wc).drew).trans hF10
          refine one_H7 (i := 9) (d := none) rfl rfl rfl (by kernel_rfl) (fun K hK => ?_)
          refine (wp_map_put7 (.tmp 95) (.tmp 96) (.tmp 100) 127 rfl rfl (HJ.out.2.1.fr hFx10 (fun h => h)) Tryd.underlying3 Tryd.underlying127 (by unfold maxLen; omega) (i : Int) (by omega) (.agg (nds (lf.set k z)).toArray) rfl rfl ?_)
          intro w11 hmap11 hF11
          refine hK.out _ _ ⟨hF11.cell (hF10.cell k33 (fun h => h)) (fun (e : pb = lm) => by omega), fun j v hj => hF11.cell (hF10.cell (hnr j v hj) (fun h => h)) (fun (e : wr.heap.size + 1 = lm) => by omega)⟩ (fun hHeld => ?_)
          clear hK K
          try simp only [Act.put, List.setIfInBounds_toArray, List.set_cons_zero, List.set_cons_succ]
          refine wpAnyH_done (by kernel_rfl) ?_ _
          have hFx11 : Fr (fun k => k = lm) wc w11 := hFx10.no.trans hF11
          have hm11 : MapAt Tryd.prog 3 w11 lm (cnt4 F') (mpF F') := by
            rw [HC2.out, ← HS1.out]
            have e : (mpF F (i : Int)).isSome = (F (i : Int)).isSome := by unfold mpF; cases F (i : Int) <;> rfl
            rw [e] at hmap11
            exact hmap11
          have HI11 : RowKit.Hid (PlI w.heap.size W6 pb lm B tn top sm (cs.take (j + 1)) w11) := Lib.hid ⟨pv9, vp9, hFx11.heap HJ.out.2.2.1 (fun (e : pb = lm) => by omega), by
            rw [HTK.out.2]
            exact ownsRow_fr7 HJ.out.2.2.2.1 hFx11 (fun q e e2 => by have := (HJ.out.2.2.2.1.lt q e).1; have := HPB.out.2.1; omega), by
            rw [HTK.out.2]
            refine HJ.out.2.2.2.2.1.frP hFx11 (fun n v xs q hv e e2 => ?_)
            obtain ⟨D, ⟨es, clock, hb2, -⟩, -⟩ := HJ.out.2.1
            exact not_row7 hb2 (fun cs f e3 => by cases e3) hv q e e2, by rw [← HPL.out]; exact hm11, HJ.out.2.2.2.2.2.trans (hFx11.mono (fun k _ e => .inr e))⟩
          clear hS0 hHeld hmap11 hF11 hF10 hFx10 hFx11 hm11 hnr k33
          go_wp2_with fail
          exact ⟨⟨j + 1, by omega, by go_num, HI11.out⟩, by simp [intOf]; omega⟩
    · have dj : decide ((j : Int) < (n : Int)) = false := decide_eq_false (by omega)
      have hjn : cs.take j = cs := List.take_of_length_le (by have := HCL.out; omega)
      rw [hjn] at hI
      obtain ⟨pv, vp, hbx, hpo, hpc, hmp, hF⟩ := hI
      have hok : okF (plnF B tn cs) := plnF_ok _ _ _ (fun c hc => by have := HCG.out c hc; exact ⟨this.1, this.2.1⟩)
      have HOKF := Lib.hid hok
      have HPLN : RowKit.Hid (plnF B tn cs = plnF B tn cs) := Lib.hid rfl
      obtain ⟨F, hFF⟩ : ∃ F, plnF B tn cs = F := ⟨_, rfl⟩
      rw [hFF] at hmp HOKF
      have HFF := Lib.hid hFF
      have HBX := Lib.hid hbx
      have HMP := Lib.hid hmp
      have HPO := Lib.hid hpo
      have HPC := Lib.hid hpc
      have HFR := Lib.hid hF
      have k33 : wr.cell? ⟨pb, 33, none⟩ = some (.map (some lm)) := plan33g hbx HTL.out
      have hwr2 : wr.heap.size ≥ lm + 2 := by have := hF.size; have := HPB.out.2.1; omega
      have HWR := Lib.hid hwr2
      clear hjn hbx hpo hpc hmp hF hok hFF hwr2
      go_wp2_with (first
        | (refine rgc_range rfl (.tmp 105) 127 rfl rfl HMP.out Tryd.underlying3 Tryd.underlying127 ?_; intro w12 hrg12 hF12 hs12)
        | fail "arm")
      have HK0 : RowKit.Hid (PlK w.heap.size W6.heap.size w12 pb lm wr.heap.size tn F top sm (fullC cs) w12) := Lib.hid ⟨fun i => (F i).isSome, _, fun i h => h, by
        rw [keepV_start]
        have e : (fun i => (mpF F i).isSome) = fun i => (F i).isSome := by funext i; unfold mpF; cases F i <;> rfl
        rw [e] at hrg12
        exact hrg12, ⟨pv, vp, by rw [topV_start _ _ HTL.out]; exact hF12.heap HBX.out (fun h => h), ownsRow_fr7 HPO.out hF12 (fun _ _ h => h), HPC.out.fr0 hF12⟩, Fr.refl _ _⟩
      have HF12 := Lib.hid hF12
      have HS12 := Lib.hid hs12
      clear hrg12 hF12 hs12 k33
      generalize hfl : fullC cs = fl at *
      have HFL := Lib.hid hfl
      clear hfl
      generalize hrb : wr.heap.size = rb at *
      have HRB := Lib.hid (show lm + 2 ≤ rb by have := HWR.out; omega)
      go_loopw [] (fun wx => PlK w.heap.size W6.heap.size w12 pb lm rb tn F top sm fl wx) (fun wx => wx.rangeLeft lm rb)
      case atStart => exact HK0.out
      case round =>
        rename_i w20
        obtain ⟨left, cnt, hls, hrg, ⟨pv2, vp2, hb2, hp2, hc2⟩, hF2⟩ := hrel
        have HRG := Lib.hid hrg
        have HB2 := Lib.hid hb2
        have HP2 := Lib.hid hp2
        have HC2 := Lib.hid hc2
        have HF2 := Lib.hid hF2
        have HLS := Lib.hid hls
        have HLE := Lib.hid hrg.left_eq
        clear hls hrg hb2 hp2 hc2 hF2 HK0
        go_wp2_with (first
          | (refine rgc_next rfl (.tmp 106) rfl rfl HRG.out Tryd.underlying3 ?_ ?_)
          | fail "arm")
        · intro h0 hl0
          have HL0 := Lib.hid hl0
          clear h0 hl0
          go_wp2_with fail
          go_ret
          have h1 := HPB.out.1
          have h2 := HPB.out.2.2.1
          have h3 := HRB.out
          refine ⟨((HF6.out.trans' HFR.out (fun q hq (e : q = pb ∨ q = lm) => by omega)).trans HF12.out).trans' HF2.out (fun q hq (e : q = pb ∨ q = lm ∨ q = rb) => by omega), .inr (.inr ⟨HGD.out, ⟨s, HTS.out⟩, pb, lm, rfl, ?_⟩)⟩
          rw [HCS.out, HTN.out, HFF.out, HSM.out, HFL.out]
          have hm := HRG.out.map
          rw [keepV_end _ _ HL0.out] at hm
          have hbb := HB2.out
          rw [topV_end _ _ _ HL0.out] at hbb
          exact ⟨⟨pv2, vp2, hbb, ownsRow_base HP2.out (by have := HPB.out.2.1; omega), HC2.out⟩, hm, by omega, h2, topF_len _ _⟩
        · intro i v w13 cnt13 hl13 hf13 hrg13 hlt13 hF13 hs13 hen13
          obtain ⟨l, hl⟩ : ∃ l, F i = some l := by
            have := HLS.out i hl13
            cases hq : F i with
            | none => rw [hq] at this; cases this
            | some l => exact ⟨l, rfl⟩
          have hv : v = .agg (nds l).toArray := by
            have e : mpF (keepV F left) i = some (ndV l) := by
              unfold mpF keepV
              rw [hl13, if_pos rfl, hl]
              rfl
            rw [e] at hf13
            exact (Option.some.inj hf13).symm
          subst hv
          obtain ⟨hi0, hi4, hll⟩ := HOKF.out i l hl
          obtain ⟨m, rfl⟩ : ∃ m : Nat, i = (m : Int) := ⟨i.toNat, by omega⟩
          have hm4 : m < 4 := by omega
          have h1 := HPB.out.1
          have h3 := HRB.out
          have hltr := hrg13.lt
          have HEQ := Lib.hid (fun w => eq_nd l nd0 hll nd0_len w)
          have HLL := Lib.hid hll
          have HL13 := Lib.hid hl13
          have HLm := Lib.hid hl
          have HB13 := Lib.hid (hF13.heap HB2.out (fun (e : pb = rb) => by omega))
          have HBn := Lib.hid (heap_new w13 (Obj.cells (nds nd0).toArray 99))
          have HNn := Lib.hid (heap_nd HBn.out nd0_len)
          have HRG13 := Lib.hid hrg13
          have HLT := Lib.hid hlt13
          have HF13 := Lib.hid (HF2.out.trans (hF13.mono (T := fun k => k = pb ∨ k = lm ∨ k = rb) (fun k _ e => .inr (.inr e))))
          have HP13 := Lib.hid (ownsRow_fr7 HP2.out hF13 (fun q e (e2 : q = rb) => by
            obtain ⟨n', D, L', q1, -⟩ := HRG.out
            obtain ⟨es, clock, since, seen, c0, w1, w2, w3, w4, w5, w6⟩ := q1
            subst e2
            exact not_row7 w5 (fun cs f e3 => by cases e3) HP2.out _ e rfl))
          have HC13 := Lib.hid (HC2.out.frP hF13 (fun n v xs q hv e (e2 : q = rb) => by
            obtain ⟨n', D, L', q1, -⟩ := HRG.out
            obtain ⟨es, clock, since, seen, c0, w1, w2, w3, w4, w5, w6⟩ := q1
            subst e2
            exact not_row7 w5 (fun cs f e3 => by cases e3) hv _ e rfl))
          have HH := Lib.hid (And.intro h1 (And.intro h3 hltr))
          have HLS2 := HLS
          clear hf13 hrg13 hlt13 hF13 hl13 hl hll HRG HB2 HP2 HC2 HF2 HLS hs13 h1 h3 hltr
          by_cases hz : l = nd0
          · have HDZ := Lib.hid (decide_eq_true hz)
            have HZ := Lib.hid hz
            clear hz
            go_upto_region 22 with (first
              | (refine alloc_nd7 w13.heap.size rfl rfl rfl ?_)
              | (refine store_nd rfl _ _ rfl w13.heap.size 0 l rfl rfl HLL.out HNn.out.2.2 ?_; intro hF14)
              | fail "arm")
            simp only [Act.put, List.setIfInBounds_toArray, List.set_cons_zero, List.set_cons_succ]
            have hb14 := heap_setCells7 HBn.out (nds l) (by rw [nds_len, nds_len, nd0_len, HLL.out])
            have hF14a : Fr No w13 (World.setCells (w13.alloc (Obj.cells (nds nd0).toArray 99)) w13.heap.size 0 (nds l)) := ((Fr.refl No w13).alloc _).trans' hF14 (fun q hq (e : q = _) => by omega)
            generalize World.setCells (w13.alloc (Obj.cells (nds nd0).toArray 99)) w13.heap.size 0 (nds l) = W14 at *
            have HN14 := Lib.hid (heap_nd hb14 HLL.out)
            have HB14 := Lib.hid (hF14a.heap HB13.out (fun h => h))
            have HRG14 := Lib.hid (HRG13.out.fr hF14a (fun h => h) (fun h => h))
            have HF14 := Lib.hid hF14a
            have k33 : W14.cell? ⟨pb, 33, none⟩ = some (.map (some lm)) := plan33g HB14.out (topV_len _ _ _)
            clear hF14 hb14 hF14a hen13
            have hlm : (fun j => left j && !decide (j = (m : Int))) (m : Int) = false := by simp
            have HLmm := Lib.hid hlm
            clear hlm
            go_upto_region 26 with (first
              | (refine load_nd rfl _ rfl w13.heap.size 0 l rfl HN14.out ?_)
              | (refine build_nd rfl rfl ?_)
              | (refine eql_ndw rfl _ _ _ rfl l nd0 HLL.out nd0_len rfl rfl _ HDZ.out ?_; simp only [Act.put, List.setIfInBounds_toArray, List.set_cons_zero, List.set_cons_succ])
              | (refine rgc_del rfl (.tmp 118) (.tmp 119) 127 3 rfl rfl HRG14.out Tryd.underlying3 Tryd.underlying127 (m : Int) (by omega) HLmm.out rfl ?_; intro W15 cnt15 hrg15 hle15 hF15)
              | fail "arm")
            have HB15 := Lib.hid (hF15.heap HB14.out (fun (e : pb = lm) => by have := HH.out.1; omega))
            have HRG15 : RowKit.Hid (RgC Tryd.prog 3 W15 lm rb (cnt4 (keepV F (fun j => left j && !decide (j = (m : Int))))) (mpF (keepV F (fun j => left j && !decide (j = (m : Int))))) (fun j => left j && !decide (j = (m : Int))) cnt15) := Lib.hid (by
              have hl' : F (m : Int) = some nd0 := by rw [HLm.out, HZ.out]
              have e1 := keepV_del (left := left) hl'
              have e2 := keepV_cnt ⟨hi0, hi4⟩ hl' HL13.out
              have e3 : (mpF (keepV F left) (m : Int)).isSome = true := by unfold mpF keepV; rw [HL13.out, if_pos rfl, hl']; rfl
              rw [e3, if_pos rfl, ← e2, e1] at hrg15
              exact hrg15)
            have HLE15 := Lib.hid (Nat.lt_of_le_of_lt hle15 HLT.out)
            have HP15 := Lib.hid (ownsRow_fr7 (ownsRow_fr7 HP13.out HF14.out (fun _ _ h => h)) hF15 (fun q e (e2 : q = lm) => by
              have := (HP13.out.lt q e).1; have := HPB.out.2.1; omega))
            have HC15 := Lib.hid ((HC13.out.fr0 HF14.out).frP hF15 (fun n v xs q hv e (e2 : q = lm) => by
              obtain ⟨D, ⟨es, clock, hb2, -⟩, -⟩ := HRG14.out.map
              exact not_row7 hb2 (fun cs f e3 => by cases e3) hv q e e2))
            have HF15 := Lib.hid ((HF13.out.trans HF14.out.no).trans (hF15.mono (T := fun k => k = pb ∨ k = lm ∨ k = rb) (fun k _ e => .inr (.inl e))))
            clear hrg15 hle15 hF15 k33
            have HTP15 : RowKit.Hid ((topV tn F left).set m 0 = topV tn F (fun j => left j && !decide (j = (m : Int)))) := Lib.hid (by
              have := topV_step tn F left m (by omega) l HLm.out HL13.out
              rw [if_pos HZ.out] at this
              exact this)
            have HTVL := Lib.hid (topV_len tn F left)
            generalize topV tn F left = tv at *
            have HWT := Lib.hid (fun w1 => swith_calls tv HTVL.out m (by omega) 0 w1)
            have HNP := Lib.hid (plan_nd HB15.out HTVL.out)
            have HSL : RowKit.Hid ((tv.set m 0).length = 32) := Lib.hid (by rw [List.length_set]; exact HTVL.out)
            go_wp2_with (first
              | (refine load_nd rfl _ rfl pb 1 tv rfl HNP.out ?_)
              | fail "arm")
            refine (HWT.out _).mono ?_
            rintro e W16 ⟨rfl, hF16⟩
            have HB16 := Lib.hid (hF16.heap HB15.out (fun h => h))
            have HRG16 := Lib.hid (HRG15.out.fr hF16 (fun h => h) (fun h => h))
            have HP16 := Lib.hid (ownsRow_fr7 HP15.out hF16 (fun _ _ h => h))
            have HC16 := Lib.hid (HC15.out.fr0 hF16)
            have HF16 := Lib.hid (HF15.out.trans hF16.no)
            have HNP16 := Lib.hid (plan_nd HB16.out HTVL.out)
            have HSET := Lib.hid (plan_set (tn' := tv.set m 0) HB16.out (by rw [List.length_set]))
            clear hF16
            generalize htv : tv.set m 0 = tv' at *
            go_wp2_with (first
              | (refine store_nd rfl _ _ rfl pb 1 tv' rfl rfl HSL.out HNP16.out.2.2 ?_; intro hF17)
              | fail "arm")
            have hrg17 := HRG16.out.fr hF17 (fun (e : lm = pb) => by have := HH.out.1; omega) (fun (e : rb = pb) => by have := HH.out.1; have := HRB.out; omega)
            have HEND : PlK w.heap.size W6.heap.size w12 pb lm rb tn F top sm fl _ := ⟨_, _, fun q hq => HLS2.out q (by simp at hq; exact hq.1), hrg17, ⟨pv2, vp2, by rw [← HTP15.out]; exact HSET.out, ownsRow_fr7 HP16.out hF17 (fun q e (e2 : q = pb) => not_row7 HB16.out (fun cs f e3 => by injection e3 with _ e3; exact absurd e3 (by decide)) HP16.out q e e2), HC16.out.frP hF17 (fun n v xs q hv e (e2 : q = pb) => not_row7 HB16.out (fun cs f e3 => by injection e3 with _ e3; exact absurd e3 (by decide)) hv q e e2)⟩, HF16.out.trans (hF17.mono (T := fun k => k = pb ∨ k = lm ∨ k = rb) (fun k _ e => .inl e))⟩
            refine ⟨?_, ?_⟩
            · (repeat apply Exists.intro)
              refine ⟨HEND, rfl⟩
            · rw [hrg17.left_eq, HLE.out]; exact HLE15.out
          · have HDZ := Lib.hid (decide_eq_false hz)
            have HZ := Lib.hid hz
            clear hz
            go_upto_region 22 with (first
              | (refine alloc_nd7 w13.heap.size rfl rfl rfl ?_)
              | (refine store_nd rfl _ _ rfl w13.heap.size 0 l rfl rfl HLL.out HNn.out.2.2 ?_; intro hF14)
              | fail "arm")
            simp only [Act.put, List.setIfInBounds_toArray, List.set_cons_zero, List.set_cons_succ]
            have hb14 := heap_setCells7 HBn.out (nds l) (by rw [nds_len, nds_len, nd0_len, HLL.out])
            have hF14a : Fr No w13 (World.setCells (w13.alloc (Obj.cells (nds nd0).toArray 99)) w13.heap.size 0 (nds l)) := ((Fr.refl No w13).alloc _).trans' hF14 (fun q hq (e : q = _) => by omega)
            generalize World.setCells (w13.alloc (Obj.cells (nds nd0).toArray 99)) w13.heap.size 0 (nds l) = W14 at *
            have HN14 := Lib.hid (heap_nd hb14 HLL.out)
            have HB14 := Lib.hid (hF14a.heap HB13.out (fun h => h))
            have HRG14 := Lib.hid (HRG13.out.fr hF14a (fun h => h) (fun h => h))
            have HF14 := Lib.hid hF14a
            have k33 : W14.cell? ⟨pb, 33, none⟩ = some (.map (some lm)) := plan33g HB14.out (topV_len _ _ _)
            clear hF14 hb14 hF14a hen13
            go_upto_region 26 with (first
              | (refine load_nd rfl _ rfl w13.heap.size 0 l rfl HN14.out ?_)
              | (refine build_nd rfl rfl ?_)
              | (refine eql_ndw rfl _ _ _ rfl l nd0 HLL.out nd0_len rfl rfl _ HDZ.out ?_; simp only [Act.put, List.setIfInBounds_toArray, List.set_cons_zero, List.set_cons_succ])
              | fail "arm")
            have HB15 := HB14
            have HRG15 : RowKit.Hid (RgC Tryd.prog 3 W14 lm rb (cnt4 (keepV F (fun j => left j && !decide (j = (m : Int))))) (mpF (keepV F (fun j => left j && !decide (j = (m : Int))))) (fun j => left j && !decide (j = (m : Int))) cnt13) := Lib.hid (by
              rw [← keepV_stay (left := left) HLm.out HZ.out]
              exact HRG14.out)
            have HLE15 := HLT
            have HP15 := Lib.hid (ownsRow_fr7 HP13.out HF14.out (fun _ _ h => h))
            have HC15 := Lib.hid (HC13.out.fr0 HF14.out)
            have HF15 := Lib.hid (HF13.out.trans HF14.out.no)
            clear k33
            have HTP15 : RowKit.Hid ((topV tn F left).set m (-1) = topV tn F (fun j => left j && !decide (j = (m : Int)))) := Lib.hid (by
              have := topV_step tn F left m (by omega) l HLm.out HL13.out
              rw [if_neg HZ.out] at this
              exact this)
            have HTVL := Lib.hid (topV_len tn F left)
            generalize topV tn F left = tv at *
            have HWT := Lib.hid (fun w1 => swith_calls tv HTVL.out m (by omega) (-1) w1)
            have HNP := Lib.hid (plan_nd HB15.out HTVL.out)
            have HSL : RowKit.Hid ((tv.set m (-1)).length = 32) := Lib.hid (by rw [List.length_set]; exact HTVL.out)
            go_wp2_with (first
              | (refine load_nd rfl _ rfl pb 1 tv rfl HNP.out ?_)
              | fail "arm")
            refine (HWT.out _).mono ?_
            rintro e W16 ⟨rfl, hF16⟩
            have HB16 := Lib.hid (hF16.heap HB15.out (fun h => h))
            have HRG16 := Lib.hid (HRG15.out.fr hF16 (fun h => h) (fun h => h))
            have HP16 := Lib.hid (ownsRow_fr7 HP15.out hF16 (fun _ _ h => h))
            have HC16 := Lib.hid (HC15.out.fr0 hF16)
            have HF16 := Lib.hid (HF15.out.trans hF16.no)
            have HNP16 := Lib.hid (plan_nd HB16.out HTVL.out)
            have HSET := Lib.hid (plan_set (tn' := tv.set m (-1)) HB16.out (by rw [List.length_set]))
            clear hF16
            generalize htv : tv.set m (-1) = tv' at *
            go_wp2_with (first
              | (refine store_nd rfl _ _ rfl pb 1 tv' rfl rfl HSL.out HNP16.out.2.2 ?_; intro hF17)
              | fail "arm")
            have hrg17 := HRG16.out.fr hF17 (fun (e : lm = pb) => by have := HH.out.1; omega) (fun (e : rb = pb) => by have := HH.out.1; have := HRB.out; omega)
            have HEND : PlK w.heap.size W6.heap.size w12 pb lm rb tn F top sm fl _ := ⟨_, _, fun q hq => HLS2.out q (by simp at hq; exact hq.1), hrg17, ⟨pv2, vp2, by rw [← HTP15.out]; exact HSET.out, ownsRow_fr7 HP16.out hF17 (fun q e (e2 : q = pb) => not_row7 HB16.out (fun cs f e3 => by injection e3 with _ e3; exact absurd e3 (by decide)) HP16.out q e e2), HC16.out.frP hF17 (fun n v xs q hv e (e2 : q = pb) => not_row7 HB16.out (fun cs f e3 => by injection e3 with _ e3; exact absurd e3 (by decide)) hv q e e2)⟩, HF16.out.trans (hF17.mono (T := fun k => k = pb ∨ k = lm ∨ k = rb) (fun k _ e => .inl e))⟩
            refine ⟨?_, ?_⟩
            · (repeat apply Exists.intro)
              refine ⟨HEND, rfl⟩
            · rw [hrg17.left_eq, HLE.out]; exact HLE15.out
end Go.Proofs.YtpcikbloflpahaaDoor
