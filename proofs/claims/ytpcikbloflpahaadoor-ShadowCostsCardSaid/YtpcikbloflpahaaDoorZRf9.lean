/-
  Chapter 7: the reference's Cost.
-/
import Derived.Test.YtpcikbloflpahaaDoorZRf8
namespace Go.Proofs.YtpcikbloflpahaaDoor
set_option linter.unusedVariables false
set_option linter.unusedSimpArgs false
open Go.RowKit Go.Shelf Go.Maps

def posJ (l : List Int) (j : Nat) : List Bool := (List.range l.length).map fun p => if p < j then decide (0 < l.getD p 0) else false
theorem posJ_len (l : List Int) (j : Nat) : (posJ l j).length = l.length := by simp [posJ]
theorem posJ_zero (l : List Int) : posJ l 0 = List.replicate l.length false := by
  apply List.ext_getElem (by simp [posJ])
  intro i h1 h2
  simp [posJ]
theorem posJ_set (l : List Int) (j : Nat) (hj : j < l.length) : (posJ l j).set j (decide (0 < l.getD j 0)) = posJ l (j + 1) := by
  apply List.ext_getElem (by simp [posJ])
  intro k h1 h2
  rw [List.getElem_set]
  simp only [posJ, List.getElem_map, List.getElem_range]
  split
  · rename_i e; subst e; rw [if_pos (by omega)]
  · rename_i e
    by_cases q : k < j
    · rw [if_pos q, if_pos (by omega)]
    · rw [if_neg q, if_neg (by omega)]
def hasT (B : List Int) (top : Int) : List Bool := posJ (pgB B top 128) 128
def lvT (B : List Int) (top : Int) : List Bool := posJ (lvB B top 4) 4
def CostRQ (w : World) (B : List Int) (N : Nat) (top : Int) (L : List ChA) (e : Ending) (w' : World) : Prop :=
  Fr No w w' ∧ (((∀ y ∈ L, goodC y) ∧ (∃ s, treeB B N top = some s) ∧ e = .returned (.tuple #[.int .i64 (countR (hasT B top) (lvT B top) (outG (pagesG L 128)) : Int), .int .i64 0])) ∨
    ∃ n : Int, CostX B N top L n ∧ e = .returned (.tuple #[.int .i64 0, .int .i64 n]))
theorem size_b128 : (Tryd.prog.info? 93).map (·.size) = some 128 := by kernel_rfl
theorem size_b4 : (Tryd.prog.info? 94).map (·.size) = some 4 := by kernel_rfl
theorem alloc_b128 {ops : Array Oper} {rest : List Oper} {o : Oper} {a : Act} {w : World} {Q : Exit → Act → World → Prop} (hg : o.guard = none) (ho : o.op = .alloc 93)
    (hK : wpList Tryd.prog ops Q rest (a.put o.dst (.pointer (some ⟨w.heap.size, 0, none⟩))) (w.alloc (.cells (bls (List.replicate 128 false)).toArray 93))) : wpList Tryd.prog ops Q (o :: rest) a w := by
  have hr : (Instr.alloc 93 true (.tuple #[])).run Tryd.prog w = .ok (.pointer (some ⟨w.heap.size, 0, none⟩)) (w.alloc (.cells (bls (List.replicate 128 false)).toArray 93)) := by kernel_rfl
  refine wpList_plain hg fun K' hK' => ?_
  unfold Oper.wp
  simp only [execOp, ho, Sem.run_bind, hr, Result.andThen]
  exact hK' _ _ hK
theorem load_b128 {ops : Array Oper} {rest : List Oper} {o : Oper} {a : Act} {w : World} {Q : Exit → Act → World → Prop} (hg : o.guard = none) (x : Operand) (ho : o.op = .load 93 x)
    (b : Nat) (l : List Bool) (hx : a.eval x = .pointer (some ⟨b, 0, none⟩)) (h : w.heap[b]? = some (.cells (bls l).toArray 93 (0, 0))) (hl : l.length = 128)
    (hK : wpList Tryd.prog ops Q rest (a.put o.dst (.agg (bls l).toArray)) w) : wpList Tryd.prog ops Q (o :: rest) a w :=
  wpList_load_mid hg _ x ho b 0 hx (bls l) _ (fun j v hj => by rw [Nat.zero_add]; exact heap_cell h (by simpa using hj)) Tryd.underlying93 rfl (by rw [size_b128, bls_len, hl]) hK
theorem load_b4 {ops : Array Oper} {rest : List Oper} {o : Oper} {a : Act} {w : World} {Q : Exit → Act → World → Prop} (hg : o.guard = none) (x : Operand) (ho : o.op = .load 94 x)
    (b : Nat) (l : List Bool) (hx : a.eval x = .pointer (some ⟨b, 0, none⟩)) (h : w.heap[b]? = some (.cells (bls l).toArray 94 (0, 0))) (hl : l.length = 4)
    (hK : wpList Tryd.prog ops Q rest (a.put o.dst (.agg (bls l).toArray)) w) : wpList Tryd.prog ops Q (o :: rest) a w :=
  wpList_load_mid hg _ x ho b 0 hx (bls l) _ (fun j v hj => by rw [Nat.zero_add]; exact heap_cell h (by simpa using hj)) Tryd.underlying94 rfl (by rw [size_b4, bls_len, hl]) hK
theorem trC_lv {top : Int} {lv pg : List Int} {v : Value} {i : Nat} (h : i < lv.length) : (TrC top lv pg v).toArray[1 + i]? = some (.int .i64 (lv.getD i 0)) := by
  unfold TrC
  rw [List.getElem?_toArray, Nat.add_comm 1 i, List.getElem?_cons_succ, List.getElem?_append_left (by rw [ints7_len]; exact h)]
  simp [ints7, h]
theorem trC_pg {top : Int} {lv pg : List Int} {v : Value} {i : Nat} (h1 : lv.length = 4) (h : i < pg.length) : (TrC top lv pg v).toArray[5 + i]? = some (.int .i64 (pg.getD i 0)) := by
  unfold TrC
  rw [List.getElem?_toArray, show 5 + i = (4 + i) + 1 from by omega, List.getElem?_cons_succ, List.getElem?_append_right (by rw [ints7_len]; omega), List.getElem?_append_left (by simp only [ints7_len]; omega)]
  simp only [ints7_len]
  rw [h1, show 4 + i - 4 = i from by omega]
  simp [ints7, h]
theorem hcvL {n0 : Nat} {cs : List Chg} {vs : List (Int × Value)} {W W' : World} (h : ChV n0 cs vs W) (hF : Fr No W W') : ChV n0 cs vs W' := h.fr0 hF
attribute [local irreducible] lvB pgB rdN ndB trZ countR treeB
set_option maxHeartbeats 8000000 in
set_option maxRecDepth 1000000 in
theorem rcost_calls {w : World} {db N : Nat} {B : List Int} (hd : RfR w db N B) (top : Int) (htop : -9223372036854775808 ≤ top ∧ top ≤ 9223372036854775807)
    (v : Value) (L : List ChA) (hv : Sl w v L.length (L.flatMap chaC)) (hok : ∀ y ∈ L, chaOk w y) (hlen : L.length ≤ 140737488355328) :
    Calls Tryd.prog 14 #[.pointer (some ⟨db, 0, none⟩), .int .i64 top, v] w (CostRQ w B N top L) := by
  have HM := Lib.hid (rmerge_calls v L w hv hok hlen)
  have HD := Lib.hid hd
  clear hd hv hok hlen
  go_enter Tryd.func14, Tryd.ntmps14
  go_wp2_with fail
  refine HM.out.mono ?_
  rintro e w1 (⟨hg, r, vs, rfl, hF1, hown, hcv⟩ | ⟨hb, rfl, hF1⟩)
  · have HG := Lib.hid hg
    have HF1 := Lib.hid hF1
    have HOW := Lib.hid hown
    have HCV := Lib.hid hcv
    have HCG := Lib.hid (outG_good hg)
    clear hg hF1 hown hcv
    obtain ⟨ar, cr, rfl⟩ := (Sl.of_owns HOW.out).form
    go_wp2_with fail
    refine (trread_calls (HD.out.fr0 HF1.out) top htop).mono ?_
    rintro e w2 ⟨hF2, ⟨s, tv, hts, rfl, hot⟩ | ⟨htn, rfl⟩⟩
    · obtain ⟨at', ct', rfl⟩ := (Sl.of_owns hot).form
      have HTS := Lib.hid hts
      have HF := Lib.hid (HF1.out.trans hF2)
      have hcv2 := hcvL HCV.out hF2
      have hown2 := ownsRow_fr7 HOW.out hF2 (fun _ _ h => h)
      have HCV2 := Lib.hid hcv2
      have HOW2 := Lib.hid hown2
      have HTL := Lib.hid (trC_len (top := top) (v := .slice at' s.length ct') (lvB_len B top 4) (pgB_len B top 128))
      have HPL := Lib.hid (And.intro (lvB_len B top 4) (pgB_len B top 128))
      have HHT : RowKit.Hid (hasT B top = posJ (pgB B top 128) 128 ∧ lvT B top = posJ (lvB B top 4) 4) := Lib.hid ⟨rfl, rfl⟩
      clear hts hF2 hot hcv2 hown2
      generalize lvB B top 4 = lv at *
      generalize pgB B top 128 = pg at *
      go_wp2_with (first
        | (refine alloc_tr w2.heap.size rfl rfl rfl ?_)
        | (refine store_tr rfl _ _ rfl w2.heap.size (TrC top lv pg (.slice at' s.length ct')) trZ rfl rfl (heap_new w2 _) HTL.out trZ_len trC_one ?_; intro w3 hF3 hb3; have HB3 := Lib.hid hb3; have HF23 := Lib.hid (((Fr.refl No w2).alloc (.cells trZ.toArray 47)).trans' hF3 (fun i hi (e : i = _) => by omega)); clear hF3 hb3)
        | (refine alloc_b128 rfl rfl ?_)
        | fail "arm")
      have HN := Lib.hid (heap_new w3 (.cells (bls (List.replicate 128 false)).toArray 93))
      have HFa := Lib.hid ((HF.out.trans HF23.out).alloc (.cells (bls (List.replicate 128 false)).toArray 93))
      have hs23 : w2.heap.size < w3.heap.size := heap_lt7 HB3.out
      have HBa := Lib.hid (heap_alloc (.cells (bls (List.replicate 128 false)).toArray 93) HB3.out)
      have HF2a := Lib.hid (HF23.out.alloc (.cells (bls (List.replicate 128 false)).toArray 93))
      have HPZ : RowKit.Hid (posJ pg 0 = List.replicate 128 false ∧ posJ lv 0 = List.replicate 4 false) := Lib.hid ⟨by rw [posJ_zero, HPL.out.2], by rw [posJ_zero, HPL.out.1]⟩
      go_loopw [32] (fun i wr => ∃ j : Nat, j ≤ 128 ∧ i = .int .i64 (j : Int) ∧ wr.heap[w2.heap.size]? = some (.cells (TrC top lv pg (.slice at' s.length ct')).toArray 47 (0, 0)) ∧ wr.heap[w3.heap.size]? = some (.cells (bls (posJ pg j)).toArray 93 (0, 0)) ∧ Fr No w2 wr) (fun i _ => 128 - (intOf i).toNat)
      case atStart => exact ⟨0, by omega, rfl, HBa.out, by rw [HPZ.out.1]; exact HN.out, HF2a.out⟩
      case round =>
        obtain ⟨j, hj, rfl, hbt, hbh, hF⟩ := hrel
        by_cases hlt : j < 128
        · have dj : decide ((j : Int) < 128) = true := decide_eq_true (by omega)
          have cp := heap_cell hbt (trC_pg HPL.out.1 (by rw [HPL.out.2]; exact hlt) : _ = some (.int .i64 (pg.getD j 0)))
          have ch := heap_cell (o := j) hbh (by rw [List.getElem?_toArray]; exact bls_get _ _ (by rw [posJ_len, HPL.out.2]; exact hlt))
          have fh := heap_frozen (o := j) hbh
          have HPS := Lib.hid (posJ_set pg j (by rw [HPL.out.2]; exact hlt))
          generalize pg.getD j 0 = x at *
          have hFs : Fr (fun k => k = w3.heap.size) wr (wr.setCell ⟨w3.heap.size, j, none⟩ (.bool (decide (0 < x)))) := (Fr.refl (fun k => k = w3.heap.size) wr).setCell (p := ⟨w3.heap.size, j, none⟩) (fun _ => rfl) _
          have hbs := heap_setAt7 hbh j (.bool (decide (0 < x)))
          rw [bls_set, HPS.out] at hbs
          have HX := Lib.hid (And.intro (hFs.heap hbt (fun (e : w2.heap.size = w3.heap.size) => by omega)) (And.intro hbs (hF.trans' hFs (fun i hi (e : i = _) => by omega))))
          clear hbt hbh hF hFs hbs
          go_wp2_with fail
          refine ⟨⟨j + 1, by omega, by go_num, HX.out⟩, by simp [intOf]; omega⟩
        · obtain rfl : j = 128 := by omega
          have dj : decide (((128 : Nat) : Int) < 128) = false := by decide
          have HX := Lib.hid (And.intro hbt (And.intro hbh hF))
          clear hbt hbh hF
          go_wp2_with (first
            | (refine alloc_b4 rfl rfl ?_)
            | fail "arm")
          have HX2 := Lib.hid (And.intro (heap_alloc (.cells (bls (List.replicate 4 false)).toArray 94) HX.out.1) (And.intro (heap_alloc (.cells (bls (List.replicate 4 false)).toArray 94) HX.out.2.1) (And.intro (heap_new wr (.cells (bls (List.replicate 4 false)).toArray 94)) (HX.out.2.2.alloc (.cells (bls (List.replicate 4 false)).toArray 94)))))
          have hs3r : w3.heap.size < wr.heap.size := heap_lt7 HX.out.2.1
          generalize wr.heap.size = nl at *
          go_loopw [43] (fun i wy => ∃ j : Nat, j ≤ 4 ∧ i = .int .i64 (j : Int) ∧ wy.heap[w2.heap.size]? = some (.cells (TrC top lv pg (.slice at' s.length ct')).toArray 47 (0, 0)) ∧ wy.heap[w3.heap.size]? = some (.cells (bls (posJ pg 128)).toArray 93 (0, 0)) ∧ wy.heap[nl]? = some (.cells (bls (posJ lv j)).toArray 94 (0, 0)) ∧ Fr No w2 wy) (fun i _ => 4 - (intOf i).toNat)
          case atStart => exact ⟨0, by omega, rfl, HX2.out.1, HX2.out.2.1, by rw [HPZ.out.2]; exact HX2.out.2.2.1, HX2.out.2.2.2⟩
          case round =>
            obtain ⟨k, hk, rfl, hbt, hbh, hbl, hF⟩ := hrel
            by_cases hkt : k < 4
            · have dk : decide ((k : Int) < 4) = true := decide_eq_true (by omega)
              have cp := heap_cell hbt (trC_lv (by rw [HPL.out.1]; exact hkt) : _ = some (.int .i64 (lv.getD k 0)))
              have ch := heap_cell (o := k) hbl (by rw [List.getElem?_toArray]; exact bls_get _ _ (by rw [posJ_len, HPL.out.1]; exact hkt))
              have fh := heap_frozen (o := k) hbl
              have HPS := Lib.hid (posJ_set lv k (by rw [HPL.out.1]; exact hkt))
              generalize lv.getD k 0 = x at *
              have hFs : Fr (fun k => k = nl) wr (wr.setCell ⟨nl, k, none⟩ (.bool (decide (0 < x)))) := (Fr.refl (fun k => k = nl) wr).setCell (p := ⟨nl, k, none⟩) (fun _ => rfl) _
              have hbs := heap_setAt7 hbl k (.bool (decide (0 < x)))
              rw [bls_set, HPS.out] at hbs
              have HX3 := Lib.hid (And.intro (hFs.heap hbt (fun (e : w2.heap.size = nl) => by omega)) (And.intro (hFs.heap hbh (fun (e : w3.heap.size = nl) => by omega)) (And.intro hbs (hF.trans' hFs (fun i hi (e : i = _) => by omega)))))
              clear hbt hbh hbl hF hFs hbs
              go_wp2_with fail
              refine ⟨⟨k + 1, by omega, by go_num, HX3.out⟩, by simp [intOf]; omega⟩
            · obtain rfl : k = 4 := by omega
              have dk : decide (((4 : Nat) : Int) < 4) = false := by decide
              have HX4 := Lib.hid (And.intro hbt (And.intro hbh (And.intro hbl hF)))
              have HCT := Lib.hid (count_calls (w := wr) (posJ pg 128) (posJ lv 4) (by rw [posJ_len]; exact HPL.out.2) (by rw [posJ_len]; exact HPL.out.1) (.slice ar (pagesG L 128).length cr) (outG (pagesG L 128)) vs (by rw [outG_len]; exact ownsRow_fr7 HOW2.out hF (fun _ _ h => h)) (HCV2.out.fr0 hF) HCG.out (by rw [outG_len]; exact pagesG_len L 128))
              have HBH := Lib.hid (show (posJ pg 128).length = 128 ∧ (posJ lv 4).length = 4 from ⟨by rw [posJ_len]; exact HPL.out.2, by rw [posJ_len]; exact HPL.out.1⟩)
              clear hbt hbh hbl hF
              go_wp2_with (first
                | (refine load_b128 rfl _ rfl w3.heap.size (posJ pg 128) rfl HX4.out.2.1 HBH.out.1 ?_)
                | (refine load_b4 rfl _ rfl nl (posJ lv 4) rfl HX4.out.2.2.1 HBH.out.2 ?_)
                | fail "arm")
              refine HCT.out.mono ?_
              rintro e w9 ⟨rfl, hF9⟩
              have HF9 := Lib.hid (HF.out.trans (HX4.out.2.2.2.trans hF9))
              clear hF9
              rw [← HHT.out.1, ← HHT.out.2]
              generalize hR : countR (hasT B top) (lvT B top) (outG (pagesG L 128)) = R at *
              have HR := Lib.hid hR
              clear hR
              go_wp2_with fail
              go_ret2
              exact ⟨HF9.out, .inl ⟨HG.out, ⟨s, HTS.out⟩, by rw [HR.out]; rfl⟩⟩
    · have HF := Lib.hid (HF1.out.trans hF2)
      have HT := Lib.hid htn
      clear hF2 htn
      go_wp2_with (first
        | (refine alloc_tr w2.heap.size rfl rfl rfl ?_)
        | (refine store_tr rfl _ _ rfl w2.heap.size trZ trZ rfl rfl (heap_new w2 _) trZ_len trZ_len trZ_one ?_; intro w3 hF3 hb3)
        | fail "arm")
      go_ret2
      exact ⟨(HF.out.alloc _).trans' hF3 (fun i hi (e : i = _) => by have := HF.out.size; omega), .inr ⟨60, .inr ⟨HG.out, HT.out, rfl⟩, rfl⟩⟩
  · have HB := Lib.hid hb
    have HF := Lib.hid hF1
    clear hb hF1
    go_wp2_with fail
    go_ret2
    exact ⟨HF.out, .inr ⟨1, .inl ⟨HB.out, rfl⟩, rfl⟩⟩
end Go.Proofs.YtpcikbloflpahaaDoor
