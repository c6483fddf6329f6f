/-
  Chapter 7: the reference's Load: the memory of a tree.
-/
import Derived.Test.YtpcikbloflpahaaDoorYL
import Derived.Test.YtpcikbloflpahaaDoorYI
import Derived.Test.YtpcikbloflpahaaDoorZTr1
namespace Go.Proofs.YtpcikbloflpahaaDoor
set_option linter.unusedVariables false
set_option linter.unusedSimpArgs false
open Go.RowKit Go.Shelf Go.Maps

/-- A page's bytes; a memory's. -/
def pageB (B : List Int) (n : Int) : List Int := if 0 < n then secB B n.toNat else zs 64
def memJ (B : List Int) (pg : List Int) (j : Nat) : List Int := (List.range 128).flatMap fun p => if p < j then pageB B (pg.getD p 0) else zs 64
def memB (B : List Int) (top : Int) : List Int := memJ B (pgB B top 128) 128
def fitP (B : List Int) (N : Nat) (pg : List Int) : Prop := ∀ p : Nat, p < 128 → pg.getD p 0 ≤ 0 ∨ pg.getD p 0 < (N : Int)
theorem zs64_len : (zs 64).length = 64 := by simp [zs]
theorem pageB_len {B : List Int} {N : Nat} (hB : B.length = 64 * N) {n : Int} (h : n ≤ 0 ∨ n < (N : Int)) : (pageB B n).length = 64 := by
  unfold pageB
  split
  · exact secB_len (by omega)
  · exact zs64_len
theorem memJ_sec {B : List Int} {N : Nat} (hB : B.length = 64 * N) {pg : List Int} (hf : fitP B N pg) (j : Nat) : (memJ B pg j).length = 8192 ∧ ∀ p : Nat, p < 128 → secB (memJ B pg j) p = if p < j then pageB B (pg.getD p 0) else zs 64 := by
  have hl : ∀ p : Nat, p < 128 → (if p < j then pageB B (pg.getD p 0) else zs 64).length = 64 := fun p hp => by
    split
    · exact pageB_len hB (hf p hp)
    · exact zs64_len
  have gen : ∀ n ≤ 128, ((List.range n).flatMap fun p => if p < j then pageB B (pg.getD p 0) else zs 64).length = 64 * n ∧ ∀ p, p < n → secB ((List.range n).flatMap fun p => if p < j then pageB B (pg.getD p 0) else zs 64) p = if p < j then pageB B (pg.getD p 0) else zs 64 := by
    intro n
    induction n with
    | zero => intro _; exact ⟨rfl, fun p hp => by omega⟩
    | succ n ih =>
      intro hn
      obtain ⟨i1, i2⟩ := ih (by omega)
      rw [List.range_succ, List.flatMap_append, List.flatMap_cons, List.flatMap_nil, List.append_nil]
      refine ⟨by rw [List.length_append, i1, hl n (by omega)]; omega, fun p hp => ?_⟩
      unfold secB
      by_cases e : p = n
      · subst e
        rw [List.drop_append_of_le_length (by omega), List.drop_of_length_le (by omega), List.nil_append, List.take_of_length_le (by rw [hl p (by omega)]; omega)]
      · have := i2 p (by omega)
        unfold secB at this
        rw [List.drop_append_of_le_length (by omega), List.take_append_of_le_length (by rw [List.length_drop]; omega)]
        exact this
  exact gen 128 (Nat.le_refl _)
theorem ext_sec {a b : List Int} {n : Nat} (ha : a.length = 64 * n) (hb : b.length = 64 * n) (h : ∀ p, p < n → secB a p = secB b p) : a = b := by
  apply List.ext_getElem (by omega)
  intro i h1 h2
  have := congrArg (fun l => l[i % 64]?) (h (i / 64) (by omega))
  simp only [secB] at this
  rw [List.getElem?_take_of_lt (by omega), List.getElem?_take_of_lt (by omega), List.getElem?_drop, List.getElem?_drop, show 64 * (i / 64) + i % 64 = i from by omega, List.getElem?_eq_getElem h1, List.getElem?_eq_getElem h2] at this
  exact Option.some.inj this
theorem memJ_zero {B : List Int} {N : Nat} (hB : B.length = 64 * N) {pg : List Int} (hf : fitP B N pg) : memJ B pg 0 = zs 8192 := by
  obtain ⟨h1, h2⟩ := memJ_sec hB hf 0
  refine ext_sec (n := 128) h1 (by unfold zs; rw [List.length_replicate]) (fun p hp => ?_)
  rw [h2 p hp, if_neg (by omega)]
  unfold secB zs
  rw [List.drop_replicate, List.take_replicate]
  congr 1
  omega
theorem memJ_step {B : List Int} {N : Nat} (hB : B.length = 64 * N) {pg : List Int} (hf : fitP B N pg) (j : Nat) (hj : j < 128) : spl (memJ B pg j) (64 * j) (pageB B (pg.getD j 0)) = memJ B pg (j + 1) := by
  obtain ⟨h1, h2⟩ := memJ_sec hB hf j
  obtain ⟨h3, h4⟩ := memJ_sec hB hf (j + 1)
  have hp := pageB_len hB (hf j hj)
  refine ext_sec (n := 128) (by rw [spl_len (by omega)]; exact h1) h3 (fun p hp2 => ?_)
  rw [secB_spl hp (by omega), h4 p hp2, h2 p hp2]
  by_cases e : p = j
  · subst e; rw [if_pos rfl, if_pos (by omega)]
  · rw [if_neg e]
    by_cases q : p < j
    · rw [if_pos q, if_pos (by omega)]
    · rw [if_neg q, if_neg (by omega)]
theorem memJ_skip {B : List Int} {N : Nat} (hB : B.length = 64 * N) {pg : List Int} (hf : fitP B N pg) (j : Nat) (hj : j < 128) (h0 : ¬ 0 < pg.getD j 0) : memJ B pg j = memJ B pg (j + 1) := by
  obtain ⟨h1, h2⟩ := memJ_sec hB hf j
  obtain ⟨h3, h4⟩ := memJ_sec hB hf (j + 1)
  refine ext_sec (n := 128) h1 h3 (fun p hp2 => ?_)
  rw [h4 p hp2, h2 p hp2]
  by_cases q : p < j
  · rw [if_pos q, if_pos (by omega)]
  · by_cases e : p = j
    · subst e; rw [if_neg q, if_pos (by omega)]; unfold pageB; rw [if_neg h0]
    · rw [if_neg q, if_neg (by omega)]
theorem pgB_get (B : List Int) (top : Int) (p : Nat) (hp : p < 128) : (pgB B top 128).getD p 0 = valT B top (5 + p) := by
  rw [List.getD_eq_getElem?_getD, List.getElem?_eq_getElem (by rw [pgB_len]; exact hp)]
  simp only [pgB, List.getElem_map, List.getElem_range, Option.getD_some]
  rw [if_pos hp]
  unfold valT
  rw [if_neg (by omega), if_neg (by omega), show 5 + p - 5 = p from by omega]
/-- The sectors of pages are sectors. -/
theorem fitP_of {B : List Int} {N : Nat} {top : Int} (h : TreeOk B N top) : fitP B N (pgB B top 128) := by
  intro p hp
  rw [pgB_get B top p hp]
  by_cases e : valT B top (5 + p) = 0
  · left; omega
  · right; exact (h.2.1 (5 + p) (by omega) e).2
theorem tree_fit {B : List Int} {N : Nat} {top : Int} (ht : ∃ s, treeB B N top = some s) : fitP B N (pgB B top 128) := by
  intro p hp
  by_cases hz : top = 0
  · subst hz
    left
    rw [pgB_top0]
    unfold zs
    rw [List.getD_eq_getElem?_getD, List.getElem?_replicate, if_pos hp]
    exact Int.le_refl _
  · have h := (tree_iff B N top hz).1 ht
    rw [pgB_get B top p hp]
    by_cases e : valT B top (5 + p) = 0
    · left; omega
    · right; exact (h.2.1 (5 + p) (by omega) e).2
theorem run_index_pg (w : World) (l : List Int) (j : Nat) (hj : j < l.length) (hl : l.length = 128) : (Instr.index 45 (.agg (ints7 l).toArray) (.int .i64 (j : Int))).run Tryd.prog w = .ok (.int .i64 (l.getD j 0)) w := by
  have hi : (Tryd.prog.info? 3).map (·.size) = some 1 := by kernel_rfl
  cases hq : Tryd.prog.info? 3 with
  | none => rw [hq] at hi; cases hi
  | some i =>
    have hs : i.size = 1 := by simpa [hq] using hi
    have hag : (isAgg 3).run Tryd.prog w = .ok false w := by
      unfold isAgg
      rw [Sem.run_bind, run_underlying Tryd.underlying3 w]; rfl
    have hg : (ints7 l)[j]? = some (.int .i64 (l.getD j 0)) := by simp [ints7, hj]
    have hln := ints7_len l
    unfold Instr.index
    simp [Sem.run_bind, asIntOf, run_underlying Tryd.underlying45 w, part, sizeOf, typeInfo, hq, hs, hag, hg]
    intro h8; omega
theorem load_pg {ops : Array Oper} {rest : List Oper} {o : Oper} {a : Act} {w : World} {Q : Exit → Act → World → Prop} (hg : o.guard = none) (x : Operand) (ho : o.op = .load 45 x)
    (b : Nat) (top : Int) (lv pg : List Int) (v : Value) (hx : a.eval x = .pointer (some ⟨b, 5, none⟩)) (h : w.heap[b]? = some (.cells (TrC top lv pg v).toArray 47 (0, 0))) (h1 : lv.length = 4) (hl : pg.length = 128)
    (hK : wpList Tryd.prog ops Q rest (a.put o.dst (.agg (ints7 pg).toArray)) w) : wpList Tryd.prog ops Q (o :: rest) a w :=
  wpList_load_mid hg _ x ho b 5 hx (ints7 pg) _ (fun j u hj => by
    have hj' : j < pg.length := by
      apply Decidable.byContradiction
      intro hn
      rw [List.getElem?_eq_none (by rw [ints7_len]; omega)] at hj
      cases hj
    have := trC_pg (top := top) (v := v) (i := j) h1 hj'
    have e : (ints7 pg)[j]? = some (.int .i64 (pg.getD j 0)) := by simp [ints7, hj']
    rw [e] at hj
    cases hj
    exact heap_cell h this) Tryd.underlying45 rfl (by rw [ints7_len, hl]; kernel_rfl) hK
theorem row_owns7 {w : World} {g : Nat} {l : List Int} {n base : Nat} (h : Row w g 5 l) (hn : l.length = n) (hm : n ≤ maxLen) (hb : base ≤ g) : w.ownsRow base 5 1 (.slice (some ⟨g, 0, none⟩) n n) n (bys l) :=
  ⟨by rw [bys_len, hn]; omega, .inr ⟨g, n, (bys l).toArray, rfl, hb, h, Nat.le_refl _, hm, by rw [List.size_toArray, bys_len, hn]; omega, by rw [Nat.mul_one, ← hn]; exact List.take_of_length_le (by rw [bys_len]; omega)⟩⟩
/-- How Load ends. -/
def LoadQ (w : World) (N : Nat) (B : List Int) (top : Int) (e : Ending) (w' : World) : Prop :=
  Fr No w w' ∧ (((∃ s, treeB B N top = some s) ∧ ∃ r, e = .returned (.tuple #[r, .int .i64 0]) ∧ w'.ownsRow w.heap.size 5 1 r 8192 (bys (memB B top))) ∨ (treeB B N top = none ∧ e = .returned (.tuple #[.slice none 0 0, .int .i64 60])))
attribute [local irreducible] lvB pgB rdN ndB trZ treeB memJ pageB
set_option maxHeartbeats 8000000 in
set_option maxRecDepth 1000000 in
theorem trload_calls {w : World} {db N : Nat} {B : List Int} (hd : RfR w db N B) (top : Int) (htop : -9223372036854775808 ≤ top ∧ top ≤ 9223372036854775807) :
    Calls Tryd.prog 17 #[.pointer (some ⟨db, 0, none⟩), .int .i64 top] w (LoadQ w N B top) := by
  have HD := Lib.hid hd
  have HR := Lib.hid (trread_calls hd top htop)
  have hmk : ∀ w : World, (Instr.makeSlice 30 (.int .i64 8192) (.int .i64 8192)).run Tryd.prog w = .ok (.slice (some ⟨w.heap.size, 0, none⟩) 8192 8192) (w.alloc (.cells (bys (zs 8192)).toArray 5)) := fun w => mk_bytes w 8192 (by decide)
  clear hd
  go_enter Tryd.func17, Tryd.ntmps17
  go_wp2_with fail
  refine HR.out.mono ?_
  rintro e w2 ⟨hF2, ⟨s, tv, hts, rfl, hot⟩ | ⟨htn, rfl⟩⟩
  · obtain ⟨at', ct', rfl⟩ := (Sl.of_owns hot).form
    have HT := Lib.hid (show ∃ s, treeB B N top = some s from ⟨s, hts⟩)
    have HF := Lib.hid hF2
    have HTL := Lib.hid (trC_len (top := top) (v := .slice at' s.length ct') (lvB_len B top 4) (pgB_len B top 128))
    have HFT := Lib.hid (tree_fit ⟨s, hts⟩)
    have HPL := Lib.hid (And.intro (lvB_len B top 4) (pgB_len B top 128))
    clear hts hF2 hot
    generalize hlv : lvB B top 4 = lv at *
    generalize hpg : pgB B top 128 = pg at *
    have HPG := Lib.hid hpg
    clear hlv hpg
    go_wp2_with (first
      | (refine alloc_tr w2.heap.size rfl rfl rfl ?_)
      | (refine store_tr rfl _ _ rfl w2.heap.size (TrC top lv pg (.slice at' s.length ct')) trZ rfl rfl (heap_new w2 _) HTL.out trZ_len trC_one ?_; intro w3 hF3 hb3; have HB3 := Lib.hid hb3; have HF23 := Lib.hid (((Fr.refl No w2).alloc (.cells trZ.toArray 47)).trans' hF3 (fun i hi (e : i = _) => by omega)); clear hF3 hb3)
      | (refine load_pg rfl _ rfl w2.heap.size top lv pg (.slice at' s.length ct') rfl (heap_alloc _ HB3.out) HPL.out.1 HPL.out.2 ?_)
      | fail "arm")
    have HM0 : RowKit.Hid (Row (w3.alloc (.cells (bys (zs 8192)).toArray 5)) w3.heap.size 5 (memJ B pg 0)) := Lib.hid (by rw [memJ_zero HD.out.2.1 HFT.out]; exact heap_new _ _)
    have HFA := Lib.hid ((HF.out.trans HF23.out).alloc (.cells (bys (zs 8192)).toArray 5))
    have hsz : w.heap.size ≤ w3.heap.size := Nat.le_trans HF.out.size HF23.out.size
    have HIX := Lib.hid (fun (w1 : World) j hj => run_index_pg w1 pg j hj HPL.out.2)
    have HMM := Lib.hid (And.intro (memJ_step HD.out.2.1 HFT.out) (memJ_skip HD.out.2.1 HFT.out))
    have HML := Lib.hid (fun j => (memJ_sec HD.out.2.1 HFT.out j).1)
    have HEND : RowKit.Hid (memJ B pg 128 = memB B top) := Lib.hid (by unfold memB; rw [HPG.out])
    generalize hob : w3.heap.size = ob at *
    generalize w3.alloc (.cells (bys (zs 8192)).toArray 5) = W0 at *
    clear hob hmk
    go_loopw [25] (fun i wr => ∃ j : Nat, j ≤ 128 ∧ i = .int .i64 (j : Int) ∧ Row wr ob 5 (memJ B pg j) ∧ Fr (fun k => k = ob) W0 wr) (fun i _ => 128 - (intOf i).toNat)
    case atStart => exact ⟨0, by omega, rfl, HM0.out, Fr.refl _ _⟩
    case round =>
      obtain ⟨j, hj, rfl, hrw, hFr⟩ := hrel
      by_cases hlt : j < 128
      · have dj : decide ((j : Int) < 128) = true := decide_eq_true (by omega)
        have q := HIX.out wr j (by rw [HPL.out.2]; exact hlt)
        have hst := HMM.out.1 j hlt
        have hsk := HMM.out.2 j hlt
        have hft := HFT.out j hlt
        generalize pg.getD j 0 = x at *
        by_cases hx : 0 < x
        · have dx : decide (0 < x) = true := decide_eq_true hx
          obtain ⟨xn, rfl⟩ : ∃ xn : Nat, x = (xn : Int) := ⟨x.toNat, by omega⟩
          have hxn : xn < N := by omega
          have hpe : pageB B (xn : Int) = secB B xn := by unfold pageB; rw [if_pos hx, Int.toNat_natCast]
          have hF0 := HFA.out.trans' hFr (fun i hi (e : i = ob) => by omega)
          have HRD := Lib.hid (rdread_calls (HD.out.fr0 hF0) xn hxn)
          have hsl : (secB B xn).length = 64 := secB_len (by rw [HD.out.2.1]; omega)
          rw [hpe] at hst
          have HST := Lib.hid (And.intro hst (And.intro hsl hrw))
          have HFR := Lib.hid hFr
          have hwr : IntKind.i64.wrap ((j : Int) * 64) = 64 * (j : Int) := by have := IntWalk.i64_in ((j : Int) * 64) (by omega); rw [this]; omega
          have hq0 : (64 * (j : Int)).toNat = 64 * j := by omega
          have hq1 : (0 ≤ 64 * (j : Int) ∧ 64 * (j : Int) ≤ 8192) = True := eq_true ⟨by omega, by omega⟩
          have hq2 : (8192 = 64 * j) = False := eq_false (by omega)
          clear hst hsl hrw hFr hF0 hpe hsk hft
          go_wp2_with fail
          refine HRD.out.mono ?_
          rintro e w5 ⟨r, rfl, hF5, hown⟩
          obtain ⟨ra, rc, rfl⟩ := (Sl.of_owns hown).form
          obtain ⟨w6, hrw6, hF6, hcp⟩ := Row.copyMin (w := w5) (HST.out.2.2.fr hF5 (fun h => h)) (secB B xn) ra rc (64 * j) (8192 - 64 * j) (8192 - 64 * j) (by rw [HST.out.2.1]; omega) (by rw [HST.out.2.1]; exact Sl.of_owns hown) (by rw [HML.out j, HST.out.2.1]; omega)
          rw [HST.out.2.1] at hcp
          rw [List.take_of_length_le (by rw [HST.out.2.1]; omega), HST.out.1] at hrw6
          have HR6 := Lib.hid hrw6
          have HF6 := Lib.hid (HFR.out.trans' (hF5.no.trans hF6) (fun i hi e => e))
          clear hrw6 hF6 hF5 hown
          go_wp2_with fail
          refine ⟨⟨j + 1, by omega, by go_num, HR6.out, HF6.out⟩, by simp [intOf]; omega⟩
        · have dx : decide (0 < x) = false := decide_eq_false hx
          have HN := Lib.hid (And.intro (hsk hx ▸ hrw) hFr)
          clear hst hsk hft hrw hFr
          go_wp2_with fail
          refine ⟨⟨j + 1, by omega, by go_num, HN.out⟩, by simp [intOf]; omega⟩
      · obtain rfl : j = 128 := by omega
        have dj : decide (((128 : Nat) : Int) < 128) = false := by decide
        rw [HEND.out] at hrw
        have HX := Lib.hid (And.intro hrw hFr)
        clear hrw hFr
        go_wp2_with fail
        go_ret2
        refine ⟨HFA.out.trans' HX.out.2 (fun i hi (e : i = ob) => by omega), .inl ⟨HT.out, _, rfl, row_owns7 HX.out.1 (by rw [← HEND.out]; exact HML.out 128) (by decide) hsz⟩⟩
  · have HF := Lib.hid hF2
    have HT := Lib.hid htn
    clear hF2 htn
    go_wp2_with (first
      | (refine alloc_tr w2.heap.size rfl rfl rfl ?_)
      | (refine store_tr rfl _ _ rfl w2.heap.size trZ trZ rfl rfl (heap_new w2 _) trZ_len trZ_len trZ_one ?_; intro w3 hF3 hb3)
      | fail "arm")
    go_ret2
    exact ⟨(HF.out.alloc _).trans' hF3 (fun i hi (e : i = _) => by have := HF.out.size; omega), .inr ⟨HT.out, rfl⟩⟩
end Go.Proofs.YtpcikbloflpahaaDoor
