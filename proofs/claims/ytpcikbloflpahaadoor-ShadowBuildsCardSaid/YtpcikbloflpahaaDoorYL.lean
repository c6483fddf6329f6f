/-
  Chapter 7: the reference's Blank; what Count comes to, and its blocks.
-/
import Derived.Test.YtpcikbloflpahaaDoorYN
import Derived.Test.YtpcikbloflpahaaDoorZGp5
namespace Go.Proofs.YtpcikbloflpahaaDoor
set_option linter.unusedVariables false
set_option linter.unusedSimpArgs false
open Go.RowKit Go.Shelf Go.Maps

set_option maxHeartbeats 1000000 in
set_option maxRecDepth 1000000 in
theorem rblank_yes (v : Value) (l : List Int) (w : World) (hlen : l.length ≤ 140737488355328) (hz : ∀ b ∈ l, b = 0) (hv : Sl w v l.length (bys l)) :
    Calls Tryd.prog 62 #[v] w fun e w' => e = .returned (.bool true) ∧ w = w' := by
  obtain ⟨av, cv, rfl⟩ := hv.form
  have HV := Lib.hid hv
  have HZ := Lib.hid hz
  clear hv hz
  go_enter Tryd.func62, Tryd.ntmps62
  go_wp2_with fail
  go_loopw [7] (fun i wr => ∃ (j : Nat), j ≤ l.length ∧ i = .int .i64 j ∧ w = wr) (fun i _ => l.length - (intOf i).toNat)
  case atStart => exact ⟨0, Nat.zero_le _, rfl, rfl⟩
  case round =>
    obtain ⟨j, hj, rfl, rfl⟩ := hrel
    by_cases hlt : j < l.length
    · obtain ⟨b, off, rfl, hb, hc⟩ := HV.out.at (bys_ne l 0 (by omega))
      have hx : l[j] = 0 := HZ.out _ (List.getElem_mem hlt)
      have hcj := hc _ _ (bys_get l j hlt)
      rw [hx] at hcj
      have dj : decide ((j : Int) < (l.length : Int)) = true := decide_eq_true (by omega)
      clear hc hx
      go_wp2
      exact ⟨⟨j + 1, by omega, by go_num, by first | rfl | trivial⟩, by simp [intOf]; omega⟩
    · obtain rfl : j = l.length := by omega
      go_wp2
      go_ret
      exact ⟨rfl, rfl⟩
set_option maxHeartbeats 1000000 in
set_option maxRecDepth 1000000 in
theorem rblank_no (v : Value) (l : List Int) (w : World) (hlen : l.length ≤ 140737488355328) (hne : ∃ b ∈ l, b ≠ 0) (hv : Sl w v l.length (bys l)) :
    Calls Tryd.prog 62 #[v] w fun e w' => e = .returned (.bool false) ∧ w = w' := by
  obtain ⟨av, cv, rfl⟩ := hv.form
  have HV := Lib.hid hv
  have HNE := Lib.hid hne
  clear hv hne
  go_enter Tryd.func62, Tryd.ntmps62
  go_wp2_with fail
  go_loopw [7] (fun i wr => ∃ (j : Nat), j ≤ l.length ∧ i = .int .i64 j ∧ (∀ k (h : k < l.length), k < j → l[k] = 0) ∧ w = wr) (fun i _ => l.length - (intOf i).toNat)
  case atStart => exact ⟨0, Nat.zero_le _, rfl, fun k h h2 => absurd h2 (Nat.not_lt_zero k), rfl⟩
  case round =>
    obtain ⟨j, hj, rfl, hz, rfl⟩ := hrel
    have HZ := Lib.hid hz
    clear hz
    by_cases hlt : j < l.length
    · have hg := bys_get l j hlt
      obtain ⟨b, off, rfl, -, hc⟩ := HV.out.at (bys_ne _ _ hlt)
      have c0 := hc _ _ hg
      obtain ⟨x, hx⟩ : ∃ x, l[j] = x := ⟨_, rfl⟩
      rw [hx] at c0
      have HX := Lib.hid hx
      clear hc hg hx
      by_cases h0 : x = 0
      · have q1 : (x != 0) = false := by simp [h0]
        have H0 := Lib.hid h0
        clear h0
        go_wp2
        go_roundw
        case rel =>
          refine ⟨j + 1, by omega, by go_num, fun k h h2 => ?_, by first | rfl | trivial⟩
          by_cases e : k = j
          · subst e; exact HX.out.trans H0.out
          · exact HZ.out k h (by omega)
        case measure => simp [intOf]; omega
      · have q1 : (x != 0) = true := by simp [h0]
        clear h0
        go_wp2
        go_ret
        exact ⟨rfl, rfl⟩
    · obtain ⟨b, hb, h⟩ := HNE.out
      obtain ⟨k, hk, rfl⟩ := List.getElem_of_mem hb
      exact absurd (HZ.out k hk (by omega)) h
theorem rblank_calls (v : Value) (l : List Int) (w : World) (hlen : l.length ≤ 140737488355328) (hv : Sl w v l.length (bys l)) :
    Calls Tryd.prog 62 #[v] w fun e w' => e = .returned (.bool (blankB l)) ∧ w = w' := by
  by_cases h : ∀ b ∈ l, b = 0
  · have : blankB l = true := by simpa [blankB] using h
    rw [this]; exact rblank_yes v l w hlen h hv
  · have : blankB l = false := by simpa [blankB] using h
    rw [this]; exact rblank_no v l w hlen (by simpa using h) hv

/-- Rows of truths. -/
def bls (l : List Bool) : List Value := l.map Value.bool
theorem bls_len (l : List Bool) : (bls l).length = l.length := by simp [bls]
theorem bls_set (l : List Bool) (i : Nat) (b : Bool) : (bls l).set i (.bool b) = bls (l.set i b) := by simp [bls, List.map_set]
theorem bls_get (l : List Bool) (i : Nat) (h : i < l.length) : (bls l)[i]? = some (.bool (l.getD i false)) := by simp [bls, h]
def hasF (has : List Bool) (cs : List Chg) : List Bool := cs.foldl (fun h c => h.set c.1.toNat (!blankB c.2)) has
def touF (cs : List Chg) : List Bool := cs.foldl (fun t c => t.set (c.1 / 32).toNat true) (List.replicate 4 false)
theorem hasF_snoc (has : List Bool) (cs : List Chg) (c : Chg) : hasF has (cs ++ [c]) = (hasF has cs).set c.1.toNat (!blankB c.2) := by simp [hasF]
theorem touF_snoc (cs : List Chg) (c : Chg) : touF (cs ++ [c]) = (touF cs).set (c.1 / 32).toNat true := by simp [touF]
theorem hasF_len (has : List Bool) (cs : List Chg) : (hasF has cs).length = has.length := by
  unfold hasF
  induction cs generalizing has with
  | nil => rfl
  | cons c cs ih => rw [List.foldl_cons, ih, List.length_set]
theorem touF_len (cs : List Chg) : (touF cs).length = 4 := by
  unfold touF
  suffices ∀ t : List Bool, (cs.foldl (fun t (c : Chg) => t.set (c.1 / 32).toNat true) t).length = t.length by rw [this]; rfl
  induction cs with
  | nil => exact fun t => rfl
  | cons c cs ih => exact fun t => by rw [List.foldl_cons, ih, List.length_set]
def anyH (has : List Bool) (i k : Nat) : Bool := (List.range k).any fun q => has.getD (32 * i + q) false
theorem anyH_zero (has : List Bool) (i : Nat) : anyH has i 0 = false := rfl
theorem anyH_succ (has : List Bool) (i k : Nat) : anyH has i (k + 1) = (anyH has i k || has.getD (32 * i + k) false) := by
  unfold anyH
  rw [List.range_succ, List.any_append]
  simp
def svL (has lv T : List Bool) (i : Nat) : Bool := if T.getD i false = true then anyH has i 32 else lv.getD i false
def lvN (has lv T : List Bool) (i : Nat) : List Bool := (List.range 4).map fun q => if q < i then svL has lv T q else lv.getD q false
def cN (has T : List Bool) : Nat → Nat
  | 0 => 0
  | i + 1 => cN has T i + if T.getD i false = true ∧ anyH has i 32 = true then 1 else 0
def sN (has lv T : List Bool) : Nat → Bool
  | 0 => false
  | i + 1 => sN has lv T i || svL has lv T i
/-- What Count says. -/
def countR (has lv : List Bool) (cs : List Chg) : Nat := (fullC cs).length + cN (hasF has cs) (touF cs) 4 + if cs ≠ [] ∧ sN (hasF has cs) lv (touF cs) 4 = true then 1 else 0
theorem cN_le (has T : List Bool) (i : Nat) : cN has T i ≤ i := by
  induction i with
  | zero => exact Nat.le_refl _
  | succ i ih => unfold cN; split <;> omega
theorem lvN_len (has lv T : List Bool) (i : Nat) : (lvN has lv T i).length = 4 := by simp [lvN]
theorem lvN_zero {has lv T : List Bool} (h : lv.length = 4) : lvN has lv T 0 = lv := by
  apply List.ext_getElem (by rw [lvN_len, h])
  intro i h1 h2
  simp [lvN, h2]
theorem lvN_set (has lv T : List Bool) (i : Nat) (hi : i < 4) (b : Bool) (hb : b = svL has lv T i) : (lvN has lv T i).set i b = lvN has lv T (i + 1) := by
  subst hb
  apply List.ext_getElem (by simp [lvN])
  intro k h1 h2
  rw [List.getElem_set]
  simp only [lvN, List.getElem_map, List.getElem_range]
  split
  · rename_i e; subst e; rw [if_pos (by omega)]
  · rename_i e
    by_cases q : k < i
    · rw [if_pos q, if_pos (by omega)]
    · rw [if_neg q, if_neg (by omega)]
theorem lvN_skip (has lv T : List Bool) (i : Nat) (hi : i < 4) (h : T.getD i false = false) : lvN has lv T i = lvN has lv T (i + 1) := by
  rw [← lvN_set has lv T i hi (lv.getD i false) (by simp only [svL, h]; simp)]
  have h0 : (lvN has lv T i)[i]'(by rw [lvN_len]; exact hi) = lv.getD i false := by simp [lvN]
  rw [← h0, List.set_getElem_self]
theorem lvN_at (has lv T : List Bool) (i : Nat) (hi : i < 4) : (lvN has lv T (i + 1)).getD i false = svL has lv T i := by
  rw [List.getD_eq_getElem?_getD, List.getElem?_eq_getElem (by rw [lvN_len]; exact hi)]
  simp only [lvN, List.getElem_map, List.getElem_range, Option.getD_some]
  rw [if_pos (by omega)]

/-- Count's blocks. -/
def CbI (w : World) (H L T : List Bool) (wr : World) : Prop := H.length = 128 ∧ L.length = 4 ∧ T.length = 4 ∧ wr.heap[w.heap.size]? = some (.cells (bls H).toArray 93 (0, 0)) ∧ wr.heap[w.heap.size + 1]? = some (.cells (bls L).toArray 94 (0, 0)) ∧ wr.heap[w.heap.size + 1 + 1]? = some (.cells (bls T).toArray 94 (0, 0)) ∧ Fr No w wr
theorem CbI.fr0 {w wr wr' : World} {H L T : List Bool} (h : CbI w H L T wr) (hF : Fr No wr wr') : CbI w H L T wr' := ⟨h.1, h.2.1, h.2.2.1, hF.heap h.2.2.2.1 (fun h => h), hF.heap h.2.2.2.2.1 (fun h => h), hF.heap h.2.2.2.2.2.1 (fun h => h), h.2.2.2.2.2.2.trans hF⟩
theorem ct_put {w wr : World} (b o : Nat) (v : Value) (hF : Fr No w wr) (hb : w.heap.size ≤ b) : Fr (fun k => k = b) wr (wr.setCell ⟨b, o, none⟩ v) ∧ Fr No w (wr.setCell ⟨b, o, none⟩ v) := by
  have h : Fr (fun k => k = b) wr (wr.setCell ⟨b, o, none⟩ v) := (Fr.refl (fun k => k = b) wr).setCell (p := ⟨b, o, none⟩) (fun _ => rfl) _
  exact ⟨h, hF.trans' h (fun i hi (e : i = b) => by omega)⟩
theorem CbI.setH {w wr : World} {H L T : List Bool} (h : CbI w H L T wr) (i : Nat) (b : Bool) : CbI w (H.set i b) L T (wr.setCell ⟨w.heap.size, i, none⟩ (.bool b)) := by
  obtain ⟨h1, h2, h3, h4, h5, h6, h7⟩ := h
  obtain ⟨p1, p2⟩ := ct_put w.heap.size i (.bool b) h7 (by omega)
  exact ⟨by rw [List.length_set]; exact h1, h2, h3, by rw [← bls_set]; exact heap_setAt7 h4 _ _, p1.heap h5 (fun (e : w.heap.size + 1 = w.heap.size) => by omega), p1.heap h6 (fun (e : w.heap.size + 1 + 1 = w.heap.size) => by omega), p2⟩
theorem CbI.setL {w wr : World} {H L T : List Bool} (h : CbI w H L T wr) (i : Nat) (b : Bool) : CbI w H (L.set i b) T (wr.setCell ⟨w.heap.size + 1, i, none⟩ (.bool b)) := by
  obtain ⟨h1, h2, h3, h4, h5, h6, h7⟩ := h
  obtain ⟨p1, p2⟩ := ct_put (w.heap.size + 1) i (.bool b) h7 (by omega)
  exact ⟨h1, by rw [List.length_set]; exact h2, h3, p1.heap h4 (fun (e : w.heap.size = w.heap.size + 1) => by omega), by rw [← bls_set]; exact heap_setAt7 h5 _ _, p1.heap h6 (fun (e : w.heap.size + 1 + 1 = w.heap.size + 1) => by omega), p2⟩
theorem CbI.setT {w wr : World} {H L T : List Bool} (h : CbI w H L T wr) (i : Nat) (b : Bool) : CbI w H L (T.set i b) (wr.setCell ⟨w.heap.size + 1 + 1, i, none⟩ (.bool b)) := by
  obtain ⟨h1, h2, h3, h4, h5, h6, h7⟩ := h
  obtain ⟨p1, p2⟩ := ct_put (w.heap.size + 1 + 1) i (.bool b) h7 (by omega)
  exact ⟨h1, h2, by rw [List.length_set]; exact h3, p1.heap h4 (fun (e : w.heap.size = w.heap.size + 1 + 1) => by omega), p1.heap h5 (fun (e : w.heap.size + 1 = w.heap.size + 1 + 1) => by omega), by rw [← bls_set]; exact heap_setAt7 h6 _ _, p2⟩
theorem CbI.cH {w wr : World} {H L T : List Bool} (h : CbI w H L T wr) (i : Nat) (hi : i < 128) : wr.cell? ⟨w.heap.size, i, none⟩ = some (.bool (H.getD i false)) ∧ wr.frozen? ⟨w.heap.size, i, none⟩ = false :=
  ⟨heap_cell h.2.2.2.1 (by rw [List.getElem?_toArray]; exact bls_get _ _ (by rw [h.1]; exact hi)), heap_frozen h.2.2.2.1⟩
theorem CbI.cL {w wr : World} {H L T : List Bool} (h : CbI w H L T wr) (i : Nat) (hi : i < 4) : wr.cell? ⟨w.heap.size + 1, i, none⟩ = some (.bool (L.getD i false)) ∧ wr.frozen? ⟨w.heap.size + 1, i, none⟩ = false :=
  ⟨heap_cell h.2.2.2.2.1 (by rw [List.getElem?_toArray]; exact bls_get _ _ (by rw [h.2.1]; exact hi)), heap_frozen h.2.2.2.2.1⟩
theorem CbI.cT {w wr : World} {H L T : List Bool} (h : CbI w H L T wr) (i : Nat) (hi : i < 4) : wr.cell? ⟨w.heap.size + 1 + 1, i, none⟩ = some (.bool (T.getD i false)) ∧ wr.frozen? ⟨w.heap.size + 1 + 1, i, none⟩ = false :=
  ⟨heap_cell h.2.2.2.2.2.1 (by rw [List.getElem?_toArray]; exact bls_get _ _ (by rw [h.2.2.1]; exact hi)), heap_frozen h.2.2.2.2.2.1⟩
end Go.Proofs.YtpcikbloflpahaaDoor
namespace Go.Proofs.YtpcikbloflpahaaDoor
set_option linter.unusedVariables false
set_option linter.unusedSimpArgs false
open Go.RowKit Go.Shelf Go.Maps

theorem alloc_b4 {ops : Array Oper} {rest : List Oper} {o : Oper} {a : Act} {w : World} {Q : Exit → Act → World → Prop} (hg : o.guard = none) (ho : o.op = .alloc 94)
    (hK : wpList Tryd.prog ops Q rest (a.put o.dst (.pointer (some ⟨w.heap.size, 0, none⟩))) (w.alloc (.cells (bls (List.replicate 4 false)).toArray 94))) : wpList Tryd.prog ops Q (o :: rest) a w := by
  have hr : (Instr.alloc 94 true (.tuple #[])).run Tryd.prog w = .ok (.pointer (some ⟨w.heap.size, 0, none⟩)) (w.alloc (.cells (bls (List.replicate 4 false)).toArray 94)) := by kernel_rfl
  refine wpList_plain hg fun K' hK' => ?_
  unfold Oper.wp
  simp only [execOp, ho, Sem.run_bind, hr, Result.andThen]
  exact hK' _ _ hK
theorem heap_new3_7 (w : World) (o o' o'' : Obj) : (((w.alloc o).alloc o').alloc o'').heap[w.heap.size + 1 + 1]? = some o'' := by simpa using heap_new ((w.alloc o).alloc o') o''
set_option maxHeartbeats 8000000 in
set_option maxRecDepth 1000000 in
theorem count_calls {w : World} {n0 : Nat} (has lv : List Bool) (h128 : has.length = 128) (h4 : lv.length = 4) (v : Value) (cs : List Chg) (vs : List (Int × Value)) (hown : w.ownsRow n0 32 2 v cs.length (chgCells vs)) (hcv : ChV n0 cs vs w)
    (hpg : ∀ c ∈ cs, 0 ≤ c.1 ∧ c.1 < 128 ∧ c.2.length = 64) (hcs : cs.length ≤ 128) :
    Calls Tryd.prog 38 #[.agg (bls has).toArray, .agg (bls lv).toArray, v] w fun e w' => e = .returned (.int .i64 (countR has lv cs : Int)) ∧ Fr No w w' := by
  obtain ⟨av, cv, rfl⟩ := (Sl.of_owns hown).form
  have hFa := (((Fr.refl No w).alloc (.cells (bls has).toArray 93)).alloc (.cells (bls lv).toArray 94)).alloc (.cells (bls (List.replicate 4 false)).toArray 94)
  have HC0 : RowKit.Hid (CbI w (hasF has []) lv (touF []) (((w.alloc (.cells (bls has).toArray 93)).alloc (.cells (bls lv).toArray 94)).alloc (.cells (bls (List.replicate 4 false)).toArray 94))) := Lib.hid ⟨h128, h4, rfl, heap_alloc _ (heap_alloc _ (heap_new _ _)), heap_alloc _ (heap_new2_7 _ _ _), heap_new3_7 w _ _ _, hFa⟩
  have HOW := Lib.hid hown
  have HCV := Lib.hid hcv
  have HPG := Lib.hid hpg
  have HLN := Lib.hid (And.intro h128 h4)
  have HR0 : RowKit.Hid (∀ r, countR has lv cs = r → r = countR has lv cs) := Lib.hid (fun r e => e.symm)
  obtain ⟨R, hR⟩ : ∃ R, countR has lv cs = R := ⟨_, rfl⟩
  rw [hR]
  have HR := Lib.hid hR
  clear hR HR0 hown hcv hpg h128 h4 hFa
  go_enter Tryd.func38, Tryd.ntmps38
  go_wp2_with (first
    | (refine alloc_b4 rfl rfl ?_)
    | fail "arm")
  go_loopw [7, 16] (fun n i wr => ∃ (j : Nat), j ≤ cs.length ∧ i = .int .i64 (j : Int) ∧ n = .int .i64 ((fullC (cs.take j)).length : Int) ∧ CbI w (hasF has (cs.take j)) lv (touF (cs.take j)) wr) (fun _ i _ => cs.length - (intOf i).toNat)
  case atStart => exact ⟨0, Nat.zero_le _, rfl, rfl, HC0.out⟩
  case round =>
    obtain ⟨j, hj, rfl, rfl, hI⟩ := hrel
    by_cases hlt : j < cs.length
    · have dj : decide ((j : Int) < (cs.length : Int)) = true := decide_eq_true (by omega)
      have hF := hI.2.2.2.2.2.2
      have hln := HCV.out.1
      obtain ⟨e1, e2⟩ := HCV.out.2 j (by omega) (by omega)
      obtain ⟨db', dc, e3⟩ := (Sl.of_owns e2).form
      have hown2 := ownsRow_fr7 e2 hF (fun k e h => h)
      have hownw := ownsRow_fr7 HOW.out hF (fun k e h => h)
      obtain ⟨q0, q1⟩ := chgCells_get vs j (by omega)
      obtain ⟨g, o, hag, -, hc⟩ := (Sl.of_owns hownw).at (fun e : chgCells vs = [] => by rw [e] at q0; simp at q0)
      have x1 := hc _ _ q0
      have y1 := hc _ _ q1
      rw [e1] at x1
      rw [e3] at y1 hown2
      rw [← Nat.add_assoc] at y1
      obtain ⟨hp0, hp1, hp2⟩ := HPG.out _ (List.getElem_mem hlt)
      rw [hp2] at y1 hown2
      have htk : cs.take (j + 1) = cs.take j ++ [cs[j]] := List.take_succ_eq_append_getElem hlt
      have h1 := hasF_snoc has (cs.take j) cs[j]
      have h2 := touF_snoc (cs.take j) cs[j]
      have h3 := fullC_snoc (cs.take j) cs[j]
      rw [← htk] at h1 h2 h3
      generalize cs[j] = c at *
      obtain ⟨pg, dt⟩ := c
      dsimp only at x1 y1 hown2 hp0 hp1 hp2 h1 h2 h3
      obtain ⟨p, rfl⟩ : ∃ p : Nat, pg = (p : Int) := ⟨pg.toNat, by omega⟩
      rw [Int.toNat_natCast] at h1
      rw [show ((p : Int) / 32).toNat = p / 32 from by omega] at h2
      have hfl : (fullC (cs.take j)).length ≤ j := Nat.le_trans (List.length_filter_le _ _) (by rw [List.length_take]; omega)
      subst hag
      have HBK := Lib.hid (fun (w1 : World) (hF1 : Fr No wr w1) => rblank_calls (.slice db' 64 dc) dt w1 (by omega) (by rw [hp2]; exact (Sl.of_owns hown2).fr0 hF1))
      have HI := Lib.hid hI
      have HST := Lib.hid (And.intro h1 (And.intro h2 h3))
      have HPL := Lib.hid hp2
      clear hF hln e1 e2 e3 hown2 hownw q0 q1 hc hp2 htk h1 h2 h3 hI
      generalize hbk : blankB dt = bk at *
      have hbk2 := hbk
      clear hbk
      generalize hfn : (fullC (cs.take j)).length = fn at *
      have HFLN := Lib.hid hfn
      clear hfn
      have hFr0 : Fr No wr (wr.alloc (Obj.cells #[.int .i64 (p : Int), .slice db' 64 dc] 32)) := (Fr.refl No wr).alloc _
      have HB10 := Lib.hid (heap_new wr (Obj.cells #[.int .i64 (p : Int), .slice db' 64 dc] 32))
      have HI1 := Lib.hid (HI.out.fr0 hFr0)
      have HF1 := Lib.hid hFr0
      clear hFr0
      have k10 : (wr.alloc (Obj.cells #[.int .i64 (p : Int), .slice db' 64 dc] 32)).drew.cell? ⟨wr.heap.size, 0, none⟩ = some (.int .i64 (p : Int)) := heap_cell (w := wr.alloc (Obj.cells #[.int .i64 (p : Int), .slice db' 64 dc] 32)) (o := 0) HB10.out rfl
      have k11 : (wr.alloc (Obj.cells #[.int .i64 (p : Int), .slice db' 64 dc] 32)).drew.cell? ⟨wr.heap.size, 1, none⟩ = some (.slice db' 64 dc) := heap_cell (w := wr.alloc (Obj.cells #[.int .i64 (p : Int), .slice db' 64 dc] 32)) (o := 1) HB10.out rfl
      go_upto_region 6 with fail
      refine wp_region_held_drew (S := (fun w' => w'.cell? ⟨wr.heap.size, 0, none⟩ = some (.int .i64 (p : Int)) ∧ w'.cell? ⟨wr.heap.size, 1, none⟩ = some (.slice db' 64 dc))) (by kernel_rfl) ⟨k10, k11⟩ (fun hS0 => ?_)
      refine take_at7 (i := 0) (d := some 20) (v := ?_) rfl rfl (by kernel_rfl) (by kernel_rfl) (by kernel_rfl) (fun _ _ _ h => h) (Or.inl ⟨by rfl, ?_⟩) (by assumption) ?_
      rotate_left
      · intro w hSw; go_simp; try (with_reducible rfl)
      try simp only [Act.put, List.setIfInBounds_toArray, List.set_cons_zero, List.set_cons_succ]
      refine take_at7 (i := 1) (d := some 21) (v := ?_) rfl rfl (by kernel_rfl) (by kernel_rfl) (by kernel_rfl) (fun _ _ _ h => h) (Or.inl ⟨by rfl, ?_⟩) (by assumption) ?_
      rotate_left
      · intro w hSw; go_simp; try (with_reducible rfl)
      try simp only [Act.put, List.setIfInBounds_toArray, List.set_cons_zero, List.set_cons_succ]
      refine take_at7 (i := 2) (d := some 22) (v := ?_) rfl rfl (by kernel_rfl) (by kernel_rfl) (by kernel_rfl) (fun _ _ _ h => h) (Or.inl ⟨by rfl, ?_⟩) (by assumption) ?_
      rotate_left
      · intro w hSw; go_simp; try (with_reducible rfl)
      try simp only [Act.put, List.setIfInBounds_toArray, List.set_cons_zero, List.set_cons_succ]
      refine take_at7 (i := 3) (d := some 23) (v := ?_) rfl rfl (by kernel_rfl) (by kernel_rfl) (by kernel_rfl) (fun _ _ _ h => h) (Or.inl ⟨by rfl, ?_⟩) (by assumption) ?_
      rotate_left
      · intro w hSw; go_simp; try (with_reducible rfl)
      try simp only [Act.put, List.setIfInBounds_toArray, List.set_cons_zero, List.set_cons_succ]
      refine one_H7 (i := 4) (d := some 24) rfl rfl rfl (by kernel_rfl) (fun K hK => ?_)
      go_simp
      (go_at_call 62; ((with_reducible refine (HBK.out _ HF1.out.drew).mono ?_); rintro e w3 ⟨rfl, rfl⟩))
      refine hK.out _ _ ⟨k10, k11⟩ (fun hHeld => ?_)
      clear hK K
      try simp only [Act.put, List.setIfInBounds_toArray, List.set_cons_zero, List.set_cons_succ]
      refine take_at7 (i := 5) (d := some 25) (v := ?_) rfl rfl (by kernel_rfl) (by kernel_rfl) (by kernel_rfl) (fun _ _ _ h => h) (Or.inl ⟨by rfl, ?_⟩) (by assumption) ?_
      rotate_left
      · intro w hSw; go_simp; try (with_reducible rfl)
      try simp only [Act.put, List.setIfInBounds_toArray, List.set_cons_zero, List.set_cons_succ]
      refine take_at7 (i := 6) (d := some 26) (v := ?_) rfl rfl (by kernel_rfl) (by kernel_rfl) (by kernel_rfl) (fun _ _ _ h => h) (Or.inl ⟨by rfl, ?_⟩) (by assumption) ?_
      rotate_left
      · intro w hSw; go_simp; try (with_reducible rfl)
      try simp only [Act.put, List.setIfInBounds_toArray, List.set_cons_zero, List.set_cons_succ]
      have hI3 := HI1.out.fr0 (Fr.refl No _).drew
      have hsw : wr.heap.size < (wr.alloc (Obj.cells #[.int .i64 (p : Int), .slice db' 64 dc] 32)).drew.heap.size := by simp
      generalize (wr.alloc (Obj.cells #[.int .i64 (p : Int), .slice db' 64 dc] 32)).drew = W3 at *
      generalize hH : hasF has (cs.take j) = H at *
      generalize hT : touF (cs.take j) = T at *
      obtain ⟨cB, fB⟩ := hI3.cH p (by omega)
      obtain ⟨bk2, hbk3⟩ : ∃ b, (!bk) = b := ⟨_, rfl⟩
      rw [hbk3] at HST ⊢
      have HI2 := Lib.hid (hI3.setH p bk2)
      have HSF := Lib.hid (ct_put (w := w) (wr := W3) w.heap.size p (.bool bk2) hI3.2.2.2.2.2.2 (Nat.le_refl _))
      have hszw2 : w.heap.size + 1 + 1 < wr.heap.size := heap_lt7 HI.out.2.2.2.2.2.1
      have HHT := Lib.hid (And.intro hH hT)
      have HBKE := Lib.hid hbk3
      clear hH hT hI3 hbk3
      refine one_H7 (i := 7) (d := none) rfl rfl rfl (by kernel_rfl) (fun K hK => ?_)
      go_simp
      have k10' := HSF.out.1.cell k10 (fun (e : wr.heap.size = w.heap.size) => by omega)
      have k11' := HSF.out.1.cell k11 (fun (e : wr.heap.size = w.heap.size) => by omega)
      refine hK.out undef _ ⟨k10', k11'⟩ (fun hHeld => ?_)
      clear hK K
      try simp only [Act.put, List.setIfInBounds_toArray, List.set_cons_zero, List.set_cons_succ]
      refine wpAnyH_done (by kernel_rfl) ?_ _
      have hI4 := HI2.out
      have hsw4 : wr.heap.size < (W3.setCell ⟨w.heap.size, p, none⟩ (.bool bk2)).heap.size := Nat.lt_of_lt_of_le hsw HSF.out.1.size
      generalize W3.setCell ⟨w.heap.size, p, none⟩ (.bool bk2) = W4 at *
      clear hS0 hHeld k10 k11 cB fB
      obtain ⟨cT, fT⟩ := hI4.cT (p / 32) (by omega)
      have hq : IntKind.i64.wrap ((p : Int) / 32) = ((p / 32 : Nat) : Int) := by rw [IntWalk.i64_in _ (by omega)]; omega
      have HI5 := Lib.hid (hI4.setT (p / 32) true)
      have HSF5 := Lib.hid (ct_put (w := w) (wr := W4) (w.heap.size + 1 + 1) (p / 32) (.bool true) hI4.2.2.2.2.2.2 (by omega))
      have k10a := HSF5.out.1.cell k10' (fun (e : wr.heap.size = w.heap.size + 1 + 1) => by omega)
      obtain ⟨cB5, fB5⟩ := HI5.out.cH p (by omega)
      have hget : (H.set p bk2).getD p false = bk2 := by
        have := HI5.out.1
        rw [List.length_set] at this
        rw [List.getD_eq_getElem?_getD, List.getElem?_set_self (by omega)]
        rfl
      rw [hget] at cB5
      have HFN : RowKit.Hid ((fullC (cs.take (j + 1))).length = fn + (if bk = true then 0 else 1)) := Lib.hid (by
        rw [HST.out.2.2, List.length_append, HFLN.out]
        cases bk <;> rfl)
      clear hI4 hget
      have HIR := Lib.hid (show CbI w (hasF has (cs.take (j + 1))) lv (touF (cs.take (j + 1))) (W4.setCell ⟨w.heap.size + 1 + 1, p / 32, none⟩ (.bool true)) by rw [HST.out.1, HST.out.2.1]; exact HI5.out)
      have hwn : IntKind.i64.wrap ((fn : Int) + 1) = (fn : Int) + 1 := IntWalk.i64_in _ (by omega)
      cases bk2
      · have HBT : RowKit.Hid (bk = true) := Lib.hid (by have := HBKE.out; cases bk; cases this; rfl)
        go_wp2_with fail
        refine ⟨⟨j + 1, by omega, by go_num, by rw [HFN.out, if_pos HBT.out]; rfl, HIR.out⟩, by simp [intOf]; omega⟩
      · have HBT : RowKit.Hid (bk = false) := Lib.hid (by have := HBKE.out; cases bk; rfl; cases this)
        go_wp2_with fail
        refine ⟨⟨j + 1, by omega, by go_num, by rw [HFN.out, HBT.out]; go_num, HIR.out⟩, by simp [intOf]; omega⟩
    · obtain rfl : j = cs.length := by omega
      have dj : decide ((cs.length : Int) < (cs.length : Int)) = false := decide_eq_false (by omega)
      rw [List.take_length] at hI ⊢
      have HI := Lib.hid hI
      clear hI HC0
      have hN : (fullC cs).length ≤ 128 := Nat.le_trans (List.length_filter_le _ _) hcs
      have HRR : RowKit.Hid (R = (fullC cs).length + cN (hasF has cs) (touF cs) 4 + if cs ≠ [] ∧ sN (hasF has cs) lv (touF cs) 4 = true then 1 else 0) := Lib.hid (by rw [← HR.out]; rfl)
      clear HR
      generalize hasF has cs = H at *
      generalize touF cs = T at *
      generalize (fullC cs).length = N at *
      go_wp2_with fail
      go_loopw [7, 11, 38] (fun n b i wy => ∃ (q : Nat), q ≤ 4 ∧ i = .int .i64 (q : Int) ∧ n = .int .i64 ((N + cN H T q : Nat) : Int) ∧ b = .bool (sN H lv T q) ∧ CbI w H (lvN H lv T q) T wy) (fun _ _ i _ => 4 - (intOf i).toNat)
      case atStart => exact ⟨0, by omega, rfl, rfl, rfl, by rw [lvN_zero HLN.out.2]; exact HI.out⟩
      case round =>
        obtain ⟨q, hq, rfl, rfl, rfl, hI2⟩ := hrel
        have hcn := cN_le H T q
        by_cases hlt : q < 4
        · have dq : decide ((q : Int) < 4) = true := decide_eq_true (by omega)
          obtain ⟨cT, fT⟩ := hI2.cT q hlt
          have HI2 := Lib.hid hI2
          have HSK := Lib.hid (fun h => lvN_skip H lv T q hlt h)
          have HAT := Lib.hid (lvN_at H lv T q hlt)
          have HST := Lib.hid (fun b hb => lvN_set H lv T q hlt b hb)
          have HCS : RowKit.Hid (∀ b, T.getD q false = b → svL H lv T q = (if b = true then anyH H q 32 else lv.getD q false) ∧ cN H T (q + 1) = cN H T q + (if b = true ∧ anyH H q 32 = true then 1 else 0)) := Lib.hid (fun b e => by subst e; exact ⟨rfl, rfl⟩)
          have HSN : RowKit.Hid (sN H lv T (q + 1) = (sN H lv T q || svL H lv T q)) := Lib.hid rfl
          clear hI2
          generalize hcnq : cN H T q = c at *
          have HCQ := Lib.hid hcnq
          clear hcnq
          generalize hsq : sN H lv T q = sm at *
          have HSQ := Lib.hid hsq
          clear hsq
          generalize htb : T.getD q false = tb at *
          have HTB := Lib.hid htb
          clear htb
          cases tb
          · have HIN := Lib.hid (show CbI w H (lvN H lv T (q + 1)) T wr by rw [← HSK.out rfl]; exact HI2.out)
            obtain ⟨cL, fL⟩ := HIN.out.cL q hlt
            rw [HAT.out] at cL
            have HCN : RowKit.Hid (cN H T (q + 1) = c) := Lib.hid (by have := (HCS.out false rfl).2; simpa using this)
            generalize hsv : svL H lv T q = sv at *
            have HSV := Lib.hid hsv
            clear hsv
            cases sm
            · go_wp2_with fail
              refine ⟨⟨q + 1, by omega, by go_num, by rw [HCN.out], by rw [HSN.out]; rfl, HIN.out⟩, by simp [intOf]; omega⟩
            · go_wp2_with fail
              refine ⟨⟨q + 1, by omega, by go_num, by rw [HCN.out], by rw [HSN.out]; rfl, HIN.out⟩, by simp [intOf]; omega⟩
          · have HCN : RowKit.Hid (svL H lv T q = anyH H q 32 ∧ cN H T (q + 1) = c + if anyH H q 32 = true then 1 else 0) := Lib.hid ⟨(HCS.out true rfl).1, by have := (HCS.out true rfl).2; simpa using this⟩
            obtain ⟨cL, fL⟩ := HI2.out.cL q hlt
            have HI3 := Lib.hid (HI2.out.setL q false)
            go_wp2_with fail
            go_loopw [13] (fun i wz => ∃ (k : Nat), k ≤ 32 ∧ i = .int .i64 (k : Int) ∧ CbI w H ((lvN H lv T q).set q (anyH H q k)) T wz) (fun i _ => 32 - (intOf i).toNat)
            case atStart => exact ⟨0, by omega, rfl, HI3.out⟩
            case round =>
              obtain ⟨k, hk, rfl, hI5⟩ := hrel
              have HI5 := Lib.hid hI5
              clear hI5
              have hgl : ∀ b, ((lvN H lv T q).set q b).getD q false = b := fun b => by
                rw [List.getD_eq_getElem?_getD, List.getElem?_set_self (by rw [lvN_len]; exact hlt)]
                rfl
              obtain ⟨cL5, fL5⟩ := HI5.out.cL q hlt
              rw [hgl] at cL5
              by_cases hkt : k < 32
              · have dk : decide ((k : Int) < 32) = true := decide_eq_true (by omega)
                have HAS := Lib.hid (anyH_succ H q k)
                have HI6 := Lib.hid (fun b => HI5.out.setL q b)
                obtain ⟨cH, fH⟩ := HI5.out.cH (32 * q + k) (by omega)
                have hw1 : IntKind.i64.wrap ((q : Int) * 32) = (q : Int) * 32 := IntWalk.i64_in _ (by omega)
                have hw2 : IntKind.i64.wrap ((q : Int) * 32 + (k : Int)) = ((32 * q + k : Nat) : Int) := by rw [IntWalk.i64_in _ (by omega)]; omega
                generalize hak : anyH H q k = ak at *
                have HAK := Lib.hid hak
                clear hak hgl
                generalize hhk : H.getD (32 * q + k) false = hb at *
                have HHK := Lib.hid hhk
                clear hhk
                cases ak
                · have HI7 := Lib.hid (show CbI w H ((lvN H lv T q).set q (anyH H q (k + 1))) T (wr.setCell ⟨w.heap.size + 1, q, none⟩ (.bool hb)) by
                    rw [HAS.out]
                    have := HI6.out hb
                    rwa [List.set_set] at this)
                  go_wp2_with fail
                  refine ⟨⟨k + 1, by omega, by go_num, HI7.out⟩, by simp [intOf]; omega⟩
                · have HI7 := Lib.hid (show CbI w H ((lvN H lv T q).set q (anyH H q (k + 1))) T (wr.setCell ⟨w.heap.size + 1, q, none⟩ (.bool true)) by
                    rw [HAS.out]
                    have := HI6.out true
                    rwa [List.set_set] at this)
                  go_wp2_with fail
                  refine ⟨⟨k + 1, by omega, by go_num, HI7.out⟩, by simp [intOf]; omega⟩
              · obtain rfl : k = 32 := by omega
                have dk : decide (((32 : Nat) : Int) < 32) = false := by decide
                have HI7 := Lib.hid (show CbI w H (lvN H lv T (q + 1)) T wr by
                  rw [← HST.out (anyH H q 32) HCN.out.1.symm]
                  exact HI5.out)
                have hwc : IntKind.i64.wrap (((N + c : Nat) : Int) + 1) = ((N + c + 1 : Nat) : Int) := by rw [IntWalk.i64_in _ (by omega)]; omega
                generalize hak : anyH H q 32 = ak at *
                have HAK := Lib.hid hak
                clear hak hgl
                cases ak
                · have HC0 : RowKit.Hid (cN H T (q + 1) = c ∧ sN H lv T (q + 1) = sm) := Lib.hid ⟨by rw [HCN.out.2]; rfl, by rw [HSN.out, HCN.out.1]; simp⟩
                  cases sm
                  · go_wp2_with fail
                    refine ⟨⟨q + 1, by omega, by go_num, by rw [HC0.out.1], by rw [HC0.out.2], HI7.out⟩, by simp [intOf]; omega⟩
                  · go_wp2_with fail
                    refine ⟨⟨q + 1, by omega, by go_num, by rw [HC0.out.1], by rw [HC0.out.2], HI7.out⟩, by simp [intOf]; omega⟩
                · have HC0 : RowKit.Hid (cN H T (q + 1) = c + 1 ∧ sN H lv T (q + 1) = true) := Lib.hid ⟨by rw [HCN.out.2]; rfl, by rw [HSN.out, HCN.out.1]; simp⟩
                  cases sm
                  · go_wp2_with fail
                    refine ⟨⟨q + 1, by omega, by go_num, by rw [HC0.out.1]; rfl, by rw [HC0.out.2], HI7.out⟩, by simp [intOf]; omega⟩
                  · go_wp2_with fail
                    refine ⟨⟨q + 1, by omega, by go_num, by rw [HC0.out.1]; rfl, by rw [HC0.out.2], HI7.out⟩, by simp [intOf]; omega⟩
        · obtain rfl : q = 4 := by omega
          have dq : decide (((4 : Nat) : Int) < 4) = false := by decide
          have HI4 := Lib.hid hI2
          clear hI2
          generalize hcn4 : cN H T 4 = c at *
          generalize hs4 : sN H lv T 4 = sm at *
          have hw1 : IntKind.i64.wrap (((N + c : Nat) : Int) + 1) = ((N + c + 1 : Nat) : Int) := by rw [IntWalk.i64_in _ (by omega)]; omega
          by_cases hce : cs = []
          · have HCE := Lib.hid hce
            have dl : (0 < cs.length) = False := by rw [hce]; simp
            have HE : RowKit.Hid (R = N + c) := Lib.hid (by rw [HRR.out, if_neg (fun h => h.1 hce)]; rfl)
            clear hce
            go_wp2_with fail
            go_ret
            exact ⟨by rw [HE.out]; rfl, HI4.out.2.2.2.2.2.2⟩
          · have dl : (0 < cs.length) = True := eq_true (List.length_pos_iff.2 hce)
            have HE : RowKit.Hid (R = N + c + if sm = true then 1 else 0) := Lib.hid (by rw [HRR.out]; simp only [ne_eq, hce, not_false_eq_true, true_and])
            clear hce
            cases sm
            · have HE2 : RowKit.Hid (R = N + c) := Lib.hid (by rw [HE.out]; rfl)
              clear HE HRR
              go_wp2_with fail
              go_ret
              exact ⟨by rw [HE2.out]; rfl, HI4.out.2.2.2.2.2.2⟩
            · have HE2 : RowKit.Hid (R = N + c + 1) := Lib.hid (by rw [HE.out]; rfl)
              clear HE HRR
              go_wp2_with fail
              go_ret
              exact ⟨by rw [HE2.out]; rfl, HI4.out.2.2.2.2.2.2⟩
end Go.Proofs.YtpcikbloflpahaaDoor
namespace Go.Proofs.YtpcikbloflpahaaDoor
set_option linter.unusedVariables false
set_option linter.unusedSimpArgs false
open Go.RowKit Go.Shelf Go.Maps

def posJ (l : List Int) (j : Nat) : List Bool := (List.range l.length).map fun p => if p < j then decide (0 < l.getD p 0) else false
theorem posJ_len (l : List Int) (j : Nat) : (posJ l j).length = l.length := by simp [posJ]
theorem posJ_zero (l : List Int) : posJ l 0 = List.replicate l.length false := by
  apply List.ext_getElem (by simp [posJ])
  intro i h1 h2
  simp [posJ]
theorem posJ_set (l : List Int) (j : Nat) (hj : j < l.length) : (posJ l j).set j (decide (0 < l.getD j 0)) = posJ l (j + 1) := by
  apply List.ext_getElem (by simp [posJ])
  intro k h1 h2
  rw [List.getElem_set]
  simp only [posJ, List.getElem_map, List.getElem_range]
  split
  · rename_i e; subst e; rw [if_pos (by omega)]
  · rename_i e
    by_cases q : k < j
    · rw [if_pos q, if_pos (by omega)]
    · rw [if_neg q, if_neg (by omega)]
def hasT (B : List Int) (top : Int) : List Bool := posJ (pgB B top 128) 128
def lvT (B : List Int) (top : Int) : List Bool := posJ (lvB B top 4) 4
def CostRQ (w : World) (B : List Int) (N : Nat) (top : Int) (L : List ChA) (e : Ending) (w' : World) : Prop :=
  Fr No w w' ∧ (((∀ y ∈ L, goodC y) ∧ (∃ s, treeB B N top = some s) ∧ e = .returned (.tuple #[.int .i64 (countR (hasT B top) (lvT B top) (outG (pagesG L 128)) : Int), .int .i64 0])) ∨
    ∃ n : Int, CostX B N top L n ∧ e = .returned (.tuple #[.int .i64 0, .int .i64 n]))
theorem size_b128 : (Tryd.prog.info? 93).map (·.size) = some 128 := by kernel_rfl
theorem size_b4 : (Tryd.prog.info? 94).map (·.size) = some 4 := by kernel_rfl
theorem alloc_b128 {ops : Array Oper} {rest : List Oper} {o : Oper} {a : Act} {w : World} {Q : Exit → Act → World → Prop} (hg : o.guard = none) (ho : o.op = .alloc 93)
    (hK : wpList Tryd.prog ops Q rest (a.put o.dst (.pointer (some ⟨w.heap.size, 0, none⟩))) (w.alloc (.cells (bls (List.replicate 128 false)).toArray 93))) : wpList Tryd.prog ops Q (o :: rest) a w := by
  have hr : (Instr.alloc 93 true (.tuple #[])).run Tryd.prog w = .ok (.pointer (some ⟨w.heap.size, 0, none⟩)) (w.alloc (.cells (bls (List.replicate 128 false)).toArray 93)) := by kernel_rfl
  refine wpList_plain hg fun K' hK' => ?_
  unfold Oper.wp
  simp only [execOp, ho, Sem.run_bind, hr, Result.andThen]
  exact hK' _ _ hK
theorem load_b128 {ops : Array Oper} {rest : List Oper} {o : Oper} {a : Act} {w : World} {Q : Exit → Act → World → Prop} (hg : o.guard = none) (x : Operand) (ho : o.op = .load 93 x)
    (b : Nat) (l : List Bool) (hx : a.eval x = .pointer (some ⟨b, 0, none⟩)) (h : w.heap[b]? = some (.cells (bls l).toArray 93 (0, 0))) (hl : l.length = 128)
    (hK : wpList Tryd.prog ops Q rest (a.put o.dst (.agg (bls l).toArray)) w) : wpList Tryd.prog ops Q (o :: rest) a w :=
  wpList_load_mid hg _ x ho b 0 hx (bls l) _ (fun j v hj => by rw [Nat.zero_add]; exact heap_cell h (by simpa using hj)) Tryd.underlying93 rfl (by rw [size_b128, bls_len, hl]) hK
theorem load_b4 {ops : Array Oper} {rest : List Oper} {o : Oper} {a : Act} {w : World} {Q : Exit → Act → World → Prop} (hg : o.guard = none) (x : Operand) (ho : o.op = .load 94 x)
    (b : Nat) (l : List Bool) (hx : a.eval x = .pointer (some ⟨b, 0, none⟩)) (h : w.heap[b]? = some (.cells (bls l).toArray 94 (0, 0))) (hl : l.length = 4)
    (hK : wpList Tryd.prog ops Q rest (a.put o.dst (.agg (bls l).toArray)) w) : wpList Tryd.prog ops Q (o :: rest) a w :=
  wpList_load_mid hg _ x ho b 0 hx (bls l) _ (fun j v hj => by rw [Nat.zero_add]; exact heap_cell h (by simpa using hj)) Tryd.underlying94 rfl (by rw [size_b4, bls_len, hl]) hK
theorem trC_lv {top : Int} {lv pg : List Int} {v : Value} {i : Nat} (h : i < lv.length) : (TrC top lv pg v).toArray[1 + i]? = some (.int .i64 (lv.getD i 0)) := by
  unfold TrC
  rw [List.getElem?_toArray, Nat.add_comm 1 i, List.getElem?_cons_succ, List.getElem?_append_left (by rw [ints7_len]; exact h)]
  simp [ints7, h]
theorem trC_pg {top : Int} {lv pg : List Int} {v : Value} {i : Nat} (h1 : lv.length = 4) (h : i < pg.length) : (TrC top lv pg v).toArray[5 + i]? = some (.int .i64 (pg.getD i 0)) := by
  unfold TrC
  rw [List.getElem?_toArray, show 5 + i = (4 + i) + 1 from by omega, List.getElem?_cons_succ, List.getElem?_append_right (by rw [ints7_len]; omega), List.getElem?_append_left (by simp only [ints7_len]; omega)]
  simp only [ints7_len]
  rw [h1, show 4 + i - 4 = i from by omega]
  simp [ints7, h]
theorem hcvL {n0 : Nat} {cs : List Chg} {vs : List (Int × Value)} {W W' : World} (h : ChV n0 cs vs W) (hF : Fr No W W') : ChV n0 cs vs W' := h.fr0 hF
attribute [local irreducible] lvB pgB rdN ndB trZ countR treeB
set_option maxHeartbeats 8000000 in
set_option maxRecDepth 1000000 in
theorem rcost_calls {w : World} {db N : Nat} {B : List Int} (hd : RfR w db N B) (top : Int) (htop : -9223372036854775808 ≤ top ∧ top ≤ 9223372036854775807)
    (v : Value) (L : List ChA) (hv : Sl w v L.length (L.flatMap chaC)) (hok : ∀ y ∈ L, chaOk w y) (hlen : L.length ≤ 140737488355328) :
    Calls Tryd.prog 14 #[.pointer (some ⟨db, 0, none⟩), .int .i64 top, v] w (CostRQ w B N top L) := by
  have HM := Lib.hid (rmerge_calls v L w hv hok hlen)
  have HD := Lib.hid hd
  clear hd hv hok hlen
  go_enter Tryd.func14, Tryd.ntmps14
  go_wp2_with fail
  refine HM.out.mono ?_
  rintro e w1 (⟨hg, r, vs, rfl, hF1, hown, hcv⟩ | ⟨hb, rfl, hF1⟩)
  · have HG := Lib.hid hg
    have HF1 := Lib.hid hF1
    have HOW := Lib.hid hown
    have HCV := Lib.hid hcv
    have HCG := Lib.hid (outG_good hg)
    clear hg hF1 hown hcv
    obtain ⟨ar, cr, rfl⟩ := (Sl.of_owns HOW.out).form
    go_wp2_with fail
    refine (trread_calls (HD.out.fr0 HF1.out) top htop).mono ?_
    rintro e w2 ⟨hF2, ⟨s, tv, hts, rfl, hot⟩ | ⟨htn, rfl⟩⟩
    · obtain ⟨at', ct', rfl⟩ := (Sl.of_owns hot).form
      have HTS := Lib.hid hts
      have HF := Lib.hid (HF1.out.trans hF2)
      have hcv2 := hcvL HCV.out hF2
      have hown2 := ownsRow_fr7 HOW.out hF2 (fun _ _ h => h)
      have HCV2 := Lib.hid hcv2
      have HOW2 := Lib.hid hown2
      have HTL := Lib.hid (trC_len (top := top) (v := .slice at' s.length ct') (lvB_len B top 4) (pgB_len B top 128))
      have HPL := Lib.hid (And.intro (lvB_len B top 4) (pgB_len B top 128))
      have HHT : RowKit.Hid (hasT B top = posJ (pgB B top 128) 128 ∧ lvT B top = posJ (lvB B top 4) 4) := Lib.hid ⟨rfl, rfl⟩
      clear hts hF2 hot hcv2 hown2
      generalize lvB B top 4 = lv at *
      generalize pgB B top 128 = pg at *
      go_wp2_with (first
        | (refine alloc_tr w2.heap.size rfl rfl rfl ?_)
        | (refine store_tr rfl _ _ rfl w2.heap.size (TrC top lv pg (.slice at' s.length ct')) trZ rfl rfl (heap_new w2 _) HTL.out trZ_len trC_one ?_; intro w3 hF3 hb3; have HB3 := Lib.hid hb3; have HF23 := Lib.hid (((Fr.refl No w2).alloc (.cells trZ.toArray 47)).trans' hF3 (fun i hi (e : i = _) => by omega)); clear hF3 hb3)
        | (refine alloc_b128 rfl rfl ?_)
        | fail "arm")
      have HN := Lib.hid (heap_new w3 (.cells (bls (List.replicate 128 false)).toArray 93))
      have HFa := Lib.hid ((HF.out.trans HF23.out).alloc (.cells (bls (List.replicate 128 false)).toArray 93))
      have hs23 : w2.heap.size < w3.heap.size := heap_lt7 HB3.out
      have HBa := Lib.hid (heap_alloc (.cells (bls (List.replicate 128 false)).toArray 93) HB3.out)
      have HF2a := Lib.hid (HF23.out.alloc (.cells (bls (List.replicate 128 false)).toArray 93))
      have HPZ : RowKit.Hid (posJ pg 0 = List.replicate 128 false ∧ posJ lv 0 = List.replicate 4 false) := Lib.hid ⟨by rw [posJ_zero, HPL.out.2], by rw [posJ_zero, HPL.out.1]⟩
      go_loopw [32] (fun i wr => ∃ j : Nat, j ≤ 128 ∧ i = .int .i64 (j : Int) ∧ wr.heap[w2.heap.size]? = some (.cells (TrC top lv pg (.slice at' s.length ct')).toArray 47 (0, 0)) ∧ wr.heap[w3.heap.size]? = some (.cells (bls (posJ pg j)).toArray 93 (0, 0)) ∧ Fr No w2 wr) (fun i _ => 128 - (intOf i).toNat)
      case atStart => exact ⟨0, by omega, rfl, HBa.out, by rw [HPZ.out.1]; exact HN.out, HF2a.out⟩
      case round =>
        obtain ⟨j, hj, rfl, hbt, hbh, hF⟩ := hrel
        by_cases hlt : j < 128
        · have dj : decide ((j : Int) < 128) = true := decide_eq_true (by omega)
          have cp := heap_cell hbt (trC_pg HPL.out.1 (by rw [HPL.out.2]; exact hlt) : _ = some (.int .i64 (pg.getD j 0)))
          have ch := heap_cell (o := j) hbh (by rw [List.getElem?_toArray]; exact bls_get _ _ (by rw [posJ_len, HPL.out.2]; exact hlt))
          have fh := heap_frozen (o := j) hbh
          have HPS := Lib.hid (posJ_set pg j (by rw [HPL.out.2]; exact hlt))
          generalize pg.getD j 0 = x at *
          have hFs : Fr (fun k => k = w3.heap.size) wr (wr.setCell ⟨w3.heap.size, j, none⟩ (.bool (decide (0 < x)))) := (Fr.refl (fun k => k = w3.heap.size) wr).setCell (p := ⟨w3.heap.size, j, none⟩) (fun _ => rfl) _
          have hbs := heap_setAt7 hbh j (.bool (decide (0 < x)))
          rw [bls_set, HPS.out] at hbs
          have HX := Lib.hid (And.intro (hFs.heap hbt (fun (e : w2.heap.size = w3.heap.size) => by omega)) (And.intro hbs (hF.trans' hFs (fun i hi (e : i = _) => by omega))))
          clear hbt hbh hF hFs hbs
          go_wp2_with fail
          refine ⟨⟨j + 1, by omega, by go_num, HX.out⟩, by simp [intOf]; omega⟩
        · obtain rfl : j = 128 := by omega
          have dj : decide (((128 : Nat) : Int) < 128) = false := by decide
          have HX := Lib.hid (And.intro hbt (And.intro hbh hF))
          clear hbt hbh hF
          go_wp2_with (first
            | (refine alloc_b4 rfl rfl ?_)
            | fail "arm")
          have HX2 := Lib.hid (And.intro (heap_alloc (.cells (bls (List.replicate 4 false)).toArray 94) HX.out.1) (And.intro (heap_alloc (.cells (bls (List.replicate 4 false)).toArray 94) HX.out.2.1) (And.intro (heap_new wr (.cells (bls (List.replicate 4 false)).toArray 94)) (HX.out.2.2.alloc (.cells (bls (List.replicate 4 false)).toArray 94)))))
          have hs3r : w3.heap.size < wr.heap.size := heap_lt7 HX.out.2.1
          generalize wr.heap.size = nl at *
          go_loopw [43] (fun i wy => ∃ j : Nat, j ≤ 4 ∧ i = .int .i64 (j : Int) ∧ wy.heap[w2.heap.size]? = some (.cells (TrC top lv pg (.slice at' s.length ct')).toArray 47 (0, 0)) ∧ wy.heap[w3.heap.size]? = some (.cells (bls (posJ pg 128)).toArray 93 (0, 0)) ∧ wy.heap[nl]? = some (.cells (bls (posJ lv j)).toArray 94 (0, 0)) ∧ Fr No w2 wy) (fun i _ => 4 - (intOf i).toNat)
          case atStart => exact ⟨0, by omega, rfl, HX2.out.1, HX2.out.2.1, by rw [HPZ.out.2]; exact HX2.out.2.2.1, HX2.out.2.2.2⟩
          case round =>
            obtain ⟨k, hk, rfl, hbt, hbh, hbl, hF⟩ := hrel
            by_cases hkt : k < 4
            · have dk : decide ((k : Int) < 4) = true := decide_eq_true (by omega)
              have cp := heap_cell hbt (trC_lv (by rw [HPL.out.1]; exact hkt) : _ = some (.int .i64 (lv.getD k 0)))
              have ch := heap_cell (o := k) hbl (by rw [List.getElem?_toArray]; exact bls_get _ _ (by rw [posJ_len, HPL.out.1]; exact hkt))
              have fh := heap_frozen (o := k) hbl
              have HPS := Lib.hid (posJ_set lv k (by rw [HPL.out.1]; exact hkt))
              generalize lv.getD k 0 = x at *
              have hFs : Fr (fun k => k = nl) wr (wr.setCell ⟨nl, k, none⟩ (.bool (decide (0 < x)))) := (Fr.refl (fun k => k = nl) wr).setCell (p := ⟨nl, k, none⟩) (fun _ => rfl) _
              have hbs := heap_setAt7 hbl k (.bool (decide (0 < x)))
              rw [bls_set, HPS.out] at hbs
              have HX3 := Lib.hid (And.intro (hFs.heap hbt (fun (e : w2.heap.size = nl) => by omega)) (And.intro (hFs.heap hbh (fun (e : w3.heap.size = nl) => by omega)) (And.intro hbs (hF.trans' hFs (fun i hi (e : i = _) => by omega)))))
              clear hbt hbh hbl hF hFs hbs
              go_wp2_with fail
              refine ⟨⟨k + 1, by omega, by go_num, HX3.out⟩, by simp [intOf]; omega⟩
            · obtain rfl : k = 4 := by omega
              have dk : decide (((4 : Nat) : Int) < 4) = false := by decide
              have HX4 := Lib.hid (And.intro hbt (And.intro hbh (And.intro hbl hF)))
              have HCT := Lib.hid (count_calls (w := wr) (posJ pg 128) (posJ lv 4) (by rw [posJ_len]; exact HPL.out.2) (by rw [posJ_len]; exact HPL.out.1) (.slice ar (pagesG L 128).length cr) (outG (pagesG L 128)) vs (by rw [outG_len]; exact ownsRow_fr7 HOW2.out hF (fun _ _ h => h)) (HCV2.out.fr0 hF) HCG.out (by rw [outG_len]; exact pagesG_len L 128))
              have HBH := Lib.hid (show (posJ pg 128).length = 128 ∧ (posJ lv 4).length = 4 from ⟨by rw [posJ_len]; exact HPL.out.2, by rw [posJ_len]; exact HPL.out.1⟩)
              clear hbt hbh hbl hF
              go_wp2_with (first
                | (refine load_b128 rfl _ rfl w3.heap.size (posJ pg 128) rfl HX4.out.2.1 HBH.out.1 ?_)
                | (refine load_b4 rfl _ rfl nl (posJ lv 4) rfl HX4.out.2.2.1 HBH.out.2 ?_)
                | fail "arm")
              refine HCT.out.mono ?_
              rintro e w9 ⟨rfl, hF9⟩
              have HF9 := Lib.hid (HF.out.trans (HX4.out.2.2.2.trans hF9))
              clear hF9
              rw [← HHT.out.1, ← HHT.out.2]
              generalize hR : countR (hasT B top) (lvT B top) (outG (pagesG L 128)) = R at *
              have HR := Lib.hid hR
              clear hR
              go_wp2_with fail
              go_ret2
              exact ⟨HF9.out, .inl ⟨HG.out, ⟨s, HTS.out⟩, by rw [HR.out]; rfl⟩⟩
    · have HF := Lib.hid (HF1.out.trans hF2)
      have HT := Lib.hid htn
      clear hF2 htn
      go_wp2_with (first
        | (refine alloc_tr w2.heap.size rfl rfl rfl ?_)
        | (refine store_tr rfl _ _ rfl w2.heap.size trZ trZ rfl rfl (heap_new w2 _) trZ_len trZ_len trZ_one ?_; intro w3 hF3 hb3)
        | fail "arm")
      go_ret2
      exact ⟨(HF.out.alloc _).trans' hF3 (fun i hi (e : i = _) => by have := HF.out.size; omega), .inr ⟨60, .inr ⟨HG.out, HT.out, rfl⟩, rfl⟩⟩
  · have HB := Lib.hid hb
    have HF := Lib.hid hF1
    clear hb hF1
    go_wp2_with fail
    go_ret2
    exact ⟨HF.out, .inr ⟨1, .inl ⟨HB.out, rfl⟩, rfl⟩⟩
end Go.Proofs.YtpcikbloflpahaaDoor
