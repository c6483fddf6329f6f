/-
  Chapter 7: the reference's disk: New.
-/
import Derived.Test.YtpcikbloflpahaaDoorYC
import Derived.Test.YtpcikbloflpahaaDoorYD
import Derived.Test.YtpcikbloflpahaaDoorZPn7
namespace Go.Proofs.YtpcikbloflpahaaDoor
set_option linter.unusedVariables false
set_option linter.unusedSimpArgs false
open Go.RowKit Go.Shelf Go.Maps

theorem el_bs7 : Elem Tryd.prog 60 30 (.slice none 0 0) 1 24 := ⟨by kernel_rfl, by kernel_rfl, rfl, by decide⟩
def slB (ss : List Nat) : List Value := ss.map fun b => .slice (some ⟨b, 0, none⟩) 64 64
theorem slB_len (ss : List Nat) : (slB ss).length = ss.length := by simp [slB]
theorem slB_snoc (ss : List Nat) (b : Nat) : slB (ss ++ [b]) = slB ss ++ [.slice (some ⟨b, 0, none⟩) 64 64] := by simp [slB]
def RfC (sv : Value) : List Value := [sv, .slice none 0 0, .int .i64 (-1), .bool false, .int .i64 0]
/-- A reference's disk with N sectors; the blocks ss hold them. -/
structure RfN (w : World) (n0 db : Nat) (sv : Value) (ss : List Nat) (f : Nat → List Int) : Prop where
  box : w.heap[db]? = some (.cells (RfC sv).toArray 63 (0, 0))
  own : w.ownsRow n0 30 1 sv ss.length (slB ss)
  row : ∀ (i : Nat) (h : i < ss.length), Row w ss[i] 5 (f i)
  lo : ∀ b ∈ ss, n0 ≤ b
  nd : ss.Nodup
  n0 : n0 ≤ db
theorem RfN.fr {w w' : World} {n0 db : Nat} {sv : Value} {ss : List Nat} {f : Nat → List Int} {S : Nat → Prop} (h : RfN w n0 db sv ss f) (hF : Fr S w w') (h1 : ¬ S db) (h2 : ∀ k, sv.ownBlock = some k → ¬ S k) (h3 : ∀ b ∈ ss, ¬ S b) : RfN w' n0 db sv ss f :=
  ⟨hF.heap h.box h1, ownsRow_fr7 h.own hF h2, fun i hi => (h.row i hi).fr hF (h3 _ (List.getElem_mem hi)), h.lo, h.nd, h.n0⟩
theorem RfN.fr0 {w w' : World} {n0 db : Nat} {sv : Value} {ss : List Nat} {f : Nat → List Int} (h : RfN w n0 db sv ss f) (hF : Fr No w w') : RfN w' n0 db sv ss f := h.fr hF (fun h => h) (fun _ _ h => h) (fun _ _ h => h)
/-- A sector's block is no row of slices. -/
theorem RfN.apart {w : World} {n0 db : Nat} {sv : Value} {ss : List Nat} {f : Nat → List Int} (h : RfN w n0 db sv ss f) (b : Nat) (hb : b ∈ ss) : sv.ownBlock ≠ some b := by
  obtain ⟨i, hi, rfl⟩ := List.mem_iff_getElem.1 hb
  exact fun e => not_row7 (h.row i hi) (fun cs f e3 => by injection e3 with _ e3; exact absurd e3 (by decide)) h.own _ e rfl
theorem RfN.lt {w : World} {n0 db : Nat} {sv : Value} {ss : List Nat} {f : Nat → List Int} (h : RfN w n0 db sv ss f) (b : Nat) (hb : b ∈ ss) : b < w.heap.size := by
  obtain ⟨i, hi, rfl⟩ := List.mem_iff_getElem.1 hb
  exact (h.row i hi).lt
theorem RfN.db_row {w : World} {n0 db : Nat} {sv : Value} {ss : List Nat} {f : Nat → List Int} (h : RfN w n0 db sv ss f) : sv.ownBlock ≠ some db := fun e => not_row7 h.box (fun cs f e3 => by injection e3 with _ e3; exact absurd e3 (by decide)) h.own _ e rfl
theorem RfN.db_sec {w : World} {n0 db : Nat} {sv : Value} {ss : List Nat} {f : Nat → List Int} (h : RfN w n0 db sv ss f) : db ∉ ss := fun hb => by
  obtain ⟨i, hi, e⟩ := List.mem_iff_getElem.1 hb
  have := h.row i hi
  rw [e] at this
  have hb := h.box
  unfold Row at this
  rw [this] at hb
  injection hb with hb
  injection hb with _ hb
  exact absurd hb (by decide)
/-- One sector more. -/
theorem RfN.snoc {w w2 : World} {n0 db : Nat} {sv sv' : Value} {ss : List Nat} {f : Nat → List Int} {S : Nat → Prop} (h : RfN w n0 db sv ss f) (b : Nat) (hb : w.heap.size ≤ b) (hF : Fr S w w2) (hS : ∀ k, S k → k = db ∨ sv.ownBlock = some k)
    (hbox : w2.heap[db]? = some (.cells (RfC sv').toArray 63 (0, 0))) (hown : w2.ownsRow n0 30 1 sv' (ss.length + 1) (slB ss ++ [.slice (some ⟨b, 0, none⟩) 64 64])) (hrow : Row w2 b 5 (f ss.length)) (hw : n0 ≤ w.heap.size) : RfN w2 n0 db sv' (ss ++ [b]) f := by
  refine ⟨hbox, by rw [slB_snoc, List.length_append]; exact hown, fun i hi => ?_, fun k hk => ?_, ?_, h.n0⟩
  · rw [List.length_append] at hi
    by_cases hlt : i < ss.length
    · rw [List.getElem_append_left hlt]
      refine (h.row i hlt).fr hF (fun e => ?_)
      rcases hS _ e with e | e
      · exact h.db_sec (e ▸ List.getElem_mem hlt)
      · exact h.apart _ (List.getElem_mem hlt) e
    · obtain rfl : i = ss.length := by simp at hi; omega
      rw [List.getElem_append_right (Nat.le_refl _)]
      simpa using hrow
  · rw [List.mem_append] at hk
    rcases hk with hk | hk
    · exact h.lo k hk
    · simp at hk; omega
  · rw [List.nodup_append]
    refine ⟨h.nd, by simp, ?_⟩
    intro a ha c hc e
    simp at hc
    have := h.lt a ha
    omega
set_option maxHeartbeats 2000000 in
set_option maxRecDepth 1000000 in
theorem rnew_calls (N : Nat) (hN : N ≤ 2000) (w : World) : Calls Tryd.prog 39 #[.int .i64 (N : Int)] w fun e w' => ∃ db sv ss, e = .returned (.pointer (some ⟨db, 0, none⟩)) ∧ ss.length = N ∧ RfN w' w.heap.size db sv ss (fun _ => zs 64) ∧ Fr No w w' := by
  have hmk : ∀ w : World, (Instr.makeSlice 30 (.int .i64 64) (.int .i64 64)).run Tryd.prog w = .ok (.slice (some ⟨w.heap.size, 0, none⟩) 64 64) (w.alloc (.cells (bys (zs 64)).toArray 5)) := fun w => mk_bytes w 64 (by decide)
  have d1 : decide ((N : Int) < 0) = false := decide_eq_false (by omega)
  have d2 : decide (2000 < (N : Int)) = false := decide_eq_false (by omega)
  have d3 : decide (0 < (N : Int)) = decide (0 < N) := by simp
  go_enter Tryd.func39, Tryd.ntmps39
  go_wp2_with fail
  have hF1 : Fr No w (w.alloc (Obj.cells #[.slice none 0 0, .slice none 0 0, .int .i64 (-1), .bool false, .int .i64 0] 63)) := (Fr.refl No w).alloc _
  have hb1 : (w.alloc (Obj.cells #[.slice none 0 0, .slice none 0 0, .int .i64 (-1), .bool false, .int .i64 0] 63)).heap[w.heap.size]? = some (.cells (RfC (.slice none 0 0)).toArray 63 (0, 0)) := heap_new _ _
  have hs1 := heap_lt7 hb1
  generalize w.alloc (Obj.cells #[.slice none 0 0, .slice none 0 0, .int .i64 (-1), .bool false, .int .i64 0] 63) = W1 at *
  have H0 : RowKit.Hid (RfN W1 w.heap.size w.heap.size (.slice none 0 0) [] (fun _ => zs 64)) := Lib.hid ⟨hb1, World.ownsRow_nil _ _ _ _, fun i hi => by simp at hi, fun b hb => by simp at hb, List.nodup_nil, Nat.le_refl _⟩
  have HF1 := Lib.hid hF1
  clear hF1 hb1
  go_loopw [4] (fun i wr => ∃ j : Nat, j ≤ N ∧ i = .int .i64 (j : Int) ∧ (∃ sv ss, ss.length = j ∧ RfN wr w.heap.size w.heap.size sv ss (fun _ => zs 64)) ∧ Fr No w wr ∧ w.heap.size < wr.heap.size) (fun i _ => N - (intOf i).toNat)
  case atStart => exact ⟨0, Nat.zero_le _, rfl, ⟨_, [], rfl, H0.out⟩, HF1.out, hs1⟩
  case round =>
    obtain ⟨j, hj, rfl, ⟨sv, ss, hl, hR⟩, hF, hsz⟩ := hrel
    by_cases hlt : j < N
    · have dj : decide ((j : Int) < (N : Int)) = true := decide_eq_true (by omega)
      obtain ⟨pa, pc, rfl⟩ := (Sl.of_owns hR.own).form
      have HR := Lib.hid hR
      have HF := Lib.hid hF
      subst hl
      have c0 : wr.drew.cell? ⟨w.heap.size, 0, none⟩ = some (.slice pa ss.length pc) := heap_cell (w := wr) (o := 0) hR.box rfl
      have c1 : (wr.alloc (.cells (bys (zs 64)).toArray 5)).drew.cell? ⟨w.heap.size, 0, none⟩ = some (.slice pa ss.length pc) := heap_cell (w := wr.alloc (.cells (bys (zs 64)).toArray 5)) (o := 0) (heap_alloc _ hR.box) rfl
      have HFA : RowKit.Hid (Fr No wr ((wr.alloc (.cells (bys (zs 64)).toArray 5)).alloc (Obj.cells #[.slice (some ⟨wr.heap.size, 0, none⟩) 64 64] 30)).drew) := Lib.hid (((Fr.refl No wr).alloc _).alloc _).drew
      have HRA := Lib.hid (hR.fr0 HFA.out)
      have c2 : ((wr.alloc (.cells (bys (zs 64)).toArray 5)).alloc (Obj.cells #[.slice (some ⟨wr.heap.size, 0, none⟩) 64 64] 30)).drew.cell? ⟨w.heap.size, 0, none⟩ = some (.slice pa ss.length pc) := heap_cell (o := 0) HRA.out.box rfl
      have HNW : RowKit.Hid (Row ((wr.alloc (.cells (bys (zs 64)).toArray 5)).alloc (Obj.cells #[.slice (some ⟨wr.heap.size, 0, none⟩) 64 64] 30)).drew wr.heap.size 5 (zs 64)) := Lib.hid (heap_alloc (w := wr.alloc (.cells (bys (zs 64)).toArray 5)) _ (Row.new wr _ _))
      have HSL : RowKit.Hid (Sl ((wr.alloc (.cells (bys (zs 64)).toArray 5)).alloc (Obj.cells #[.slice (some ⟨wr.heap.size, 0, none⟩) 64 64] 30)).drew (.slice (some ⟨wr.heap.size + 1, 0, none⟩) 1 1) 1 [.slice (some ⟨wr.heap.size, 0, none⟩) 64 64]) := Lib.hid (by
        have := (sl_new7 (wr.alloc (.cells (bys (zs 64)).toArray 5)) [.slice (some ⟨wr.heap.size, 0, none⟩) 64 64] 30 1 (by simp) (by omega)).fr0 (Fr.refl No _).drew
        simpa using this)
      have HSZ : RowKit.Hid (w.heap.size ≤ ((wr.alloc (.cells (bys (zs 64)).toArray 5)).alloc (Obj.cells #[.slice (some ⟨wr.heap.size, 0, none⟩) 64 64] 30)).drew.heap.size) := Lib.hid (Nat.le_trans (Nat.le_of_lt hsz) HFA.out.size)
      clear hR hF H0
      go_upto_region 5 with fail
      go_region_law (refine step_append_sl el_bs7 rfl _ _ rfl w.heap.size (.slice pa ss.length pc) ss.length (slB ss) rfl HRA.out.own rfl HSL.out rfl (fun u hu => by simp at hu; subst hu; rfl) (by unfold maxLen; omega) (by omega) HSZ.out ?_; intro a9 n9 c9 w9 hown9 hgrow9 hlie9; have hF9 := fr_grown7 hgrow9; have hpb9 := hF9.heap HRA.out.box (fun e => HRA.out.db_row e); have k9 := heap_cell (o := 0) hpb9 rfl; have f9 := heap_frozen (o := 0) hpb9)
      all_goals (
        have hFs : Fr (fun k => k = w.heap.size) w9 (w9.setCell ⟨w.heap.size, 0, none⟩ (.slice a9 n9 c9)) := (Fr.refl (fun k => k = w.heap.size) w9).setCell (p := ⟨w.heap.size, 0, none⟩) (fun _ => rfl) _
        have HX := Lib.hid (And.intro hown9 (And.intro hF9 (And.intro hpb9 hFs)))
        have HZ := Lib.hid hsz
        clear hown9 hgrow9 hlie9 hF9 hpb9 hFs hsz
        go_wp2_with fail
        obtain ⟨hown9, hF9, hpb9, hFs⟩ := HX.out
        have hsz := HZ.out
        have hnr : (Value.slice pa ss.length pc).ownBlock ≠ some wr.heap.size := fun e => not_row7 HNW.out (fun cs f e3 => by injection e3 with _ e3; exact absurd e3 (by decide)) HRA.out.own _ e rfl
        have hFa : Fr (fun k => k = w.heap.size ∨ (Value.slice pa ss.length pc).ownBlock = some k) wr (w9.setCell ⟨w.heap.size, 0, none⟩ (.slice a9 n9 c9)) := (HFA.out.no.trans (hF9.mono (fun k _ e => .inr e))).trans (hFs.mono (fun k _ e => .inl e))
        refine ⟨⟨ss.length + 1, by omega, by go_num, ⟨.slice a9 n9 c9, ss ++ [wr.heap.size], by simp, ?_⟩, ?_, ?_⟩, by simp [intOf]; omega⟩
        · refine HR.out.snoc wr.heap.size (Nat.le_refl _) hFa (fun k h => h) (heap_setAt7 hpb9 0 _) ?_ ?_ (Nat.le_of_lt hsz)
          · exact ownsRow_fr7 hown9 hFs (fun q e (e2 : q = _) => not_row7 hpb9 (fun cs f e3 => by injection e3 with _ e3; exact absurd e3 (by decide)) hown9 q e e2)
          · exact (HNW.out.fr hF9 hnr).fr hFs (fun (e : wr.heap.size = _) => by omega)
        · exact HF.out.trans' hFa (fun i hi e => by rcases e with e | e; omega; have := (HR.out.own.lt i e).1; omega)
        · exact Nat.lt_of_lt_of_le hsz hFa.size)
    · obtain rfl : j = N := by omega
      have dj : decide ((j : Int) < (j : Int)) = false := decide_eq_false (by omega)
      have HR := Lib.hid hR
      have HF := Lib.hid hF
      clear hR hF H0
      go_wp2_with fail
      go_ret
      exact ⟨_, _, ss, rfl, hl, HR.out, HF.out⟩
set_option maxHeartbeats 2000000 in
set_option maxRecDepth 1000000 in
theorem rnew_big (M : Nat) (hM : 2000 < M) (w : World) : Calls Tryd.prog 39 #[.int .i64 (M : Int)] w fun e w' => ∃ db sv ss, e = .returned (.pointer (some ⟨db, 0, none⟩)) ∧ ss.length = 2000 ∧ RfN w' w.heap.size db sv ss (fun _ => zs 64) ∧ Fr No w w' := by
  have hmk : ∀ w : World, (Instr.makeSlice 30 (.int .i64 64) (.int .i64 64)).run Tryd.prog w = .ok (.slice (some ⟨w.heap.size, 0, none⟩) 64 64) (w.alloc (.cells (bys (zs 64)).toArray 5)) := fun w => mk_bytes w 64 (by decide)
  have d1 : decide ((M : Int) < 0) = false := decide_eq_false (by omega)
  have d2 : decide (2000 < (M : Int)) = true := decide_eq_true (by omega)
  have d3 : decide (0 < (M : Int)) = true := decide_eq_true (by omega)
  go_enter Tryd.func39, Tryd.ntmps39
  go_wp2_with fail
  have hF1 : Fr No w (w.alloc (Obj.cells #[.slice none 0 0, .slice none 0 0, .int .i64 (-1), .bool false, .int .i64 0] 63)) := (Fr.refl No w).alloc _
  have hb1 : (w.alloc (Obj.cells #[.slice none 0 0, .slice none 0 0, .int .i64 (-1), .bool false, .int .i64 0] 63)).heap[w.heap.size]? = some (.cells (RfC (.slice none 0 0)).toArray 63 (0, 0)) := heap_new _ _
  have hs1 := heap_lt7 hb1
  generalize w.alloc (Obj.cells #[.slice none 0 0, .slice none 0 0, .int .i64 (-1), .bool false, .int .i64 0] 63) = W1 at *
  have H0 : RowKit.Hid (RfN W1 w.heap.size w.heap.size (.slice none 0 0) [] (fun _ => zs 64)) := Lib.hid ⟨hb1, World.ownsRow_nil _ _ _ _, fun i hi => by simp at hi, fun b hb => by simp at hb, List.nodup_nil, Nat.le_refl _⟩
  have HF1 := Lib.hid hF1
  clear hF1 hb1
  go_loopw [4] (fun i wr => ∃ j : Nat, j ≤ 2000 ∧ i = .int .i64 (j : Int) ∧ (∃ sv ss, ss.length = j ∧ RfN wr w.heap.size w.heap.size sv ss (fun _ => zs 64)) ∧ Fr No w wr ∧ w.heap.size < wr.heap.size) (fun i _ => 2000 - (intOf i).toNat)
  case atStart => exact ⟨0, Nat.zero_le _, rfl, ⟨_, [], rfl, H0.out⟩, HF1.out, hs1⟩
  case round =>
    obtain ⟨j, hj, rfl, ⟨sv, ss, hl, hR⟩, hF, hsz⟩ := hrel
    by_cases hlt : j < 2000
    · have dj : decide ((j : Int) < 2000) = true := decide_eq_true (by omega)
      obtain ⟨pa, pc, rfl⟩ := (Sl.of_owns hR.own).form
      have HR := Lib.hid hR
      have HF := Lib.hid hF
      subst hl
      have c0 : wr.drew.cell? ⟨w.heap.size, 0, none⟩ = some (.slice pa ss.length pc) := heap_cell (w := wr) (o := 0) hR.box rfl
      have c1 : (wr.alloc (.cells (bys (zs 64)).toArray 5)).drew.cell? ⟨w.heap.size, 0, none⟩ = some (.slice pa ss.length pc) := heap_cell (w := wr.alloc (.cells (bys (zs 64)).toArray 5)) (o := 0) (heap_alloc _ hR.box) rfl
      have HFA : RowKit.Hid (Fr No wr ((wr.alloc (.cells (bys (zs 64)).toArray 5)).alloc (Obj.cells #[.slice (some ⟨wr.heap.size, 0, none⟩) 64 64] 30)).drew) := Lib.hid (((Fr.refl No wr).alloc _).alloc _).drew
      have HRA := Lib.hid (hR.fr0 HFA.out)
      have c2 : ((wr.alloc (.cells (bys (zs 64)).toArray 5)).alloc (Obj.cells #[.slice (some ⟨wr.heap.size, 0, none⟩) 64 64] 30)).drew.cell? ⟨w.heap.size, 0, none⟩ = some (.slice pa ss.length pc) := heap_cell (o := 0) HRA.out.box rfl
      have HNW : RowKit.Hid (Row ((wr.alloc (.cells (bys (zs 64)).toArray 5)).alloc (Obj.cells #[.slice (some ⟨wr.heap.size, 0, none⟩) 64 64] 30)).drew wr.heap.size 5 (zs 64)) := Lib.hid (heap_alloc (w := wr.alloc (.cells (bys (zs 64)).toArray 5)) _ (Row.new wr _ _))
      have HSL : RowKit.Hid (Sl ((wr.alloc (.cells (bys (zs 64)).toArray 5)).alloc (Obj.cells #[.slice (some ⟨wr.heap.size, 0, none⟩) 64 64] 30)).drew (.slice (some ⟨wr.heap.size + 1, 0, none⟩) 1 1) 1 [.slice (some ⟨wr.heap.size, 0, none⟩) 64 64]) := Lib.hid (by
        have := (sl_new7 (wr.alloc (.cells (bys (zs 64)).toArray 5)) [.slice (some ⟨wr.heap.size, 0, none⟩) 64 64] 30 1 (by simp) (by omega)).fr0 (Fr.refl No _).drew
        simpa using this)
      have HSZ : RowKit.Hid (w.heap.size ≤ ((wr.alloc (.cells (bys (zs 64)).toArray 5)).alloc (Obj.cells #[.slice (some ⟨wr.heap.size, 0, none⟩) 64 64] 30)).drew.heap.size) := Lib.hid (Nat.le_trans (Nat.le_of_lt hsz) HFA.out.size)
      clear hR hF H0
      go_upto_region 5 with fail
      go_region_law (refine step_append_sl el_bs7 rfl _ _ rfl w.heap.size (.slice pa ss.length pc) ss.length (slB ss) rfl HRA.out.own rfl HSL.out rfl (fun u hu => by simp at hu; subst hu; rfl) (by unfold maxLen; omega) (by omega) HSZ.out ?_; intro a9 n9 c9 w9 hown9 hgrow9 hlie9; have hF9 := fr_grown7 hgrow9; have hpb9 := hF9.heap HRA.out.box (fun e => HRA.out.db_row e); have k9 := heap_cell (o := 0) hpb9 rfl; have f9 := heap_frozen (o := 0) hpb9)
      all_goals (
        have hFs : Fr (fun k => k = w.heap.size) w9 (w9.setCell ⟨w.heap.size, 0, none⟩ (.slice a9 n9 c9)) := (Fr.refl (fun k => k = w.heap.size) w9).setCell (p := ⟨w.heap.size, 0, none⟩) (fun _ => rfl) _
        have HX := Lib.hid (And.intro hown9 (And.intro hF9 (And.intro hpb9 hFs)))
        have HZ := Lib.hid hsz
        clear hown9 hgrow9 hlie9 hF9 hpb9 hFs hsz
        go_wp2_with fail
        obtain ⟨hown9, hF9, hpb9, hFs⟩ := HX.out
        have hsz := HZ.out
        have hnr : (Value.slice pa ss.length pc).ownBlock ≠ some wr.heap.size := fun e => not_row7 HNW.out (fun cs f e3 => by injection e3 with _ e3; exact absurd e3 (by decide)) HRA.out.own _ e rfl
        have hFa : Fr (fun k => k = w.heap.size ∨ (Value.slice pa ss.length pc).ownBlock = some k) wr (w9.setCell ⟨w.heap.size, 0, none⟩ (.slice a9 n9 c9)) := (HFA.out.no.trans (hF9.mono (fun k _ e => .inr e))).trans (hFs.mono (fun k _ e => .inl e))
        refine ⟨⟨ss.length + 1, by omega, by go_num, ⟨.slice a9 n9 c9, ss ++ [wr.heap.size], by simp, ?_⟩, ?_, ?_⟩, by simp [intOf]; omega⟩
        · refine HR.out.snoc wr.heap.size (Nat.le_refl _) hFa (fun k h => h) (heap_setAt7 hpb9 0 _) ?_ ?_ (Nat.le_of_lt hsz)
          · exact ownsRow_fr7 hown9 hFs (fun q e (e2 : q = _) => not_row7 hpb9 (fun cs f e3 => by injection e3 with _ e3; exact absurd e3 (by decide)) hown9 q e e2)
          · exact (HNW.out.fr hF9 hnr).fr hFs (fun (e : wr.heap.size = _) => by omega)
        · exact HF.out.trans' hFa (fun i hi e => by rcases e with e | e; omega; have := (HR.out.own.lt i e).1; omega)
        · exact Nat.lt_of_lt_of_le hsz hFa.size)
    · obtain rfl : j = 2000 := by omega
      have dj : decide (((2000 : Nat) : Int) < 2000) = false := by decide
      have HR := Lib.hid hR
      have HF := Lib.hid hF
      clear hR hF H0
      go_wp2_with fail
      go_ret
      exact ⟨_, _, ss, rfl, hl, HR.out, HF.out⟩
theorem rnewg_calls (M : Nat) (w : World) : Calls Tryd.prog 39 #[.int .i64 (M : Int)] w fun e w' => ∃ db sv ss, e = .returned (.pointer (some ⟨db, 0, none⟩)) ∧ ss.length = min M 2000 ∧ RfN w' w.heap.size db sv ss (fun _ => zs 64) ∧ Fr No w w' := by
  by_cases h : M ≤ 2000
  · rw [Nat.min_eq_left h]; exact rnew_calls M h w
  · rw [Nat.min_eq_right (by omega)]; exact rnew_big M (by omega) w
end Go.Proofs.YtpcikbloflpahaaDoor
namespace Go.Proofs.YtpcikbloflpahaaDoor
set_option linter.unusedVariables false
set_option linter.unusedSimpArgs false
open Go.RowKit Go.Shelf Go.Maps

theorem secB_ofB (b : List Int) (i : Nat) (hi : i < manyS b.length) : spl (zs 64) 0 ((b.drop (64 * i)).take 64) = secB (ofB b) i := by
  have h64 : ((b.drop (64 * i)).take 64).length ≤ 64 := by simp; omega
  apply List.ext_getElem?
  intro k
  unfold ofB secB laidB spl zs
  by_cases hk : k < 64
  · simp only [List.take_zero, List.nil_append, Nat.zero_add]
    rw [List.getElem?_take_of_lt hk, List.getElem?_drop, List.getElem?_map, List.getElem?_range (by omega)]
    simp only [Option.map_some, if_pos (show 64 * i + k < 64 * manyS b.length by omega)]
    by_cases h1 : 64 * i + k < b.length
    · rw [List.getElem?_append_left (by simp; omega), List.getElem?_take_of_lt hk, List.getElem?_drop, List.getD_eq_getElem?_getD, List.getElem?_eq_getElem h1]
      rfl
    · rw [List.getElem?_append_right (by simp; omega), List.getElem?_drop, List.getElem?_replicate, List.getD_eq_getElem?_getD, List.getElem?_eq_none (by omega)]
      rw [if_pos (by simp only [List.length_take, List.length_drop]; omega)]
      rfl
  · rw [List.getElem?_eq_none (by simp; omega), List.getElem?_eq_none (by simp; omega)]
/-- One sector is laid. -/
theorem RfN.lay {w w2 : World} {n0 db : Nat} {sv : Value} {ss : List Nat} {f g : Nat → List Int} (h : RfN w n0 db sv ss f) (j : Nat) (hj : j < ss.length) (hF : Fr (fun k => k = ss[j]) w w2) (hr : Row w2 ss[j] 5 (g j)) (hg : ∀ i, i ≠ j → g i = f i) : RfN w2 n0 db sv ss g := by
  refine ⟨hF.heap h.box (fun e => h.db_sec (e ▸ List.getElem_mem hj)), ownsRow_fr7 h.own hF (fun k e (e2 : k = _) => h.apart _ (List.getElem_mem hj) (e2 ▸ e)), fun i hi => ?_, h.lo, h.nd, h.n0⟩
  by_cases e : i = j
  · subst e; exact hr
  · rw [hg i e]
    have hp := List.pairwise_iff_getElem.1 h.nd
    refine (h.row i hi).fr hF (fun (e2 : ss[i] = ss[j]) => ?_)
    rcases Nat.lt_or_gt_of_ne e with q | q
    · exact hp i j hi hj q e2
    · exact hp j i hj hi q e2.symm
theorem RfN.cell0 {w : World} {n0 db : Nat} {sv : Value} {ss : List Nat} {f : Nat → List Int} (h : RfN w n0 db sv ss f) : w.cell? ⟨db, 0, none⟩ = some sv := heap_cell (o := 0) h.box rfl
theorem RfN.cellj {w : World} {n0 db g o c : Nat} {ss : List Nat} {f : Nat → List Int} (h : RfN w n0 db (.slice (some ⟨g, o, none⟩) ss.length c) ss f) {j sj : Nat} (hj : j < ss.length) (e : ss[j] = sj) : w.cell? ⟨g, o + j, none⟩ = some (.slice (some ⟨sj, 0, none⟩) 64 64) := by
  subst e
  have hget : (slB ss)[j]? = some (.slice (some ⟨ss[j], 0, none⟩) 64 64) := by simp [slB, hj]
  have hsl := Sl.of_owns h.own
  obtain ⟨g', o', hag, -, hc⟩ := hsl.at (fun e : slB ss = [] => by rw [e] at hget; simp at hget)
  injection hag with hag
  injection hag with hag1 hag2
  subst hag1 hag2
  exact hc _ _ hget
/-- A reference's disk of N sectors with the bytes B on it. -/
def RfR (w : World) (db N : Nat) (B : List Int) : Prop := N ≤ 2000 ∧ B.length = 64 * N ∧ (∀ x ∈ B, 0 ≤ x ∧ x < 256) ∧ ∃ n0 sv ss, ss.length = N ∧ RfN w n0 db sv ss (fun i => secB B i)
theorem RfR.fr0 {w w' : World} {db N : Nat} {B : List Int} (h : RfR w db N B) (hF : Fr No w w') : RfR w' db N B := by
  obtain ⟨h1, h2, h3, n0, sv, ss, h4, h5⟩ := h
  exact ⟨h1, h2, h3, n0, sv, ss, h4, h5.fr0 hF⟩
set_option maxHeartbeats 2000000 in
set_option maxRecDepth 1000000 in
theorem rof_calls {w : World} (v : Value) (b : List Int) (hlen : b.length ≤ 140737488355328) (hr : ∀ x ∈ b, 0 ≤ x ∧ x < 256) (hv : Sl w v b.length (bys b)) : Calls Tryd.prog 15 #[v] w fun e w' => ∃ db, e = .returned (.pointer (some ⟨db, 0, none⟩)) ∧ RfR w' db (manyS b.length) (ofB b) ∧ Fr No w w' := by
  obtain ⟨ad, cap, rfl, hn0, hcap⟩ := hv.form0
  have hm : manyS b.length ≤ 2000 := by unfold manyS; omega
  have hmm : min ((b.length + 63) / 64) 2000 = manyS b.length := by unfold manyS; omega
  have hnw := rnewg_calls ((b.length + 63) / 64) w
  rw [hmm] at hnw
  have HNW := Lib.hid hnw
  clear hnw hmm
  have HV := Lib.hid hv
  clear hv
  have HNB : RowKit.Hid (∀ N, manyS b.length = N → True ∧ ∀ j < N, 64 * j < b.length) := Lib.hid (fun N e => by subst e; unfold manyS; exact ⟨trivial, fun j hj => by omega⟩)
  have HOF : RowKit.Hid ((ofB b).length = 64 * manyS b.length ∧ (∀ x ∈ ofB b, 0 ≤ x ∧ x < 256) ∧ ∀ i, i < manyS b.length → spl (zs 64) 0 ((b.drop (64 * i)).take 64) = secB (ofB b) i) := Lib.hid ⟨ofB_len b, ofB_range hr, secB_ofB b⟩
  generalize ofB b = ob at *
  generalize hN : manyS b.length = N at *
  have HN := Lib.hid (HNB.out _ rfl)
  clear hN HNB
  generalize hN1 : (b.length + 63) / 64 = M at *
  have hq : IntKind.i64.wrap (((b.length : Nat) : Int) / 64) = ((b.length / 64 : Nat) : Int) := by rw [IntWalk.i64_in _ (by omega)]; omega
  have hwr1 : IntKind.i64.wrap (((b.length / 64 : Nat) : Int) + 1) = ((b.length / 64 : Nat) : Int) + 1 := IntWalk.i64_in _ (by omega)
  go_enter Tryd.func15, Tryd.ntmps15
  go_wp2_with fail
  all_goals first | rw [show ((b.length : Int) / 64 + 1) = (M : Int) from by omega] | rw [show ((b.length : Int) / 64) = (M : Int) from by omega]
  all_goals clear hN1
  all_goals (
    refine HNW.out.mono ?_
    rintro e w2 ⟨db, sv, ss, rfl, rfl, hR2, hF2⟩
    obtain ⟨pa, pc, rfl⟩ := (Sl.of_owns hR2.own).form
    have k0 : w2.cell? ⟨db, 0, none⟩ = some (.slice pa ss.length pc) := heap_cell (o := 0) hR2.box rfl
    have HR2 := Lib.hid hR2
    have HF2 := Lib.hid hF2
    clear hR2 hF2)
  all_goals go_wp2_with fail
  all_goals (
    go_loopw [22] (fun i wr => ∃ j : Nat, j ≤ ss.length ∧ i = .int .i64 j ∧ RfN wr w.heap.size db (.slice pa ss.length pc) ss (fun i => if i < j then secB ob i else zs 64) ∧ Fr (fun k => k ∈ ss) w2 wr) (fun i _ => ss.length - (intOf i).toNat)
    case atStart => exact ⟨0, Nat.zero_le _, rfl, by simpa using HR2.out, Fr.refl _ _⟩
    case round =>
      obtain ⟨j, hj, rfl, hR, hF⟩ := hrel
      by_cases hlt : j < ss.length
      · have dj : decide ((j : Int) < (ss.length : Int)) = true := decide_eq_true (by omega)
        have hjb := HN.out.2 j hlt
        have hget : (slB ss)[j]? = some (.slice (some ⟨ss[j], 0, none⟩) 64 64) := by simp [slB, hlt]
        obtain ⟨g, o, hag, -, hc⟩ := (Sl.of_owns hR.own).at (by intro e; rw [e] at hget; simp at hget)
        have x1 := hc _ _ hget
        subst hag
        have k0d : wr.drew.cell? ⟨db, 0, none⟩ = some (.slice (some ⟨g, o, none⟩) ss.length pc) := heap_cell (w := wr) (o := 0) hR.box rfl
        have x1d : wr.drew.cell? ⟨g, o + j, none⟩ = some (.slice (some ⟨ss[j], 0, none⟩) 64 64) := x1
        have HLO := Lib.hid (hR.lo _ (List.getElem_mem hlt))
        have HR := Lib.hid hR
        have hwr : IntKind.i64.wrap ((j : Int) * 64) = 64 * (j : Int) := by have := IntWalk.i64_in ((j : Int) * 64) (by omega); rw [this]; omega
        have hq0 : (64 * (j : Int)).toNat = 64 * j := by omega
        have hq1 : (0 ≤ 64 * (j : Int) ∧ 64 * (j : Int) ≤ (b.length : Int)) = True := eq_true ⟨by omega, by omega⟩
        have hq2 : (cap = 64 * j) = False := eq_false (by omega)
        have hmem := List.getElem_mem hlt
        have hsd : Sl wr.drew (.slice (Option.map (fun x => x.add (64 * j)) ad) (b.length - 64 * j) (cap - 64 * j)) (b.length - 64 * j) (bys (b.drop (64 * j))) := by
          have h1 : Fr (fun k => k ∈ ss) w wr.drew := (HF2.out.no.trans hF).drew
          have := (HV.out.fr h1 (fun k e hne hk => by have := HV.out.lt e hne; have := hR.lo k hk; omega)).drop (k := 64 * j) (size := 1) (by omega) (by simp [bys])
          rw [if_neg (by omega)] at this
          simpa [bys, List.map_drop] using this
        have hrw := hR.row j hlt
        simp only [Nat.lt_irrefl, if_false] at hrw
        obtain ⟨w5, hrw5, hF5, hcp⟩ := Row.copyMin (w := wr.drew) hrw (b.drop (64 * j)) (Option.map (fun x => x.add (64 * j)) ad) (cap - 64 * j) 0 64 64 (by simp; omega) (by rw [List.length_drop]; exact hsd) (by rw [List.length_drop]; simp [zs]; omega)
        rw [List.length_drop] at hcp
        rw [HOF.out.2.2 j hlt] at hrw5
        have HR5 := Lib.hid (RfN.lay (g := fun i => if i < j + 1 then secB ob i else zs 64) (hR.fr0 (Fr.refl No wr).drew) j hlt hF5 (by rw [if_pos (by omega)]; exact hrw5) (fun i hi => by
          by_cases h : i < j
          · rw [if_pos (by omega), if_pos h]
          · rw [if_neg (by omega), if_neg h]))
        have HF5 := Lib.hid (hF.trans ((Fr.refl (fun k => k ∈ ss) wr).drew.trans (hF5.mono (fun k _ (e : k = _) => e ▸ hmem))))
        clear hR hF k0 hsd hrw5 hF5 hrw x1 hc hget
        generalize hsj : ss[j] = sj at *
        go_upto_region 8 with fail
        refine wp_region_held_drew (S := (fun w' => w'.cell? ⟨db, 0, none⟩ = some (.slice (some ⟨g, o, none⟩) ss.length pc) ∧ w'.cell? ⟨g, o + j, none⟩ = some (.slice (some ⟨sj, 0, none⟩) 64 64))) (by kernel_rfl) ⟨k0d, x1d⟩ (fun hS0 => ?_)
        refine take_at7 (i := 0) (d := some 25) (v := ?_) rfl rfl (by kernel_rfl) (by kernel_rfl) (by kernel_rfl) (fun _ _ _ h => h) (Or.inl ⟨by rfl, ?_⟩) (by assumption) ?_
        rotate_left
        · intro w hSw; go_simp; try (with_reducible rfl)
        try simp only [Act.put, List.setIfInBounds_toArray, List.set_cons_zero, List.set_cons_succ]
        refine take_at7 (i := 1) (d := some 26) (v := ?_) rfl rfl (by kernel_rfl) (by kernel_rfl) (by kernel_rfl) (fun _ _ _ h => h) (Or.inl ⟨by rfl, ?_⟩) (by assumption) ?_
        rotate_left
        · intro w hSw; go_simp; try (with_reducible rfl)
        try simp only [Act.put, List.setIfInBounds_toArray, List.set_cons_zero, List.set_cons_succ]
        refine take_at7 (i := 2) (d := some 27) (v := ?_) rfl rfl (by kernel_rfl) (by kernel_rfl) (by kernel_rfl) (fun _ _ _ h => h) (Or.inl ⟨by rfl, ?_⟩) (by assumption) ?_
        rotate_left
        · intro w hSw; go_simp; try (with_reducible rfl)
        try simp only [Act.put, List.setIfInBounds_toArray, List.set_cons_zero, List.set_cons_succ]
        refine take_at7 (i := 3) (d := some 28) (v := ?_) rfl rfl (by kernel_rfl) (by kernel_rfl) (by kernel_rfl) (fun _ _ _ h => h) (Or.inl ⟨by rfl, ?_⟩) (by assumption) ?_
        rotate_left
        · intro w hSw; go_simp; try (with_reducible rfl)
        try simp only [Act.put, List.setIfInBounds_toArray, List.set_cons_zero, List.set_cons_succ]
        refine take_at7 (i := 4) (d := some 29) (v := ?_) rfl rfl (by kernel_rfl) (by kernel_rfl) (by kernel_rfl) (fun _ _ _ h => h) (Or.inl ⟨by rfl, ?_⟩) (by assumption) ?_
        rotate_left
        · intro w hSw; go_simp; try (with_reducible rfl)
        try simp only [Act.put, List.setIfInBounds_toArray, List.set_cons_zero, List.set_cons_succ]
        refine take_at7 (i := 5) (d := some 30) (v := ?_) rfl rfl (by kernel_rfl) (by kernel_rfl) (by kernel_rfl) (fun _ _ _ h => h) (Or.inl ⟨by rfl, ?_⟩) (by assumption) ?_
        rotate_left
        · intro w hSw; go_simp; try (with_reducible rfl)
        try simp only [Act.put, List.setIfInBounds_toArray, List.set_cons_zero, List.set_cons_succ]
        refine take_at7 (i := 6) (d := some 31) (v := ?_) rfl rfl (by kernel_rfl) (by kernel_rfl) (by kernel_rfl) (fun _ _ _ h => h) (Or.inl ⟨by rfl, ?_⟩) (by assumption) ?_
        rotate_left
        · intro w hSw; go_simp; try (with_reducible rfl)
        try simp only [Act.put, List.setIfInBounds_toArray, List.set_cons_zero, List.set_cons_succ]
        refine take_at7 (i := 7) (d := some 32) (v := ?_) rfl rfl (by kernel_rfl) (by kernel_rfl) (by kernel_rfl) (fun _ _ _ h => h) (Or.inl ⟨by rfl, ?_⟩) (by assumption) ?_
        rotate_left
        · intro w hSw; go_simp; try (with_reducible rfl)
        try simp only [Act.put, List.setIfInBounds_toArray, List.set_cons_zero, List.set_cons_succ]
        refine take_at7 (i := 8) (d := some 33) (v := ?_) rfl rfl (by kernel_rfl) (by kernel_rfl) (by kernel_rfl) (fun _ _ _ h => h) (Or.inl ⟨by rfl, ?_⟩) (by assumption) ?_
        rotate_left
        · intro w hSw; go_simp; try (with_reducible rfl)
        try simp only [Act.put, List.setIfInBounds_toArray, List.set_cons_zero, List.set_cons_succ]
        refine take_at7 (i := 9) (d := some 34) (v := ?_) rfl rfl (by kernel_rfl) (by kernel_rfl) (by kernel_rfl) (fun _ _ _ h => h) (Or.inl ⟨by rfl, ?_⟩) (by assumption) ?_
        rotate_left
        · intro w hSw; go_simp; try (with_reducible rfl)
        try simp only [Act.put, List.setIfInBounds_toArray, List.set_cons_zero, List.set_cons_succ]
        refine take_at7 (i := 10) (d := some 35) (v := ?_) rfl rfl (by kernel_rfl) (by kernel_rfl) (by kernel_rfl) (fun _ _ _ h => h) (Or.inl ⟨by rfl, ?_⟩) (by assumption) ?_
        rotate_left
        · intro w hSw; go_simp; try (with_reducible rfl)
        try simp only [Act.put, List.setIfInBounds_toArray, List.set_cons_zero, List.set_cons_succ]
        refine one_H7 (i := 11) (d := some 36) rfl rfl rfl (by kernel_rfl) (fun K hK => ?_)
        go_simp
        refine hK.out _ _ ⟨HR5.out.cell0, HR5.out.cellj hlt hsj⟩ (fun hHeld => ?_)
        clear hK K
        try simp only [Act.put, List.setIfInBounds_toArray, List.set_cons_zero, List.set_cons_succ]
        refine wpAnyH_done (by kernel_rfl) ?_ _
        go_wp2_with fail
        refine ⟨⟨j + 1, by omega, by go_num, HR5.out, HF5.out⟩, by simp [intOf]; omega⟩
      · obtain rfl : j = ss.length := by omega
        have dj : decide ((ss.length : Int) < (ss.length : Int)) = false := decide_eq_false (by omega)
        have HR := Lib.hid hR
        have HF := Lib.hid hF
        clear hR hF k0
        go_wp2_with fail
        go_ret
        have HRn : RfN wr w.heap.size db (.slice pa ss.length pc) ss (fun i => secB ob i) := ⟨HR.out.box, HR.out.own, fun i hi => by have := HR.out.row i hi; rwa [if_pos hi] at this, HR.out.lo, HR.out.nd, HR.out.n0⟩
        exact ⟨db, rfl, ⟨hm, HOF.out.1, HOF.out.2.1, w.heap.size, .slice pa ss.length pc, ss, rfl, HRn⟩, HF2.out.trans' HF.out (fun i hi (e : i ∈ ss) => by have := HR.out.lo i e; omega)⟩)
end Go.Proofs.YtpcikbloflpahaaDoor
namespace Go.Proofs.YtpcikbloflpahaaDoor
set_option linter.unusedVariables false
set_option linter.unusedSimpArgs false
open Go.RowKit Go.Shelf Go.Maps

theorem RfR.cells {w : World} {db N : Nat} {B : List Int} (h : RfR w db N B) : ∃ pa pc, w.cell? ⟨db, 0, none⟩ = some (.slice pa N pc) ∧ w.cell? ⟨db, 1, none⟩ = some (.slice none 0 0) ∧ w.cell? ⟨db, 3, none⟩ = some (.bool false) := by
  obtain ⟨h1, h2, h3, n0, sv, ss, h4, h5⟩ := h
  obtain ⟨pa, pc, rfl⟩ := (Sl.of_owns h5.own).form
  subst h4
  exact ⟨pa, pc, heap_cell (o := 0) h5.box rfl, heap_cell (o := 1) h5.box rfl, heap_cell (o := 3) h5.box rfl⟩
theorem RfR.sec {w : World} {db N : Nat} {B : List Int} (h : RfR w db N B) (i : Nat) (hi : i < N) : ∃ g o pc s, w.cell? ⟨db, 0, none⟩ = some (.slice (some ⟨g, o, none⟩) N pc) ∧ w.cell? ⟨g, o + i, none⟩ = some (.slice (some ⟨s, 0, none⟩) 64 64) ∧ Row w s 5 (secB B i) := by
  obtain ⟨h1, h2, h3, n0, sv, ss, h4, h5⟩ := h
  obtain ⟨pa, pc, rfl⟩ := (Sl.of_owns h5.own).form
  subst h4
  have hget : (slB ss)[i]? = some (.slice (some ⟨ss[i], 0, none⟩) 64 64) := by simp [slB, hi]
  have hsl := Sl.of_owns h5.own
  obtain ⟨g, o, hag, -, hc⟩ := hsl.at (fun e : slB ss = [] => by rw [e] at hget; simp at hget)
  have x1 := hc _ _ hget
  subst hag
  exact ⟨g, o, pc, ss[i], heap_cell (o := 0) h5.box rfl, x1, h5.row i hi⟩
set_option maxHeartbeats 1000000 in
set_option maxRecDepth 1000000 in
theorem rdhas_calls {w : World} {db N : Nat} {B : List Int} (h : RfR w db N B) (i : Nat) (hi : i < N) : Calls Tryd.prog 64 #[.pointer (some ⟨db, 0, none⟩), .int .i64 (i : Int)] w fun e w' => e = .returned (.bool true) ∧ w' = w := by
  obtain ⟨pa, pc, c0, -, -⟩ := h.cells
  have d1 : decide ((0 : Int) ≤ (i : Int)) = true := decide_eq_true (by omega)
  have d2 : decide ((i : Int) < (N : Int)) = true := decide_eq_true (by omega)
  clear h
  go_enter Tryd.func64, Tryd.ntmps64
  go_wp2_with fail
  go_ret
  exact ⟨rfl, rfl⟩
set_option maxHeartbeats 2000000 in
set_option maxRecDepth 1000000 in
theorem rdread_calls {w : World} {db N : Nat} {B : List Int} (h : RfR w db N B) (i : Nat) (hi : i < N) : Calls Tryd.prog 42 #[.pointer (some ⟨db, 0, none⟩), .int .i64 (i : Int)] w fun e w' => ∃ r, e = .returned (.tuple #[r, .int .i64 0]) ∧ Fr No w w' ∧ w'.ownsRow w.heap.size 5 1 r 64 (bys (secB B i)) := by
  have HH := Lib.hid (rdhas_calls h i hi)
  obtain ⟨-, -, -, c1, c3⟩ := h.cells
  obtain ⟨g, o, pc, s, c0, x1, hrw⟩ := h.sec i hi
  have hl : (secB B i).length = 64 := secB_len (by rw [h.2.1]; omega)
  have hsl : Sl w (.slice (some ⟨s, 0, none⟩) 64 64) 64 (bys (secB B i)) := by
    have := hrw.sl
    rwa [hl] at this
  have HSL := Lib.hid hsl
  have HL := Lib.hid hl
  have d3 : decide ((i : Int) < (N : Int)) = true := decide_eq_true (by omega)
  clear h hrw hl hsl
  go_enter Tryd.func42, Tryd.ntmps42
  go_wp2_with fail
  refine HH.out.mono ?_
  rintro e w1 ⟨rfl, rfl⟩
  go_wp2_with fail
  go_loopw [6, 29] (fun b i wr => b = .slice (some ⟨s, 0, none⟩) 64 64 ∧ i = .int .i64 0 ∧ wr = w1) (fun _ _ _ => 0)
  case atStart => exact ⟨rfl, rfl, rfl⟩
  case round =>
    obtain ⟨rfl, rfl, rfl⟩ := hrel
    go_wp2_with (first
      | (at_builtin; (refine append_at7 el_u8 rfl _ (.tmp 40) rfl wr.heap.size (.slice none 0 0) 0 [] rfl (World.ownsRow_nil _ _ _ _) rfl HSL.out (by have := HL.out; rw [bys_len]; omega) (bys_one _) (by unfold maxLen; omega) (by omega) (Nat.le_refl _) ?_; intro a3 n3 c3 w3 hown3 hgrow3 hlie3; rw [Nat.zero_add, List.nil_append] at hown3))
      | fail "arm")
    go_ret2
    exact ⟨_, rfl, (fr_grown7 hgrow3).mono (fun k _ e => by cases e), hown3⟩
attribute [local irreducible] nd0 decP decN ndB
set_option maxHeartbeats 4000000 in
set_option maxRecDepth 1000000 in
theorem rdnode_calls {w : World} {db N : Nat} {B : List Int} (h : RfR w db N B) (i : Nat) (hi : i < N) :
    Calls Tryd.prog 41 #[.pointer (some ⟨db, 0, none⟩), .int .i64 (i : Int)] w fun e w' => e = .returned (.agg (nds (ndB B i)).toArray) ∧ Fr No w w' := by
  have hF0 : Fr No w (w.alloc (Obj.cells (nds nd0).toArray 99)) := (Fr.refl No w).alloc _
  have HR := Lib.hid (rdread_calls (h.fr0 hF0) i hi)
  have HB0 := Lib.hid (heap_new w (Obj.cells (nds nd0).toArray 99))
  have hbl : B.length = 64 * N := h.2.1
  have hrg : ∀ x ∈ B, 0 ≤ x ∧ x < 256 := h.2.2.1
  have HD := Lib.hid (fun v w1 hv => rndecode_calls (secB B i) (secB_len (by omega)) (secB_range hrg i) v w1 hv)
  have HDN : RowKit.Hid (decN (secB B i) = ndB B i) := Lib.hid (by unfold ndB; rfl)
  have HNL := Lib.hid (ndB_len B i)
  clear h hF0 hbl hrg
  go_enter Tryd.func41, Tryd.ntmps41
  go_wp2_with (first
    | (refine alloc_nd7 w.heap.size rfl rfl rfl ?_)
    | fail "arm")
  refine HR.out.mono ?_
  rintro e w1 ⟨r, rfl, hF1, hown⟩
  have HS := Lib.hid (Sl.of_owns hown)
  have HF1 := Lib.hid hF1
  clear hown hF1
  go_wp2_with fail
  refine (HD.out _ _ HS.out).mono ?_
  rintro e w3 ⟨rfl, hF3⟩
  rw [HDN.out]
  have hF13 := HF1.out.trans hF3
  have HF3 := Lib.hid (((Fr.refl No w).alloc (Obj.cells (nds nd0).toArray 99)).trans hF13)
  have HB3 := Lib.hid (hF13.heap HB0.out (fun h => h))
  have hlt : w.heap.size < w3.heap.size := heap_lt7 HB3.out
  have HB4 := Lib.hid (heap_new w3 (Obj.cells (nds nd0).toArray 99))
  have HN4 := Lib.hid (heap_nd HB4.out nd0_len)
  clear hF3 hF13
  generalize hle : ndB B i = l at *
  have HE := Lib.hid hle
  clear hle
  go_wp2_with (first
    | (refine alloc_nd7 w3.heap.size rfl rfl rfl ?_)
    | (refine store_nd rfl _ _ rfl w3.heap.size 0 l rfl rfl HNL.out HN4.out.2.2 ?_; intro hF4; have hb4 := heap_setCells7 HB4.out (nds l) (by rw [nds_len, nds_len, nd0_len, HNL.out]); have HN4l := Lib.hid (heap_nd hb4 HNL.out); have HF4 := Lib.hid (((Fr.refl No w3).alloc (Obj.cells (nds nd0).toArray 99)).trans' hF4 (fun i hi (e : i = _) => by omega)); clear hF4 hb4; generalize World.setCells (w3.alloc (Obj.cells (nds nd0).toArray 99)) w3.heap.size 0 (nds l) = W4 at *; have HB5 := Lib.hid (HF4.out.heap HB3.out (fun h => h)); have HN5 := Lib.hid (heap_nd HB5.out nd0_len))
    | (refine load_nd rfl _ rfl w3.heap.size 0 l rfl HN4l.out ?_)
    | (refine store_nd rfl _ _ rfl w.heap.size 0 l rfl rfl HNL.out HN5.out.2.2 ?_; intro hF5)
    | fail "arm")
  have hb5 := heap_setCells7 HB5.out (nds l) (by rw [nds_len, nds_len, nd0_len, HNL.out])
  exact ret_nd Tryd.results41 rfl (heap_nd hb5 HNL.out) rfl ⟨by rw [HE.out], (HF3.out.trans HF4.out).trans' hF5 (fun i hi (e : i = _) => by omega)⟩
end Go.Proofs.YtpcikbloflpahaaDoor
namespace Go.Proofs.YtpcikbloflpahaaDoor
set_option linter.unusedVariables false
set_option linter.unusedSimpArgs false
open Go.RowKit Go.Shelf Go.Maps

/-- A sector that may be reached. -/
def okT (N : Nat) (s : List Int) (n : Int) : Prop := 2 ≤ n ∧ n < (N : Int) ∧ n ∉ s
/-- A tree's block. -/
def TrC (top : Int) (lv pg : List Int) (v : Value) : List Value := .int .i64 top :: (ints7 lv ++ (ints7 pg ++ [v]))
theorem ints7_len (l : List Int) : (ints7 l).length = l.length := by simp [ints7]
theorem trC_v {top : Int} {lv pg : List Int} {v : Value} (h1 : lv.length = 4) (h2 : pg.length = 128) : (TrC top lv pg v).toArray[133]? = some v := by
  unfold TrC
  rw [List.getElem?_toArray, List.getElem?_cons_succ, List.getElem?_append_right (by rw [ints7_len]; omega), List.getElem?_append_right (by simp only [ints7_len]; omega)]
  simp only [ints7_len]
  rw [h1, h2]
  rfl
theorem trC_setv {top : Int} {lv pg : List Int} {v u : Value} (h1 : lv.length = 4) (h2 : pg.length = 128) : (TrC top lv pg v).set 133 u = TrC top lv pg u := by
  unfold TrC
  rw [List.set_cons_succ, List.set_append_right _ _ (by rw [ints7_len]; omega), List.set_append_right _ _ (by simp only [ints7_len]; omega)]
  simp only [ints7_len]
  rw [h1, h2]
  rfl
theorem trC_setl {top : Int} {lv pg : List Int} {v : Value} {i : Nat} {x : Int} (h : i < lv.length) : (TrC top lv pg v).set (1 + i) (.int .i64 x) = TrC top (lv.set i x) pg v := by
  unfold TrC
  rw [Nat.add_comm 1 i, List.set_cons_succ, List.set_append_left _ _ (by rw [ints7_len]; exact h)]
  simp [ints7, List.map_set]
theorem trC_setp {top : Int} {lv pg : List Int} {v : Value} {i : Nat} {x : Int} (h1 : lv.length = 4) (h : i < pg.length) : (TrC top lv pg v).set (5 + i) (.int .i64 x) = TrC top lv (pg.set i x) v := by
  unfold TrC
  rw [show 5 + i = (4 + i) + 1 from by omega, List.set_cons_succ, List.set_append_right _ _ (by rw [ints7_len]; omega), List.set_append_left _ _ (by simp only [ints7_len]; omega)]
  simp only [ints7_len]
  rw [h1, show 4 + i - 4 = i from by omega]
  simp [ints7, List.map_set]
/-- A tree lies at tb; its list of sectors lies from n0 on. -/
def TrAt (w : World) (n0 tb : Nat) (top : Int) (lv pg s : List Int) : Prop := lv.length = 4 ∧ pg.length = 128 ∧ n0 ≤ tb ∧ ∃ v, w.heap[tb]? = some (.cells (TrC top lv pg v).toArray 47 (0, 0)) ∧ w.ownsRow n0 3 1 v s.length (ints7 s)
theorem TrAt.row {w : World} {n0 tb : Nat} {top : Int} {lv pg s : List Int} {v : Value} (h : w.heap[tb]? = some (.cells (TrC top lv pg v).toArray 47 (0, 0))) (ho : w.ownsRow n0 3 1 v s.length (ints7 s)) : v.ownBlock ≠ some tb :=
  fun e => not_row7 h (fun cs f e3 => by injection e3 with _ e3; exact absurd e3 (by decide)) ho _ e rfl
theorem TrAt.fr0 {w w' : World} {n0 tb : Nat} {top : Int} {lv pg s : List Int} (h : TrAt w n0 tb top lv pg s) (hF : Fr No w w') : TrAt w' n0 tb top lv pg s := by
  obtain ⟨h1, h2, h3, v, h4, h5⟩ := h
  exact ⟨h1, h2, h3, v, hF.heap h4 (fun h => h), ownsRow_fr7 h5 hF (fun _ _ h => h)⟩
/-- One cell of a tree is written. -/
theorem TrAt.put {w : World} {n0 tb o : Nat} {top : Int} {lv pg s lv' pg' : List Int} {u : Value} (h : TrAt w n0 tb top lv pg s) (h1 : lv'.length = 4) (h2 : pg'.length = 128) (hs : ∀ v, (TrC top lv pg v).set o u = TrC top lv' pg' v) : TrAt (w.setCell ⟨tb, o, none⟩ u) n0 tb top lv' pg' s ∧ Fr (fun k => n0 ≤ k) w (w.setCell ⟨tb, o, none⟩ u) := by
  obtain ⟨-, -, h3, v, h4, h5⟩ := h
  have hF : Fr (fun k => k = tb) w (w.setCell ⟨tb, o, none⟩ u) := (Fr.refl (fun k => k = tb) w).setCell (p := ⟨tb, o, none⟩) (fun _ => rfl) _
  have hb := heap_setAt7 h4 o u
  rw [hs] at hb
  exact ⟨⟨h1, h2, h3, v, hb, ownsRow_fr7 h5 hF (fun k e (e2 : k = tb) => TrAt.row h4 h5 (e2 ▸ e))⟩, hF.mono (fun k _ (e : k = tb) => e ▸ h3)⟩
set_option maxHeartbeats 4000000 in
set_option maxRecDepth 1000000 in
theorem tadd_calls {w : World} {tb db N n0 : Nat} {B : List Int} {top : Int} {lv pg s : List Int} (n : Int) (hd : RfR w db N B) (h : TrAt w n0 tb top lv pg s) (hs : s.length ≤ 3000) (h0 : n0 ≤ w.heap.size) :
    Calls Tryd.prog 40 #[.pointer (some ⟨tb, 0, none⟩), .pointer (some ⟨db, 0, none⟩), .int .i64 n] w fun e w' => (okT N s n ∧ e = .returned (.bool true) ∧ TrAt w' n0 tb top lv pg (s ++ [n]) ∧ Fr (fun k => n0 ≤ k) w w') ∨ (¬ okT N s n ∧ e = .returned (.bool false) ∧ w' = w) := by
  obtain ⟨pa, pc, c0, -, -⟩ := hd.cells
  obtain ⟨hl4, hp, htb, v, hb, hown⟩ := h
  obtain ⟨av, cv, rfl⟩ := (Sl.of_owns hown).form
  have k0 : w.cell? ⟨tb, 133, none⟩ = some (.slice av s.length cv) := heap_cell hb (trC_v hl4 hp)
  have HB := Lib.hid hb
  have HOW := Lib.hid hown
  have HLP := Lib.hid (And.intro hl4 (And.intro hp htb))
  have HO := Lib.hid (hown.alloc (Obj.cells #[.int .i64 n] 3))
  have HS := Lib.hid (sl_new7 w [.int .i64 n] 3 1 (by simp) (by omega))
  have hH0 := Lib.hid h0
  clear hb hown hl4 hp htb hd
  have hcase : (decide (n < 2) = true ∧ ¬ 2 ≤ n) ∨ (decide (n < 2) = false ∧ decide ((N : Int) ≤ n) = true ∧ ¬ n < (N : Int)) ∨ (decide (n < 2) = false ∧ decide ((N : Int) ≤ n) = false ∧ 2 ≤ n ∧ n < (N : Int)) := by
    by_cases h1 : n < 2
    · exact .inl ⟨decide_eq_true h1, by omega⟩
    · by_cases h2 : (N : Int) ≤ n
      · exact .inr (.inl ⟨decide_eq_false h1, decide_eq_true h2, by omega⟩)
      · exact .inr (.inr ⟨decide_eq_false h1, decide_eq_false h2, by omega, by omega⟩)
  rcases hcase with ⟨d1, hx⟩ | ⟨d1, d2, hx⟩ | ⟨d1, d2, hx⟩
  · have HX := Lib.hid hx
    clear hx
    go_enter Tryd.func40, Tryd.ntmps40
    go_wp2_with fail
    go_ret
    exact .inr ⟨fun e => absurd e.1 (by have := HX.out; omega), rfl, rfl⟩
  · have HX := Lib.hid hx
    clear hx
    go_enter Tryd.func40, Tryd.ntmps40
    go_wp2_with fail
    go_ret
    exact .inr ⟨fun e => absurd e.2.1 (by have := HX.out; omega), rfl, rfl⟩
  · have HX := Lib.hid hx
    clear hx
    go_enter Tryd.func40, Tryd.ntmps40
    go_wp2_with fail
    go_loopw [25] (fun i wr => ∃ j : Nat, j ≤ s.length ∧ i = .int .i64 j ∧ n ∉ s.take j ∧ wr = w) (fun i _ => s.length - (intOf i).toNat)
    case atStart => exact ⟨0, Nat.zero_le _, rfl, by simp, rfl⟩
    case round =>
      obtain ⟨j, hj, rfl, hnot, rfl⟩ := hrel
      by_cases hlt : j < s.length
      · have dj : decide ((j : Int) < (s.length : Int)) = true := decide_eq_true (by omega)
        have hget : (ints7 s)[j]? = some (.int .i64 s[j]) := by simp [ints7, hlt]
        have hsl := Sl.of_owns HOW.out
        obtain ⟨g, o, hag, -, hc⟩ := hsl.at (fun e : ints7 s = [] => by rw [e] at hget; simp at hget)
        have x1 := hc _ _ hget
        subst hag
        have hmem := List.getElem_mem hlt
        have htk : s.take (j + 1) = s.take j ++ [s[j]] := List.take_succ_eq_append_getElem hlt
        have HN := Lib.hid hnot
        generalize s[j] = x at *
        have HM := Lib.hid (And.intro hmem htk)
        clear hsl hc hget hnot hmem htk
        by_cases hxn : x = n
        · subst hxn
          have bx : (x == x) = true := by simp
          go_wp2_with fail
          go_ret
          refine .inr ⟨fun e => e.2.2 HM.out.1, ?_⟩
          simp
        · have bx : (x == n) = false := by simpa using hxn
          have HXN := Lib.hid hxn
          clear hxn
          go_wp2_with fail
          refine ⟨⟨j + 1, by omega, by go_num, ?_, trivial⟩, by simp [intOf]; omega⟩
          rw [HM.out.2]
          intro h
          rcases List.mem_append.1 h with h | h
          · exact HN.out h
          · simp at h
            exact HXN.out h.symm
      · obtain rfl : j = s.length := by omega
        have dj : decide ((s.length : Int) < (s.length : Int)) = false := decide_eq_false (by omega)
        rw [List.take_length] at hnot
        have HN := Lib.hid hnot
        clear hnot
        go_wp2_with (first
          | (at_builtin; (refine append_at7 (m := 1) el_int7 rfl _ _ rfl n0 (.slice av s.length cv) s.length (ints7 s) rfl HO.out rfl HS.out rfl (fun u hu => by simp at hu; rcases hu with rfl; rfl) (by unfold maxLen; omega) (by omega) (by have := hH0.out; simp; omega) ?_; intro a3 n3 c3 w3 hown3 hgrow3 hlie3; have hg3 := fr_grown7 hgrow3; have hb3 := hg3.heap (heap_alloc (Obj.cells #[.int .i64 n] 3) HB.out) (fun e => not_row7 (heap_alloc (Obj.cells #[.int .i64 n] 3) HB.out) (fun cs f e3 => by injection e3 with _ e3; exact absurd e3 (by decide)) HO.out _ e rfl); have HB3 := Lib.hid hb3; have HO3 := Lib.hid hown3; have HG3 := Lib.hid hg3; have k3 := heap_cell hb3 (trC_v HLP.out.1 HLP.out.2.1); have f3 := heap_frozen (o := 133) hb3; clear hown3 hgrow3 hlie3 hg3 hb3))
          | fail "arm")
        go_ret
        have hsc : Fr (fun k => k = tb) w3 (w3.setCell ⟨tb, 133, none⟩ (.slice a3 n3 c3)) := (Fr.refl (fun k => k = tb) w3).setCell (p := ⟨tb, 133, none⟩) (fun _ => rfl) _
        have hno := not_row7 HB3.out (fun cs f e3 => by injection e3 with _ e3; exact absurd e3 (by decide)) HO3.out
        have hbt := heap_setAt7 HB3.out 133 (.slice a3 n3 c3)
        rw [trC_setv HLP.out.1 HLP.out.2.1] at hbt
        refine .inl ⟨⟨HX.out.1, HX.out.2, HN.out⟩, rfl, ⟨HLP.out.1, HLP.out.2.1, HLP.out.2.2, _, hbt, ?_⟩, ?_⟩
        · have := ownsRow_fr7 HO3.out hsc (fun k e e2 => hno k e e2)
          rw [List.length_append, show ints7 (s ++ [n]) = ints7 s ++ [.int .i64 n] from by simp [ints7]]
          exact this
        · exact (((Fr.refl No wr).alloc (Obj.cells #[.int .i64 n] 3)).no.trans (HG3.out.mono (fun k _ e => (HOW.out.lt k e).1))).trans (hsc.mono (fun k _ (e : k = tb) => e ▸ HLP.out.2.2))
end Go.Proofs.YtpcikbloflpahaaDoor
