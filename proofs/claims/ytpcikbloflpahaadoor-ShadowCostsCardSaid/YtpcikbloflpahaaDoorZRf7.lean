/-
  Chapter 7: the reference's Blank; what Count comes to, and its blocks.
-/
import Derived.Test.YtpcikbloflpahaaDoorZRf6
import Derived.Test.YtpcikbloflpahaaDoorZGp5
namespace Go.Proofs.YtpcikbloflpahaaDoor
set_option linter.unusedVariables false
set_option linter.unusedSimpArgs false
open Go.RowKit Go.Shelf Go.Maps

set_option maxHeartbeats 1000000 in
set_option maxRecDepth 1000000 in
theorem rblank_yes (v : Value) (l : List Int) (w : World) (hlen : l.length ≤ 140737488355328) (hz : ∀ b ∈ l, b = 0) (hv : Sl w v l.length (bys l)) :
    Calls Tryd.prog 62 #[v] w fun e w' => e = .returned (.bool true) ∧ w = w' := by
  obtain ⟨av, cv, rfl⟩ := hv.form
  have HV := Lib.hid hv
  have HZ := Lib.hid hz
  clear hv hz
  go_enter Tryd.func62, Tryd.ntmps62
  go_wp2_with fail
  go_loopw [7] (fun i wr => ∃ (j : Nat), j ≤ l.length ∧ i = .int .i64 j ∧ w = wr) (fun i _ => l.length - (intOf i).toNat)
  case atStart => exact ⟨0, Nat.zero_le _, rfl, rfl⟩
  case round =>
    obtain ⟨j, hj, rfl, rfl⟩ := hrel
    by_cases hlt : j < l.length
    · obtain ⟨b, off, rfl, hb, hc⟩ := HV.out.at (bys_ne l 0 (by omega))
      have hx : l[j] = 0 := HZ.out _ (List.getElem_mem hlt)
      have hcj := hc _ _ (bys_get l j hlt)
      rw [hx] at hcj
      have dj : decide ((j : Int) < (l.length : Int)) = true := decide_eq_true (by omega)
      clear hc hx
      go_wp2
      exact ⟨⟨j + 1, by omega, by go_num, by first | rfl | trivial⟩, by simp [intOf]; omega⟩
    · obtain rfl : j = l.length := by omega
      go_wp2
      go_ret
      exact ⟨rfl, rfl⟩
set_option maxHeartbeats 1000000 in
set_option maxRecDepth 1000000 in
theorem rblank_no (v : Value) (l : List Int) (w : World) (hlen : l.length ≤ 140737488355328) (hne : ∃ b ∈ l, b ≠ 0) (hv : Sl w v l.length (bys l)) :
    Calls Tryd.prog 62 #[v] w fun e w' => e = .returned (.bool false) ∧ w = w' := by
  obtain ⟨av, cv, rfl⟩ := hv.form
  have HV := Lib.hid hv
  have HNE := Lib.hid hne
  clear hv hne
  go_enter Tryd.func62, Tryd.ntmps62
  go_wp2_with fail
  go_loopw [7] (fun i wr => ∃ (j : Nat), j ≤ l.length ∧ i = .int .i64 j ∧ (∀ k (h : k < l.length), k < j → l[k] = 0) ∧ w = wr) (fun i _ => l.length - (intOf i).toNat)
  case atStart => exact ⟨0, Nat.zero_le _, rfl, fun k h h2 => absurd h2 (Nat.not_lt_zero k), rfl⟩
  case round =>
    obtain ⟨j, hj, rfl, hz, rfl⟩ := hrel
    have HZ := Lib.hid hz
    clear hz
    by_cases hlt : j < l.length
    · have hg := bys_get l j hlt
      obtain ⟨b, off, rfl, -, hc⟩ := HV.out.at (bys_ne _ _ hlt)
      have c0 := hc _ _ hg
      obtain ⟨x, hx⟩ : ∃ x, l[j] = x := ⟨_, rfl⟩
      rw [hx] at c0
      have HX := Lib.hid hx
      clear hc hg hx
      by_cases h0 : x = 0
      · have q1 : (x != 0) = false := by simp [h0]
        have H0 := Lib.hid h0
        clear h0
        go_wp2
        go_roundw
        case rel =>
          refine ⟨j + 1, by omega, by go_num, fun k h h2 => ?_, by first | rfl | trivial⟩
          by_cases e : k = j
          · subst e; exact HX.out.trans H0.out
          · exact HZ.out k h (by omega)
        case measure => simp [intOf]; omega
      · have q1 : (x != 0) = true := by simp [h0]
        clear h0
        go_wp2
        go_ret
        exact ⟨rfl, rfl⟩
    · obtain ⟨b, hb, h⟩ := HNE.out
      obtain ⟨k, hk, rfl⟩ := List.getElem_of_mem hb
      exact absurd (HZ.out k hk (by omega)) h
theorem rblank_calls (v : Value) (l : List Int) (w : World) (hlen : l.length ≤ 140737488355328) (hv : Sl w v l.length (bys l)) :
    Calls Tryd.prog 62 #[v] w fun e w' => e = .returned (.bool (blankB l)) ∧ w = w' := by
  by_cases h : ∀ b ∈ l, b = 0
  · have : blankB l = true := by simpa [blankB] using h
    rw [this]; exact rblank_yes v l w hlen h hv
  · have : blankB l = false := by simpa [blankB] using h
    rw [this]; exact rblank_no v l w hlen (by simpa using h) hv

/-- Rows of truths. -/
def bls (l : List Bool) : List Value := l.map Value.bool
theorem bls_len (l : List Bool) : (bls l).length = l.length := by simp [bls]
theorem bls_set (l : List Bool) (i : Nat) (b : Bool) : (bls l).set i (.bool b) = bls (l.set i b) := by simp [bls, List.map_set]
theorem bls_get (l : List Bool) (i : Nat) (h : i < l.length) : (bls l)[i]? = some (.bool (l.getD i false)) := by simp [bls, h]
def hasF (has : List Bool) (cs : List Chg) : List Bool := cs.foldl (fun h c => h.set c.1.toNat (!blankB c.2)) has
def touF (cs : List Chg) : List Bool := cs.foldl (fun t c => t.set (c.1 / 32).toNat true) (List.replicate 4 false)
theorem hasF_snoc (has : List Bool) (cs : List Chg) (c : Chg) : hasF has (cs ++ [c]) = (hasF has cs).set c.1.toNat (!blankB c.2) := by simp [hasF]
theorem touF_snoc (cs : List Chg) (c : Chg) : touF (cs ++ [c]) = (touF cs).set (c.1 / 32).toNat true := by simp [touF]
theorem hasF_len (has : List Bool) (cs : List Chg) : (hasF has cs).length = has.length := by
  unfold hasF
  induction cs generalizing has with
  | nil => rfl
  | cons c cs ih => rw [List.foldl_cons, ih, List.length_set]
theorem touF_len (cs : List Chg) : (touF cs).length = 4 := by
  unfold touF
  suffices ∀ t : List Bool, (cs.foldl (fun t (c : Chg) => t.set (c.1 / 32).toNat true) t).length = t.length by rw [this]; rfl
  induction cs with
  | nil => exact fun t => rfl
  | cons c cs ih => exact fun t => by rw [List.foldl_cons, ih, List.length_set]
def anyH (has : List Bool) (i k : Nat) : Bool := (List.range k).any fun q => has.getD (32 * i + q) false
theorem anyH_zero (has : List Bool) (i : Nat) : anyH has i 0 = false := rfl
theorem anyH_succ (has : List Bool) (i k : Nat) : anyH has i (k + 1) = (anyH has i k || has.getD (32 * i + k) false) := by
  unfold anyH
  rw [List.range_succ, List.any_append]
  simp
def svL (has lv T : List Bool) (i : Nat) : Bool := if T.getD i false = true then anyH has i 32 else lv.getD i false
def lvN (has lv T : List Bool) (i : Nat) : List Bool := (List.range 4).map fun q => if q < i then svL has lv T q else lv.getD q false
def cN (has T : List Bool) : Nat → Nat
  | 0 => 0
  | i + 1 => cN has T i + if T.getD i false = true ∧ anyH has i 32 = true then 1 else 0
def sN (has lv T : List Bool) : Nat → Bool
  | 0 => false
  | i + 1 => sN has lv T i || svL has lv T i
/-- What Count says. -/
def countR (has lv : List Bool) (cs : List Chg) : Nat := (fullC cs).length + cN (hasF has cs) (touF cs) 4 + if cs ≠ [] ∧ sN (hasF has cs) lv (touF cs) 4 = true then 1 else 0
theorem cN_le (has T : List Bool) (i : Nat) : cN has T i ≤ i := by
  induction i with
  | zero => exact Nat.le_refl _
  | succ i ih => unfold cN; split <;> omega
theorem lvN_len (has lv T : List Bool) (i : Nat) : (lvN has lv T i).length = 4 := by simp [lvN]
theorem lvN_zero {has lv T : List Bool} (h : lv.length = 4) : lvN has lv T 0 = lv := by
  apply List.ext_getElem (by rw [lvN_len, h])
  intro i h1 h2
  simp [lvN, h2]
theorem lvN_set (has lv T : List Bool) (i : Nat) (hi : i < 4) (b : Bool) (hb : b = svL has lv T i) : (lvN has lv T i).set i b = lvN has lv T (i + 1) := by
  subst hb
  apply List.ext_getElem (by simp [lvN])
  intro k h1 h2
  rw [List.getElem_set]
  simp only [lvN, List.getElem_map, List.getElem_range]
  split
  · rename_i e; subst e; rw [if_pos (by omega)]
  · rename_i e
    by_cases q : k < i
    · rw [if_pos q, if_pos (by omega)]
    · rw [if_neg q, if_neg (by omega)]
theorem lvN_skip (has lv T : List Bool) (i : Nat) (hi : i < 4) (h : T.getD i false = false) : lvN has lv T i = lvN has lv T (i + 1) := by
  rw [← lvN_set has lv T i hi (lv.getD i false) (by simp only [svL, h]; simp)]
  have h0 : (lvN has lv T i)[i]'(by rw [lvN_len]; exact hi) = lv.getD i false := by simp [lvN]
  rw [← h0, List.set_getElem_self]
theorem lvN_at (has lv T : List Bool) (i : Nat) (hi : i < 4) : (lvN has lv T (i + 1)).getD i false = svL has lv T i := by
  rw [List.getD_eq_getElem?_getD, List.getElem?_eq_getElem (by rw [lvN_len]; exact hi)]
  simp only [lvN, List.getElem_map, List.getElem_range, Option.getD_some]
  rw [if_pos (by omega)]

/-- Count's blocks. -/
def CbI (w : World) (H L T : List Bool) (wr : World) : Prop := H.length = 128 ∧ L.length = 4 ∧ T.length = 4 ∧ wr.heap[w.heap.size]? = some (.cells (bls H).toArray 93 (0, 0)) ∧ wr.heap[w.heap.size + 1]? = some (.cells (bls L).toArray 94 (0, 0)) ∧ wr.heap[w.heap.size + 1 + 1]? = some (.cells (bls T).toArray 94 (0, 0)) ∧ Fr No w wr
theorem CbI.fr0 {w wr wr' : World} {H L T : List Bool} (h : CbI w H L T wr) (hF : Fr No wr wr') : CbI w H L T wr' := ⟨h.1, h.2.1, h.2.2.1, hF.heap h.2.2.2.1 (fun h => h), hF.heap h.2.2.2.2.1 (fun h => h), hF.heap h.2.2.2.2.2.1 (fun h => h), h.2.2.2.2.2.2.trans hF⟩
theorem ct_put {w wr : World} (b o : Nat) (v : Value) (hF : Fr No w wr) (hb : w.heap.size ≤ b) : Fr (fun k => k = b) wr (wr.setCell ⟨b, o, none⟩ v) ∧ Fr No w (wr.setCell ⟨b, o, none⟩ v) := by
  have h : Fr (fun k => k = b) wr (wr.setCell ⟨b, o, none⟩ v) := (Fr.refl (fun k => k = b) wr).setCell (p := ⟨b, o, none⟩) (fun _ => rfl) _
  exact ⟨h, hF.trans' h (fun i hi (e : i = b) => by omega)⟩
theorem CbI.setH {w wr : World} {H L T : List Bool} (h : CbI w H L T wr) (i : Nat) (b : Bool) : CbI w (H.set i b) L T (wr.setCell ⟨w.heap.size, i, none⟩ (.bool b)) := by
  obtain ⟨h1, h2, h3, h4, h5, h6, h7⟩ := h
  obtain ⟨p1, p2⟩ := ct_put w.heap.size i (.bool b) h7 (by omega)
  exact ⟨by rw [List.length_set]; exact h1, h2, h3, by rw [← bls_set]; exact heap_setAt7 h4 _ _, p1.heap h5 (fun (e : w.heap.size + 1 = w.heap.size) => by omega), p1.heap h6 (fun (e : w.heap.size + 1 + 1 = w.heap.size) => by omega), p2⟩
theorem CbI.setL {w wr : World} {H L T : List Bool} (h : CbI w H L T wr) (i : Nat) (b : Bool) : CbI w H (L.set i b) T (wr.setCell ⟨w.heap.size + 1, i, none⟩ (.bool b)) := by
  obtain ⟨h1, h2, h3, h4, h5, h6, h7⟩ := h
  obtain ⟨p1, p2⟩ := ct_put (w.heap.size + 1) i (.bool b) h7 (by omega)
  exact ⟨h1, by rw [List.length_set]; exact h2, h3, p1.heap h4 (fun (e : w.heap.size = w.heap.size + 1) => by omega), by rw [← bls_set]; exact heap_setAt7 h5 _ _, p1.heap h6 (fun (e : w.heap.size + 1 + 1 = w.heap.size + 1) => by omega), p2⟩
theorem CbI.setT {w wr : World} {H L T : List Bool} (h : CbI w H L T wr) (i : Nat) (b : Bool) : CbI w H L (T.set i b) (wr.setCell ⟨w.heap.size + 1 + 1, i, none⟩ (.bool b)) := by
  obtain ⟨h1, h2, h3, h4, h5, h6, h7⟩ := h
  obtain ⟨p1, p2⟩ := ct_put (w.heap.size + 1 + 1) i (.bool b) h7 (by omega)
  exact ⟨h1, h2, by rw [List.length_set]; exact h3, p1.heap h4 (fun (e : w.heap.size = w.heap.size + 1 + 1) => by omega), p1.heap h5 (fun (e : w.heap.size + 1 = w.heap.size + 1 + 1) => by omega), by rw [← bls_set]; exact heap_setAt7 h6 _ _, p2⟩
theorem CbI.cH {w wr : World} {H L T : List Bool} (h : CbI w H L T wr) (i : Nat) (hi : i < 128) : wr.cell? ⟨w.heap.size, i, none⟩ = some (.bool (H.getD i false)) ∧ wr.frozen? ⟨w.heap.size, i, none⟩ = false :=
  ⟨heap_cell h.2.2.2.1 (by rw [List.getElem?_toArray]; exact bls_get _ _ (by rw [h.1]; exact hi)), heap_frozen h.2.2.2.1⟩
theorem CbI.cL {w wr : World} {H L T : List Bool} (h : CbI w H L T wr) (i : Nat) (hi : i < 4) : wr.cell? ⟨w.heap.size + 1, i, none⟩ = some (.bool (L.getD i false)) ∧ wr.frozen? ⟨w.heap.size + 1, i, none⟩ = false :=
  ⟨heap_cell h.2.2.2.2.1 (by rw [List.getElem?_toArray]; exact bls_get _ _ (by rw [h.2.1]; exact hi)), heap_frozen h.2.2.2.2.1⟩
theorem CbI.cT {w wr : World} {H L T : List Bool} (h : CbI w H L T wr) (i : Nat) (hi : i < 4) : wr.cell? ⟨w.heap.size + 1 + 1, i, none⟩ = some (.bool (T.getD i false)) ∧ wr.frozen? ⟨w.heap.size + 1 + 1, i, none⟩ = false :=
  ⟨heap_cell h.2.2.2.2.2.1 (by rw [List.getElem?_toArray]; exact bls_get _ _ (by rw [h.2.2.1]; exact hi)), heap_frozen h.2.2.2.2.2.1⟩
end Go.Proofs.YtpcikbloflpahaaDoor
