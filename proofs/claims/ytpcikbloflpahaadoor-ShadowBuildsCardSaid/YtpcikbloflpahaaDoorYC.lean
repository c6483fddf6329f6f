/-
  Numbers of bytes: how large they are.
-/
import Derived.Test.YtpcikbloflpahaaDoorZSh14
import Derived.Test.YtpcikbloflpahaaDoorYO
namespace Go.Proofs.YtpcikbloflpahaaDoor
set_option linter.unusedVariables false
set_option linter.unusedSimpArgs false
open Go.RowKit Go.Shelf

theorem wraps_u647 (n : Int) (h₀ : 0 ≤ n) (h₁ : n < 2 ^ 64) : IntKind.u64.wrap n = n := by rw [IntKind.wrap_u64]; omega
theorem or_u647 (a b : Nat) (ha : a < 2 ^ 64) (hb : b < 2 ^ 64) : bits .or .u64 a b = ((a ||| b : Nat) : Int) :=
  (bits_nat .u64 64 (by decide) wraps_u647 a b ha hb).2
theorem getD_range7 (l : List Int) (h0 : ∀ b ∈ l, 0 ≤ b ∧ b < 256) (i : Nat) : 0 ≤ l.getD i 0 ∧ l.getD i 0 < 256 := by
  by_cases h : i < l.length
  · rw [List.getD_eq_getElem?_getD, List.getElem?_eq_getElem h, Option.getD_some]; exact h0 _ (List.getElem_mem h)
  · rw [List.getD_eq_getElem?_getD, List.getElem?_eq_none (by omega), Option.getD_none]; omega
/-- The number of k bytes, as a sum. -/
def sumL7 (l : List Int) (at_ : Nat) : Nat → Nat
  | 0 => 0
  | k + 1 => sumL7 l at_ k + (l.getD (at_ + k) 0).toNat * 2 ^ (8 * k)
theorem sumL_lt7 (l : List Int) (h0 : ∀ b ∈ l, 0 ≤ b ∧ b < 256) (at_ k : Nat) : sumL7 l at_ k < 2 ^ (8 * k) := by
  induction k with
  | zero => simp [sumL7]
  | succ k ih =>
    have h := getD_range7 l h0 (at_ + k)
    have h2 : (l.getD (at_ + k) 0).toNat ≤ 255 := by omega
    have h3 : (l.getD (at_ + k) 0).toNat * 2 ^ (8 * k) ≤ 255 * 2 ^ (8 * k) := Nat.mul_le_mul_right _ h2
    have h4 : 2 ^ (8 * (k + 1)) = 256 * 2 ^ (8 * k) := by rw [Nat.mul_add, Nat.pow_add]; omega
    rw [sumL7, h4]; omega
theorem numL_sum7 (l : List Int) (h0 : ∀ b ∈ l, 0 ≤ b ∧ b < 256) (at_ k : Nat) (hk : k ≤ 8) : numL l at_ k = (sumL7 l at_ k : Int) := by
  induction k with
  | zero => rfl
  | succ k ih =>
    have h := getD_range7 l h0 (at_ + k)
    have h1 := sumL_lt7 l h0 at_ k
    have h5 := sumL_lt7 l h0 at_ (k + 1)
    rw [sumL7] at h5
    have h6 : 2 ^ (8 * (k + 1)) ≤ 2 ^ 64 := Nat.pow_le_pow_right (by decide) (by omega)
    have h7 : 2 ^ (8 * k) ≤ 2 ^ 64 := Nat.pow_le_pow_right (by decide) (by omega)
    rw [numL, ih (by omega), sumL7]
    obtain ⟨x, hx⟩ : ∃ x : Nat, l.getD (at_ + k) 0 = x := ⟨(l.getD (at_ + k) 0).toNat, by omega⟩
    rw [hx] at h5 ⊢
    rw [Int.toNat_natCast] at h5 ⊢
    have e : ((x : Int) * 2 ^ (8 * k)) = ((x * 2 ^ (8 * k) : Nat) : Int) := by simp
    rw [e, wraps_u647 _ (by omega) (by exact_mod_cast (by omega : x * 2 ^ (8 * k) < 2 ^ 64)), or_u647 _ _ (by omega) (by omega)]
    have := Nat.shiftLeft_add_eq_or_of_lt h1 x
    rw [Nat.shiftLeft_eq] at this
    rw [Nat.or_comm, ← this, Nat.add_comm]
theorem numL2_range (l : List Int) (h0 : ∀ b ∈ l, 0 ≤ b ∧ b < 256) (at_ : Nat) : 0 ≤ numL l at_ 2 ∧ numL l at_ 2 ≤ 65535 := by
  have h1 := numL_sum7 l h0 at_ 2 (by omega)
  have h2 := sumL_lt7 l h0 at_ 2
  omega
/-- The first entries of a node's bytes. -/
def decP (l : List Int) (i : Nat) : List Int := (List.range 32).map fun k => if k < i then numL l (2 * k) 2 else 0
/-- A node's bytes as its entries. -/
def decN (l : List Int) : List Int := decP l 32
theorem decP_len (l : List Int) (i : Nat) : (decP l i).length = 32 := by simp [decP]
theorem decN_len (l : List Int) : (decN l).length = 32 := decP_len l 32
theorem decP_zero (l : List Int) : decP l 0 = nd0 := by
  apply List.ext_getElem
  · rw [decP_len, nd0_len]
  · intro k h1 h2
    simp only [decP, List.getElem_map, List.getElem_range]
    rw [if_neg (by omega)]
    simp only [nd0, List.getElem_replicate]
theorem decP_step (l : List Int) (i : Nat) (hi : i < 32) : (decP l i).set i (numL l (2 * i) 2) = decP l (i + 1) := by
  apply List.ext_getElem
  · simp [decP]
  · intro k h1 h2
    rw [List.getElem_set]
    simp only [decP, List.getElem_map, List.getElem_range]
    split
    · next e => subst e; rw [if_pos (by omega)]
    · next e =>
      split
      · rw [if_pos (by omega)]
      · rw [if_neg (by omega)]
theorem decN_range (l : List Int) (h0 : ∀ b ∈ l, 0 ≤ b ∧ b < 256) : ∀ x ∈ decN l, 0 ≤ x ∧ x ≤ 65535 := by
  intro x hx
  simp only [decN, decP, List.mem_map, List.mem_range] at hx
  obtain ⟨k, hk, rfl⟩ := hx
  rw [if_pos hk]
  exact numL2_range l h0 _
end Go.Proofs.YtpcikbloflpahaaDoor
namespace Go.Proofs.YtpcikbloflpahaaDoor
set_option linter.unusedVariables false
set_option linter.unusedSimpArgs false
open Go.RowKit Go.Shelf Go.Maps

theorem nds_set7 (l : List Int) (i : Nat) (x : Int) : (nds l).set i (.int .i64 x) = nds (l.set i x) := by simp [nds, List.map_set]
attribute [local irreducible] nd0 decP
set_option maxHeartbeats 4000000 in
set_option maxRecDepth 1000000 in
theorem ndecode_calls (l : List Int) (hl : l.length = 64) (hr : ∀ b ∈ l, 0 ≤ b ∧ b < 256) (v : Value) (w : World) (hv : Sl w v 64 (bys l)) :
    Calls Tryd.prog 74 #[v] w fun e w' => e = .returned (.tuple #[.agg (nds (decN l)).toArray, .int .i64 0]) ∧ Fr No w w' := by
  obtain ⟨a, cap, rfl⟩ := hv.form
  have HS := Lib.hid hv
  have HB0 := Lib.hid (heap_new w (Obj.cells (nds nd0).toArray 99))
  have HB1 := Lib.hid (heap_new2_7 w (Obj.cells (nds nd0).toArray 99) (Obj.cells (nds nd0).toArray 99))
  have HN1 := Lib.hid (heap_nd HB1.out nd0_len)
  have HRG := Lib.hid (fun i => numL2_range l hr (2 * i))
  have HNM := Lib.hid (fun (w1 : World) (hF : Fr No w w1) (i : Nat) (hi : i < 32) => (num_calls (.slice a 64 cap) l (2 * i) 2 w1 (by omega) (by omega) (by omega) hr (by omega) (by rw [hl]; exact hv.fr0 hF)))
  clear hv hr hl
  go_enter Tryd.func74, Tryd.ntmps74
  go_wp2_with (first
    | (refine alloc_nd7 w.heap.size rfl rfl rfl ?_)
    | (refine alloc_nd7 (w.heap.size + 1) (by simp) rfl rfl ?_)
    | (refine build_nd rfl rfl ?_)
    | (refine store_nd rfl _ _ rfl (w.heap.size + 1) 0 nd0 rfl rfl nd0_len HN1.out.2.2 ?_; intro hF3)
    | fail "arm")
  have hF03 := (((Fr.refl No w).alloc (Obj.cells (nds nd0).toArray 99)).alloc (Obj.cells (nds nd0).toArray 99)).trans' hF3 (fun i hi (e : i = _) => by omega)
  have hb3 := heap_setCells7 HB1.out (nds nd0) rfl
  have hb2 := hF3.heap (heap_alloc (Obj.cells (nds nd0).toArray 99) HB0.out) (fun (e : w.heap.size = w.heap.size + 1) => by omega)
  have hs3 : w.heap.size + 1 < (World.setCells ((w.alloc (Obj.cells (nds nd0).toArray 99)).alloc (Obj.cells (nds nd0).toArray 99)) (w.heap.size + 1) 0 (nds nd0)).heap.size := heap_lt7 hb3
  generalize World.setCells ((w.alloc (Obj.cells (nds nd0).toArray 99)).alloc (Obj.cells (nds nd0).toArray 99)) (w.heap.size + 1) 0 (nds nd0) = W3 at *
  have HF3 := Lib.hid hF03
  have HB2 := Lib.hid hb2
  rw [← decP_zero l] at hb3
  clear hF3 hF03 hb2
  go_loopw [11] (fun i wr => ∃ j : Nat, j ≤ 32 ∧ i = .int .i64 j ∧ wr.heap[w.heap.size + 1]? = some (.cells (nds (decP l j)).toArray 99 (0, 0)) ∧ Fr (fun k => k = w.heap.size + 1) W3 wr) (fun i _ => 32 - (intOf i).toNat)
  case atStart => exact ⟨0, by omega, rfl, hb3, Fr.refl _ _⟩
  case round =>
    obtain ⟨j, hj, rfl, hb, hF⟩ := hrel
    by_cases hlt : j < 32
    · have hwr : IntKind.i64.wrap (2 * (j : Int)) = ((2 * j : Nat) : Int) := by rw [IntWalk.i64_in _ (by omega)]; omega
      have HF0 := Lib.hid (HF3.out.trans' hF (fun i hi (e : i = _) => by omega))
      have HB := Lib.hid hb
      have HF := Lib.hid hF
      have hx := HRG.out j
      have HX : RowKit.Hid (Calls Tryd.prog 87 #[.slice a 64 cap, .int .i64 (2 * (j : Int)), .int .i64 2] wr fun e w' => e = .returned (.int .u64 (numL l (2 * j) 2)) ∧ Fr No wr w') := Lib.hid (by have h := HNM.out wr HF0.out j hlt; rw [show ((2 * j : Nat) : Int) = 2 * (j : Int) from by omega] at h; exact h)
      have hst := decP_step l j hlt
      have hgt : (nds (decP l j))[j]? = some (.int .i64 ((decP l j)[j]'(by rw [decP_len]; exact hlt))) := by simpa using nds_get (decP l j) j (by rw [decP_len]; exact hlt)
      clear hb hF hb3
      revert hx HX hst
      generalize hnx : numL l (2 * j) 2 = x
      intro hx HX hst
      have HNX := Lib.hid hnx
      have hcv := IntWalk.i64_in x (by omega)
      have HST := Lib.hid hst
      have HGT := Lib.hid hgt
      clear hnx hst hgt
      go_wp2_with fail
      refine HX.out.mono ?_
      rintro e w1 ⟨rfl, hF1⟩
      have hb1 := hF1.heap HB.out (fun h => h)
      have HB1 := Lib.hid hb1
      have kf := heap_frozen (o := j) hb1
      have kc := heap_cell (o := j) hb1 (by rw [List.getElem?_toArray]; exact HGT.out)
      have HF1 := Lib.hid (HF.out.trans hF1.no)
      clear hF1 hb1
      go_wp2_with fail
      have hb2 := heap_setAt7 HB1.out j (.int .i64 x)
      rw [nds_set7, HST.out] at hb2
      exact ⟨⟨j + 1, by omega, by go_num, hb2, HF1.out.trans ((Fr.refl (fun k => k = w.heap.size + 1) w1).setCell (p := ⟨w.heap.size + 1, j, none⟩) (fun _ => rfl) _)⟩, by simp [intOf]; omega⟩
    · obtain rfl : j = 32 := by omega
      have HN2 := Lib.hid (heap_nd hb (decN_len l))
      have HB2w := Lib.hid (hF.heap HB2.out (fun (e : w.heap.size = _) => by omega))
      have HN0 := Lib.hid (heap_nd HB2w.out nd0_len)
      have HF := Lib.hid (HF3.out.trans' hF (fun i hi (e : i = _) => by omega))
      clear hb hF hb3
      go_wp2_with (first
        | (refine load_nd rfl _ rfl (w.heap.size + 1) 0 (decP l 32) rfl HN2.out ?_)
        | (refine store_nd rfl _ _ rfl w.heap.size 0 (decP l 32) rfl rfl (decP_len l 32) HN0.out.2.2 ?_; intro hF4)
        | fail "arm")
      have hb4 := heap_setCells7 HB2w.out (nds (decP l 32)) (by rw [nds_len, nds_len, nd0_len, decP_len])
      refine ret_nd_tmp Tryd.results74 rfl rfl (heap_nd hb4 (decP_len l 32)) rfl ⟨rfl, HF.out.trans' hF4 (fun i hi (e : i = _) => by omega)⟩
end Go.Proofs.YtpcikbloflpahaaDoor
namespace Go.Proofs.YtpcikbloflpahaaDoor
set_option linter.unusedVariables false
set_option linter.unusedSimpArgs false
open Go.RowKit Go.Shelf Go.Maps

attribute [local irreducible] nd0 decP
set_option maxHeartbeats 4000000 in
set_option maxRecDepth 1000000 in
theorem rndecode_calls (l : List Int) (hl : l.length = 64) (hr : ∀ b ∈ l, 0 ≤ b ∧ b < 256) (v : Value) (w : World) (hv : Sl w v 64 (bys l)) :
    Calls Tryd.prog 63 #[v] w fun e w' => e = .returned (.tuple #[.agg (nds (decN l)).toArray, .int .i64 0]) ∧ Fr No w w' := by
  obtain ⟨a, cap, rfl⟩ := hv.form
  have HS := Lib.hid hv
  have HB0 := Lib.hid (heap_new w (Obj.cells (nds nd0).toArray 99))
  have HB1 := Lib.hid (heap_new2_7 w (Obj.cells (nds nd0).toArray 99) (Obj.cells (nds nd0).toArray 99))
  have HN1 := Lib.hid (heap_nd HB1.out nd0_len)
  have HRG := Lib.hid (fun i => numL2_range l hr (2 * i))
  have HNM := Lib.hid (fun (w1 : World) (hF : Fr No w w1) (i : Nat) (hi : i < 32) => ((rnum_calls (.slice a 64 cap) l (2 * i) 2 w1 (by omega) (by omega) (by omega) hr (by rw [hl]; exact hv.fr0 hF)).mono (fun e w' h => (⟨h.1, h.2 ▸ Fr.refl No w1⟩ : e = .returned (.int .u64 (numL l (2 * i) 2)) ∧ Fr No w1 w'))))
  clear hv hr hl
  go_enter Tryd.func63, Tryd.ntmps63
  go_wp2_with (first
    | (refine alloc_nd7 w.heap.size rfl rfl rfl ?_)
    | (refine alloc_nd7 (w.heap.size + 1) (by simp) rfl rfl ?_)
    | fail "arm")
  have hF03 := ((Fr.refl No w).alloc (Obj.cells (nds nd0).toArray 99)).alloc (Obj.cells (nds nd0).toArray 99)
  have hb3 := HB1.out
  have hb2 := heap_alloc (Obj.cells (nds nd0).toArray 99) HB0.out
  have hs3 := heap_lt7 hb3
  generalize (w.alloc (Obj.cells (nds nd0).toArray 99)).alloc (Obj.cells (nds nd0).toArray 99) = W3 at *
  have HF3 := Lib.hid hF03
  have HB2 := Lib.hid hb2
  rw [← decP_zero l] at hb3
  clear hF03 hb2
  go_loopw [5] (fun i wr => ∃ j : Nat, j ≤ 32 ∧ i = .int .i64 j ∧ wr.heap[w.heap.size + 1]? = some (.cells (nds (decP l j)).toArray 99 (0, 0)) ∧ Fr (fun k => k = w.heap.size + 1) W3 wr) (fun i _ => 32 - (intOf i).toNat)
  case atStart => exact ⟨0, by omega, rfl, hb3, Fr.refl _ _⟩
  case round =>
    obtain ⟨j, hj, rfl, hb, hF⟩ := hrel
    by_cases hlt : j < 32
    · have hwr : IntKind.i64.wrap (2 * (j : Int)) = ((2 * j : Nat) : Int) := by rw [IntWalk.i64_in _ (by omega)]; omega
      have HF0 := Lib.hid (HF3.out.trans' hF (fun i hi (e : i = _) => by omega))
      have HB := Lib.hid hb
      have HF := Lib.hid hF
      have hx := HRG.out j
      have HX : RowKit.Hid (Calls Tryd.prog 76 #[.slice a 64 cap, .int .i64 (2 * (j : Int)), .int .i64 2] wr fun e w' => e = .returned (.int .u64 (numL l (2 * j) 2)) ∧ Fr No wr w') := Lib.hid (by have h := HNM.out wr HF0.out j hlt; rw [show ((2 * j : Nat) : Int) = 2 * (j : Int) from by omega] at h; exact h)
      have hst := decP_step l j hlt
      have hgt : (nds (decP l j))[j]? = some (.int .i64 ((decP l j)[j]'(by rw [decP_len]; exact hlt))) := by simpa using nds_get (decP l j) j (by rw [decP_len]; exact hlt)
      clear hb hF hb3
      revert hx HX hst
      generalize hnx : numL l (2 * j) 2 = x
      intro hx HX hst
      have HNX := Lib.hid hnx
      have hcv := IntWalk.i64_in x (by omega)
      have HST := Lib.hid hst
      have HGT := Lib.hid hgt
      clear hnx hst hgt
      go_wp2_with fail
      refine HX.out.mono ?_
      rintro e w1 ⟨rfl, hF1⟩
      have hb1 := hF1.heap HB.out (fun h => h)
      have HB1 := Lib.hid hb1
      have kf := heap_frozen (o := j) hb1
      have kc := heap_cell (o := j) hb1 (by rw [List.getElem?_toArray]; exact HGT.out)
      have HF1 := Lib.hid (HF.out.trans hF1.no)
      clear hF1 hb1
      go_wp2_with fail
      have hb2 := heap_setAt7 HB1.out j (.int .i64 x)
      rw [nds_set7, HST.out] at hb2
      exact ⟨⟨j + 1, by omega, by go_num, hb2, HF1.out.trans ((Fr.refl (fun k => k = w.heap.size + 1) w1).setCell (p := ⟨w.heap.size + 1, j, none⟩) (fun _ => rfl) _)⟩, by simp [intOf]; omega⟩
    · obtain rfl : j = 32 := by omega
      have HN2 := Lib.hid (heap_nd hb (decN_len l))
      have HB2w := Lib.hid (hF.heap HB2.out (fun (e : w.heap.size = _) => by omega))
      have HN0 := Lib.hid (heap_nd HB2w.out nd0_len)
      have HF := Lib.hid (HF3.out.trans' hF (fun i hi (e : i = _) => by omega))
      clear hb hF hb3
      go_wp2_with (first
        | (refine load_nd rfl _ rfl (w.heap.size + 1) 0 (decP l 32) rfl HN2.out ?_)
        | (refine store_nd rfl _ _ rfl w.heap.size 0 (decP l 32) rfl rfl (decP_len l 32) HN0.out.2.2 ?_; intro hF4)
        | fail "arm")
      have hb4 := heap_setCells7 HB2w.out (nds (decP l 32)) (by rw [nds_len, nds_len, nd0_len, decP_len])
      refine ret_nd_tmp Tryd.results63 rfl rfl (heap_nd hb4 (decP_len l 32)) rfl ⟨rfl, HF.out.trans' hF4 (fun i hi (e : i = _) => by omega)⟩
end Go.Proofs.YtpcikbloflpahaaDoor
namespace Go.Proofs.YtpcikbloflpahaaDoor
set_option linter.unusedVariables false
set_option linter.unusedSimpArgs false
open Go.RowKit Go.Shelf Go.Maps

/-- Sector n of a disk's bytes. -/
def secB (B : List Int) (n : Nat) : List Int := (B.drop (64 * n)).take 64
theorem secB_len {B : List Int} {n : Nat} (h : 64 * (n + 1) ≤ B.length) : (secB B n).length = 64 := by simp [secB]; omega
/-- How many sectors bytes fill. -/
def manyS (n : Nat) : Nat := (min n 128000 + 63) / 64
/-- The first sectors laid, the others noughts. -/
def laidB (b : List Int) (N i : Nat) : List Int := (List.range (64 * N)).map fun k => if k < 64 * i then b.getD k 0 else 0
theorem laidB_len (b : List Int) (N i : Nat) : (laidB b N i).length = 64 * N := by simp [laidB]
theorem laidB_zero (b : List Int) (N : Nat) : laidB b N 0 = zs (64 * N) := by
  apply List.ext_getElem
  · simp [laidB, zs]
  · intro k h1 h2; simp [laidB, zs]
theorem laidB_step (b : List Int) (N i : Nat) (hi : i < N) : spl (laidB b N i) (64 * i) ((b.drop (64 * i)).take 64) = laidB b N (i + 1) := by
  have hl := laidB_len b N i
  apply List.ext_getElem?
  intro k
  simp only [spl, List.length_take, List.length_drop]
  by_cases h1 : k < 64 * i
  · rw [List.append_assoc, List.getElem?_append_left (by simp; omega), List.getElem?_take_of_lt h1]
    simp only [laidB, List.getElem?_map, List.getElem?_range (show k < 64 * N by omega), Option.map_some]
    rw [if_pos h1, if_pos (by omega)]
  · by_cases h2 : k < 64 * i + min 64 (b.length - 64 * i)
    · rw [List.append_assoc, List.getElem?_append_right (by simp; omega), List.getElem?_append_left (by simp; omega)]
      simp only [List.length_take, hl, Nat.min_eq_left (show 64 * i ≤ 64 * N by omega)]
      rw [List.getElem?_take_of_lt (by omega), List.getElem?_drop]
      simp only [laidB, List.getElem?_map, List.getElem?_range (show k < 64 * N by omega), Option.map_some]
      rw [if_pos (by omega), List.getD_eq_getElem?_getD, show 64 * i + (k - 64 * i) = k from by omega, List.getElem?_eq_getElem (by omega)]
      rfl
    · rw [List.getElem?_append_right (by simp; omega)]
      simp only [List.length_append, List.length_take, List.length_drop, hl, Nat.min_eq_left (show 64 * i ≤ 64 * N by omega), List.getElem?_drop]
      rw [show 64 * i + min 64 (b.length - 64 * i) + (k - (64 * i + min 64 (b.length - 64 * i))) = k from by omega]
      by_cases h3 : k < 64 * N
      · simp only [laidB, List.getElem?_map, List.getElem?_range h3, Option.map_some]
        rw [if_neg (by omega)]
        split
        · rw [List.getD_eq_getElem?_getD, List.getElem?_eq_none (by omega)]; rfl
        · rfl
      · rw [List.getElem?_eq_none (by rw [hl]; omega), List.getElem?_eq_none (by rw [laidB_len]; omega)]
/-- Any bytes on a disk. -/
def ofB (b : List Int) : List Int := laidB b (manyS b.length) (manyS b.length)
theorem ofB_len (b : List Int) : (ofB b).length = 64 * manyS b.length := laidB_len _ _ _
theorem ofB_range {b : List Int} (h : ∀ x ∈ b, 0 ≤ x ∧ x < 256) : ∀ x ∈ ofB b, 0 ≤ x ∧ x < 256 := by
  intro x hx
  simp only [ofB, laidB, List.mem_map, List.mem_range] at hx
  obtain ⟨k, -, rfl⟩ := hx
  split
  · rw [List.getD_eq_getElem?_getD]
    cases hk : b[k]? with
    | none => simp
    | some y => exact h y (List.mem_of_getElem? hk)
  · omega

theorem Row.copyMin {w : World} {b : Nat} {t : TypeId} {l : List Int} (h : Row w b t l) (m : List Int) (ad : Option Addr) (cap o dLen dCap : Nat) (hm : 0 < m.length) (hv : Sl w (.slice ad m.length cap) m.length (bys m)) (hfit : o + min dLen m.length ≤ l.length) :
    ∃ w', Row w' b t (spl l o (m.take dLen)) ∧ Fr (fun k => k = b) w w' ∧ ∀ ty, (Builtin.copy_ #[30, 30] ty #[.slice (some ⟨b, o, none⟩) dLen dCap, .slice ad m.length cap]).run Tryd.prog w = .ok (.int .i64 (min dLen m.length : Nat)) w' := by
  obtain ⟨q1, q2⟩ := h.setRow (spl l o (m.take dLen))
  obtain ⟨b', off', rfl, hb', hc'⟩ := hv.at (bys_ne m 0 hm)
  refine ⟨_, q1, q2, fun ty => ?_⟩
  rw [run_copy_row (P := Tryd.prog) w 30 30 ty 5 b o dLen dCap ⟨b', off', none⟩ m.length cap (bys l).toArray t (bys (m.take dLen)) Tryd.underlying30 (by kernel_rfl) h (by rw [bys_len, List.length_take, Nat.min_comm]) ?_ (by simpa [bys] using hfit) (bys_one _)]
  · rw [bys_spl, bys_len, List.length_take]; rfl
  · intro j v hj
    have hj' : (bys m)[j]? = some v := by
      simp only [bys, List.map_take] at hj
      rw [List.getElem?_take] at hj
      split at hj
      · exact hj
      · cases hj
    have := hc' j v hj'
    simp only [Addr.add]
    split
    · next h0 => subst h0; simpa using this
    · exact this

theorem mk_secn (w : World) (n : Nat) (hn : n ≤ 2000) : (Instr.makeSlice 84 (.int .i64 n) (.int .i64 n)).run Tryd.prog w = .ok (.slice (some ⟨w.heap.size, 0, none⟩) n n) (w.alloc (.cells (bys (zs (64 * n))).toArray 92)) := by
  have hE : (Tryd.prog.info? 92).map (fun i => (i.zero, i.size, i.bytes)) = some (some (.agg (bys (zs 64)).toArray), 64, 64) := by kernel_rfl
  cases hi : Tryd.prog.info? 92 with
  | none => rw [hi] at hE; simp at hE
  | some i =>
    rw [hi] at hE
    simp only [Option.map_some, Option.some.injEq, Prod.mk.injEq] at hE
    obtain ⟨h1, h2, h3⟩ := hE
    have := run_make (P := Tryd.prog) w 84 92 i _ Tryd.underlying84 hi h1 .i64 .i64 n n (by omega) (by omega) (by rw [h3]; omega) (by omega)
    rw [this, h2]
    have e : madeCells (Value.agg (bys (zs 64)).toArray).cells (((n : Int).toNat) * 64) = (bys (zs (64 * n))).toArray := by
      apply Array.toList_inj.1
      apply List.ext_getElem
      · simp [madeCells, bys, zs]; omega
      · intro k q1 q2
        simp only [madeCells, Value.cells, bys, zs, Array.toList_map, List.getElem_map, List.getElem_replicate]
        have hall : ∀ j, j < 64 → ((List.map (fun x : Int => Value.int .u8 x) (List.replicate 64 0)).toArray)[j]! = .int .u8 0 := fun j hj => by
          rw [getElem!_pos _ j (by simp; omega), List.getElem_toArray, List.getElem_map, List.getElem_replicate]
        exact hall _ (Nat.lt_of_lt_of_eq (Nat.mod_lt _ (by simp)) (by simp))
    rw [e]; rfl

/-- A disk's block. -/
def DkG (lb n cb : Nat) (wv : Value) (acts : Int) : List Value := [.slice (some ⟨lb, 0, none⟩) n n, .map (some cb), wv, .int .i64 (-1), .int .i64 acts, .bool false]
/-- A disk of n sectors that is up and not armed, with the bytes B on it (as last written); its blocks A. -/
structure DkN (w : World) (db lb cb : Nat) (wv : Value) (acts n c : Nat) (f : Int → Option Value) (L B : List Int) (A : Nat → Prop) : Prop where
  box : w.heap[db]? = some (.cells (DkG lb n cb wv (acts : Int)).toArray 90 (0, 0))
  last : Row w lb 92 L
  map : MapAt Tryd.prog 3 w cb c f
  row : ∃ m ws, w.ownsRow 0 119 65 wv m ws ∧ m ≤ acts
  ll : L.length = 64 * n
  bl : B.length = 64 * n
  rng : ∀ x ∈ B, 0 ≤ x ∧ x < 256
  many : n ≤ 2000
  acts1 : acts ≤ 1000000
  cc : c ≤ acts
  rd : ∀ i : Nat, i < n → (f i = none ∧ secB L i = secB B i) ∨ f i = some (.agg (bys (secB B i)).toArray)
  a0 : A db
  a1 : A lb
  a2 : A cb
  a3 : ∀ k, wv.ownBlock = some k → A k
  low : ∀ k, A k → k < w.heap.size
def DkR (w : World) (db : Nat) (A : Nat → Prop) (acts n : Nat) (B : List Int) : Prop := ∃ lb cb wv c f L, DkN w db lb cb wv acts n c f L B A
theorem DkN.fr {S : Nat → Prop} {w w' : World} {db lb cb : Nat} {wv : Value} {acts n c : Nat} {f : Int → Option Value} {L B : List Int} {A : Nat → Prop} (h : DkN w db lb cb wv acts n c f L B A) (hF : Fr S w w') (hn : ∀ k, A k → ¬ S k) : DkN w' db lb cb wv acts n c f L B A := by
  obtain ⟨m, ws, h3, h4⟩ := h.row
  exact ⟨hF.heap h.box (hn _ h.a0), h.last.fr hF (hn _ h.a1), h.map.fr hF (hn _ h.a2), ⟨m, ws, ownsRow_fr7 h3 hF (fun k e => hn _ (h.a3 k e)), h4⟩, h.ll, h.bl, h.rng, h.many, h.acts1, h.cc, h.rd, h.a0, h.a1, h.a2, h.a3, fun k hk => Nat.lt_of_lt_of_le (h.low k hk) hF.size⟩
theorem DkR.fr {S : Nat → Prop} {w w' : World} {db acts n : Nat} {B : List Int} {A : Nat → Prop} (h : DkR w db A acts n B) (hF : Fr S w w') (hn : ∀ k, A k → ¬ S k) : DkR w' db A acts n B := by
  obtain ⟨lb, cb, wv, c, f, L, h⟩ := h; exact ⟨lb, cb, wv, c, f, L, h.fr hF hn⟩
theorem DkR.fr0 {w w' : World} {db acts n : Nat} {B : List Int} {A : Nat → Prop} (h : DkR w db A acts n B) (hF : Fr No w w') : DkR w' db A acts n B := h.fr hF (fun _ _ h => h)
theorem DkR.low {w : World} {db acts n : Nat} {B : List Int} {A : Nat → Prop} (h : DkR w db A acts n B) : ∀ k, A k → k < w.heap.size := by obtain ⟨lb, cb, wv, c, f, L, h⟩ := h; exact h.low

set_option maxHeartbeats 1000000 in
set_option maxRecDepth 1000000 in
theorem dnewg_calls (n : Nat) (hn : n ≤ 2000) (w : World) : Calls Tryd.prog 31 #[.int .i64 (n : Int)] w fun e w' => e = .returned (.pointer (some ⟨w.heap.size + 2, 0, none⟩)) ∧ w' = ((w.alloc (.cells (bys (zs (64 * n))).toArray 92)).alloc (.map #[] 0)).alloc (Obj.cells #[.slice (some ⟨w.heap.size, 0, none⟩) n n, .map (some (w.heap.size + 1)), .slice none 0 0, .int .i64 (-1), .int .i64 0, .bool false] 90) := by
  have hmm : ∀ w : World, (Instr.makeMap 85 none).run Tryd.prog w = .ok (.map (some w.heap.size)) (w.alloc (.map #[] 0)) := fun _ => rfl
  have hmk := fun w => mk_secn w n hn
  have d1 : decide ((n : Int) < 0) = false := decide_eq_false (by omega)
  have d2 : decide (2000 < (n : Int)) = false := decide_eq_false (by omega)
  go_enter Tryd.func31, Tryd.ntmps31
  go_wp2
  go_ret
  exact ⟨rfl, rfl⟩

theorem secB_of (B : List Int) (i : Nat) : secB B i = secB B i := rfl
set_option maxHeartbeats 2000000 in
set_option maxRecDepth 1000000 in
theorem dof_calls {w : World} (v : Value) (b : List Int) (hlen : b.length ≤ 140737488355328) (hr : ∀ x ∈ b, 0 ≤ x ∧ x < 256) (hv : Sl w v b.length (bys b)) : Calls Tryd.prog 13 #[v] w fun e w' => ∃ db A, e = .returned (.pointer (some ⟨db, 0, none⟩)) ∧ DkR w' db A 0 (manyS b.length) (ofB b) ∧ Fr No w w' ∧ ∀ k, A k → w.heap.size ≤ k := by
  obtain ⟨ad, cap, rfl, hn0, hcap⟩ := hv.form0
  have hm : manyS b.length ≤ 2000 := by unfold manyS; omega
  have HNW := Lib.hid (dnewg_calls (manyS b.length) hm w)
  have HV := Lib.hid hv
  clear hv
  have HNB : RowKit.Hid (∀ N, manyS b.length = N → N = (min b.length 128000 + 63) / 64 ∧ ∀ j < N, 64 * j < b.length) := Lib.hid (fun N e => by subst e; unfold manyS; exact ⟨rfl, fun j hj => by omega⟩)
  have HOF : RowKit.Hid ((ofB b).length = 64 * manyS b.length ∧ (∀ x ∈ ofB b, 0 ≤ x ∧ x < 256) ∧ ∀ i, secB (laidB b (manyS b.length) (manyS b.length)) i = secB (ofB b) i) := Lib.hid ⟨ofB_len b, ofB_range hr, fun _ => rfl⟩
  generalize ofB b = ob at *
  generalize hN : manyS b.length = N at *
  have HN := Lib.hid (HNB.out _ rfl)
  clear hN HNB
  have HM := Lib.hid (MapAt.made Tryd.prog 3 (w.alloc (.cells (bys (zs (64 * N))).toArray 92)))
  go_enter Tryd.func13, Tryd.ntmps13
  go_wp2_with fail
  all_goals first | rw [show ((b.length : Int) + 64 - 1) / 64 = (N : Int) from by have := HN.out.1; omega] | rw [show Value.int .i64 2000 = .int .i64 (N : Int) from by rw [show N = 2000 from by have := HN.out.1; omega]; rfl]
  all_goals (
    refine HNW.out.mono ?_
    rintro e w2 ⟨rfl, hw2⟩)
  all_goals (
    have hF2 : Fr No w w2 := by rw [hw2]; exact (((Fr.refl No w).alloc _).alloc _).alloc _
    have hs2 : w2.heap.size = w.heap.size + 3 := by rw [hw2]; simp
    have hrow : Row w2 w.heap.size 92 (laidB b N 0) := by rw [hw2, laidB_zero]; exact heap_alloc _ (heap_alloc _ (heap_new _ _))
    have hbox : w2.heap[w.heap.size + 2]? = some (.cells (DkG w.heap.size N (w.heap.size + 1) (.slice none 0 0) 0).toArray 90 (0, 0)) := by
      rw [hw2]
      have := heap_new ((w.alloc (.cells (bys (zs (64 * N))).toArray 92)).alloc (.map #[] 0)) (Obj.cells #[.slice (some ⟨w.heap.size, 0, none⟩) N N, .map (some (w.heap.size + 1)), .slice none 0 0, .int .i64 (-1), .int .i64 0, .bool false] 90)
      have s2 : ((w.alloc (.cells (bys (zs (64 * N))).toArray 92)).alloc (.map #[] 0)).heap.size = w.heap.size + 2 := by simp
      rw [s2] at this
      exact this
    have hmap : MapAt Tryd.prog 3 w2 (w.heap.size + 1) 0 (fun _ => none) := by
      rw [hw2]
      have := HM.out.fr ((Fr.refl No _).alloc (Obj.cells #[.slice (some ⟨w.heap.size, 0, none⟩) N N, .map (some (w.heap.size + 1)), .slice none 0 0, .int .i64 (-1), .int .i64 0, .bool false] 90)) (fun h => h)
      simpa using this
    have k0 : w2.cell? ⟨w.heap.size + 2, 0, none⟩ = some (.slice (some ⟨w.heap.size, 0, none⟩) N N) := heap_cell (o := 0) hbox rfl
    clear hw2)
  all_goals (
    have HF2 := Lib.hid hF2
    have HBX := Lib.hid hbox
    have HMP := Lib.hid hmap
    clear hF2 hbox hmap)
  all_goals go_wp2_with fail
  all_goals (
    go_loopw [17] (fun i wr => ∃ j : Nat, j ≤ N ∧ i = .int .i64 j ∧ Row wr w.heap.size 92 (laidB b N j) ∧ Fr (fun k => k = w.heap.size) w2 wr) (fun i _ => N - (intOf i).toNat)
    case atStart => exact ⟨0, Nat.zero_le _, rfl, hrow, Fr.refl _ _⟩
    case round =>
      obtain ⟨j, hj, rfl, hrw, hF⟩ := hrel
      by_cases hlt : j < N
      · have HRW := Lib.hid hrw
        have HF := Lib.hid hF
        have hjb := HN.out.2 j hlt
        have k0d : wr.drew.cell? ⟨w.heap.size + 2, 0, none⟩ = some (.slice (some ⟨w.heap.size, 0, none⟩) N N) := hF.cell k0 (fun (e : w.heap.size + 2 = _) => by omega)
        have hsz : wr.heap.size ≥ w.heap.size + 3 := by have := hF.size; omega
        have hwr : IntKind.i64.wrap ((j : Int) * 64) = 64 * (j : Int) := by have := IntWalk.i64_in ((j : Int) * 64) (by omega); rw [this]; omega
        have hq0 : (64 * (j : Int)).toNat = 64 * j := by omega
        have hq1 : (0 ≤ 64 * (j : Int) ∧ 64 * (j : Int) ≤ (b.length : Int)) = True := eq_true ⟨by omega, by omega⟩
        have hq2 : (cap = 64 * j) = False := eq_false (by omega)
        have hsd : Sl wr.drew (.slice (Option.map (fun x => x.add (64 * j)) ad) (b.length - 64 * j) (cap - 64 * j)) (b.length - 64 * j) (bys (b.drop (64 * j))) := by
          have h1 : Fr (fun k => k = w.heap.size) w wr.drew := (HF2.out.no.trans hF).drew
          have := (HV.out.fr h1 (fun k e hne => by have := HV.out.lt e hne; omega)).drop (k := 64 * j) (size := 1) (by omega) (by simp [bys])
          rw [if_neg (by omega)] at this
          simpa [bys, List.map_drop] using this
        obtain ⟨w5, hrw5, hF5, hcp⟩ := Row.copyMin (w := wr.drew) hrw (b.drop (64 * j)) (Option.map (fun x => x.add (64 * j)) ad) (cap - 64 * j) (j * 64) 64 64 (by simp; omega) (by rw [List.length_drop]; exact hsd) (by rw [laidB_len, List.length_drop]; omega)
        rw [List.length_drop] at hcp
        rw [Nat.mul_comm j 64, laidB_step b N j hlt] at hrw5
        have HRW5 := Lib.hid hrw5
        have HF5 := Lib.hid (hF.trans ((Fr.refl (fun k => k = w.heap.size) wr).drew.trans hF5))
        have K0 := Lib.hid k0
        clear hrw hF hrow k0 hsd hrw5 hF5
        go_upto_region 5 with fail
        refine wp_region_held_drew (S := (fun w' => w'.cell? ⟨w.heap.size + 2, 0, none⟩ = some (.slice (some ⟨w.heap.size, 0, none⟩) N N))) (by kernel_rfl) k0d (fun hS0 => ?_)
        refine take_at7 (i := 0) (d := some 20) (v := ?_) rfl rfl (by kernel_rfl) (by kernel_rfl) (by kernel_rfl) (fun _ _ _ h => h) (Or.inl ⟨by rfl, ?_⟩) (by assumption) ?_
        rotate_left
        · intro w hSw; go_simp; try (with_reducible rfl)
        try simp only [Act.put, List.setIfInBounds_toArray, List.set_cons_zero, List.set_cons_succ]
        refine take_at7 (i := 1) (d := some 21) (v := ?_) rfl rfl (by kernel_rfl) (by kernel_rfl) (by kernel_rfl) (fun _ _ _ h => h) (Or.inl ⟨by rfl, ?_⟩) (by assumption) ?_
        rotate_left
        · intro w hSw; go_simp; try (with_reducible rfl)
        try simp only [Act.put, List.setIfInBounds_toArray, List.set_cons_zero, List.set_cons_succ]
        refine take_at7 (i := 2) (d := some 22) (v := ?_) rfl rfl (by kernel_rfl) (by kernel_rfl) (by kernel_rfl) (fun _ _ _ h => h) (Or.inl ⟨by rfl, ?_⟩) (by assumption) ?_
        rotate_left
        · intro w hSw; go_simp; try (with_reducible rfl)
        try simp only [Act.put, List.setIfInBounds_toArray, List.set_cons_zero, List.set_cons_succ]
        refine take_at7 (i := 3) (d := some 23) (v := ?_) rfl rfl (by kernel_rfl) (by kernel_rfl) (by kernel_rfl) (fun _ _ _ h => h) (Or.inl ⟨by rfl, ?_⟩) (by assumption) ?_
        rotate_left
        · intro w hSw; go_simp; try (with_reducible rfl)
        try simp only [Act.put, List.setIfInBounds_toArray, List.set_cons_zero, List.set_cons_succ]
        refine take_at7 (i := 4) (d := some 24) (v := ?_) rfl rfl (by kernel_rfl) (by kernel_rfl) (by kernel_rfl) (fun _ _ _ h => h) (Or.inl ⟨by rfl, ?_⟩) (by assumption) ?_
        rotate_left
        · intro w hSw; go_simp; try (with_reducible rfl)
        try simp only [Act.put, List.setIfInBounds_toArray, List.set_cons_zero, List.set_cons_succ]
        refine take_at7 (i := 5) (d := some 25) (v := ?_) rfl rfl (by kernel_rfl) (by kernel_rfl) (by kernel_rfl) (fun _ _ _ h => h) (Or.inl ⟨by rfl, ?_⟩) (by assumption) ?_
        rotate_left
        · intro w hSw; go_simp; try (with_reducible rfl)
        try simp only [Act.put, List.setIfInBounds_toArray, List.set_cons_zero, List.set_cons_succ]
        refine take_at7 (i := 6) (d := some 26) (v := ?_) rfl rfl (by kernel_rfl) (by kernel_rfl) (by kernel_rfl) (fun _ _ _ h => h) (Or.inl ⟨by rfl, ?_⟩) (by assumption) ?_
        rotate_left
        · intro w hSw; go_simp; try (with_reducible rfl)
        try simp only [Act.put, List.setIfInBounds_toArray, List.set_cons_zero, List.set_cons_succ]
        refine take_at7 (i := 7) (d := some 27) (v := ?_) rfl rfl (by kernel_rfl) (by kernel_rfl) (by kernel_rfl) (fun _ _ _ h => h) (Or.inl ⟨by rfl, ?_⟩) (by assumption) ?_
        rotate_left
        · intro w hSw; go_simp; try (with_reducible rfl)
        try simp only [Act.put, List.setIfInBounds_toArray, List.set_cons_zero, List.set_cons_succ]
        refine take_at7 (i := 8) (d := some 28) (v := ?_) rfl rfl (by kernel_rfl) (by kernel_rfl) (by kernel_rfl) (fun _ _ _ h => h) (Or.inl ⟨by rfl, ?_⟩) (by assumption) ?_
        rotate_left
        · intro w hSw; go_simp; try (with_reducible rfl)
        try simp only [Act.put, List.setIfInBounds_toArray, List.set_cons_zero, List.set_cons_succ]
        refine take_at7 (i := 9) (d := some 29) (v := ?_) rfl rfl (by kernel_rfl) (by kernel_rfl) (by kernel_rfl) (fun _ _ _ h => h) (Or.inl ⟨by rfl, ?_⟩) (by assumption) ?_
        rotate_left
        · intro w hSw; go_simp; try (with_reducible rfl)
        try simp only [Act.put, List.setIfInBounds_toArray, List.set_cons_zero, List.set_cons_succ]
        refine take_at7 (i := 10) (d := some 30) (v := ?_) rfl rfl (by kernel_rfl) (by kernel_rfl) (by kernel_rfl) (fun _ _ _ h => h) (Or.inl ⟨by rfl, ?_⟩) (by assumption) ?_
        rotate_left
        · intro w hSw; go_simp; try (with_reducible rfl)
        try simp only [Act.put, List.setIfInBounds_toArray, List.set_cons_zero, List.set_cons_succ]
        refine one_H7 (i := 11) (d := some 31) rfl rfl rfl (by kernel_rfl) (fun K hK => ?_)
        go_simp
        refine hK.out _ _ (HF5.out.cell K0.out (fun (e : w.heap.size + 2 = _) => by omega)) (fun hHeld => ?_)
        clear hK K
        try simp only [Act.put, List.setIfInBounds_toArray, List.set_cons_zero, List.set_cons_succ]
        refine wpAnyH_done (by kernel_rfl) ?_ _
        go_wp2_with fail
        refine ⟨⟨j + 1, by omega, by go_num, HRW5.out, HF5.out⟩, by simp [intOf]; omega⟩
      · obtain rfl : j = N := by omega
        have HRW := Lib.hid hrw
        have HF := Lib.hid hF
        clear hrw hF hrow k0
        go_wp2_with fail
        go_ret
        have hFa : Fr No w wr := HF2.out.trans' HF.out (fun i hi (e : i = _) => by omega)
        have hsz : wr.heap.size ≥ w.heap.size + 3 := by have := HF.out.size; omega
        refine ⟨w.heap.size + 2, fun k => w.heap.size ≤ k ∧ k < w.heap.size + 3, rfl, ⟨w.heap.size, w.heap.size + 1, .slice none 0 0, 0, fun _ => none, laidB b j j, ⟨HF.out.heap HBX.out (fun (e : w.heap.size + 2 = _) => by omega), HRW.out, HMP.out.fr HF.out (fun (e : w.heap.size + 1 = _) => by omega), ⟨0, [], World.ownsRow_nil _ _ _ _, by omega⟩, laidB_len _ _ _, HOF.out.1, HOF.out.2.1, hm, by omega, Nat.le_refl _, fun i hi => .inl ⟨rfl, HOF.out.2.2 i⟩, ⟨by omega, by omega⟩, ⟨by omega, by omega⟩, ⟨by omega, by omega⟩, fun k e => by simp [Value.ownBlock] at e, fun k hk => by have := hk.2; omega⟩⟩, hFa, fun k hk => hk.1⟩)
end Go.Proofs.YtpcikbloflpahaaDoor
namespace Go.Proofs.YtpcikbloflpahaaDoor
set_option linter.unusedVariables false
set_option linter.unusedSimpArgs false
open Go.RowKit Go.Shelf Go.Maps

set_option maxHeartbeats 1000000 in
set_option maxRecDepth 1000000 in
theorem gup_calls {w : World} {db : Nat} {A : Nat → Prop} {acts n : Nat} {B : List Int} (h : DkR w db A acts n B) : Calls Tryd.prog 51 #[.pointer (some ⟨db, 0, none⟩)] w fun e w' => e = .returned (.bool true) ∧ w = w' := by
  obtain ⟨lb, cb, wv, c, f, L, h⟩ := h
  have c1 : w.cell? ⟨db, 1, none⟩ = some (.map (some cb)) := heap_cell (o := 1) h.box rfl
  have c5 : w.cell? ⟨db, 5, none⟩ = some (.bool false) := heap_cell (o := 5) h.box rfl
  have hnn : ∀ w : World, (binOp .neq 85 (.map (some cb)) (.map none)).run Tryd.prog w = .ok (.bool true) w := fun w => run_neq_map_nil (P := Tryd.prog) w _ _ _ (some cb) Tryd.underlying85
  clear h
  go_enter Tryd.func51, Tryd.ntmps51
  go_wp2
  go_ret
  exact ⟨rfl, rfl⟩
theorem gdown_calls {w : World} {db : Nat} {A : Nat → Prop} {acts n : Nat} {B : List Int} (h : DkR w db A acts n B) : Calls Tryd.prog 82 #[.pointer (some ⟨db, 0, none⟩)] w fun e w' => e = .returned (.bool false) ∧ w = w' := by
  have HU := Lib.hid (gup_calls h)
  clear h
  go_enter Tryd.func82, Tryd.ntmps82
  go_wp2_with fail
  refine HU.out.mono ?_
  rintro e w1 ⟨rfl, rfl⟩
  go_wp2
  go_ret
  exact ⟨rfl, rfl⟩
theorem glen_calls {w : World} {db : Nat} {A : Nat → Prop} {acts n : Nat} {B : List Int} (h : DkR w db A acts n B) : Calls Tryd.prog 19 #[.pointer (some ⟨db, 0, none⟩)] w fun e w' => e = .returned (.int .i64 (n : Int)) ∧ w = w' := by
  obtain ⟨lb, cb, wv, c, f, L, h⟩ := h
  have c0 : w.cell? ⟨db, 0, none⟩ = some (.slice (some ⟨lb, 0, none⟩) n n) := heap_cell (o := 0) h.box rfl
  clear h
  go_enter Tryd.func19, Tryd.ntmps19
  go_wp2
  go_ret
  exact ⟨rfl, rfl⟩

theorem Row.range {w : World} {b : Nat} {t : TypeId} {l : List Int} (h : Row w b t l) (i : Nat) : w.rangeAt b (64 * i) (bys (secB l i)) := fun j v hj => by
  refine heap_cell h ?_
  simp only [secB, bys, List.map_take, List.map_drop] at hj
  rw [List.getElem?_take] at hj
  split at hj
  · rw [List.getElem?_drop] at hj
    simpa [bys] using hj
  · cases hj
/-- What Read hands out. -/
def ReadG (w w' : World) (r : Value) (B : List Int) (i : Nat) : Prop := ∃ g, r = .slice (some ⟨g, 0, none⟩) 64 64 ∧ w.heap.size ≤ g ∧ Row w' g 92 (secB B i)
set_option maxHeartbeats 4000000 in
set_option maxRecDepth 1000000 in
theorem gread_calls {w : World} {db : Nat} {A : Nat → Prop} {acts n : Nat} {B : List Int} (h : DkR w db A acts n B) (i : Nat) (hi : i < n) :
    Calls Tryd.prog 26 #[.pointer (some ⟨db, 0, none⟩), .int .i64 (i : Int)] w fun e w' => ∃ r, e = .returned (.tuple #[r, .int .i64 0]) ∧ Fr No w w' ∧ ReadG w w' r B i := by
  have HU := Lib.hid (gup_calls h)
  obtain ⟨lb, cb, wv, c, f, L, h⟩ := h
  have hz : ∀ w : World, (zeroValue 92).run Tryd.prog w = .ok (.agg (bys (zs 64)).toArray) w := fun _ => by kernel_rfl
  have hm := h.many
  have c0 : w.cell? ⟨db, 0, none⟩ = some (.slice (some ⟨lb, 0, none⟩) n n) := heap_cell (o := 0) h.box rfl
  have c1 : w.cell? ⟨db, 1, none⟩ = some (.map (some cb)) := heap_cell (o := 1) h.box rfl
  have d1 : decide ((i : Int) < 0) = false := decide_eq_false (by omega)
  have d2 : decide ((n : Int) ≤ (i : Int)) = false := decide_eq_false (by omega)
  have d3 : decide ((i : Int) < (n : Int)) = true := decide_eq_true (by omega)
  have hlk := (h.map.look Tryd.underlying3 Tryd.underlying85 (hz _) (i : Int) (by omega)).1
  have HRW := Lib.hid h.last
  have hl1 : (bys (secB L i)).length = 64 := by rw [bys_len]; exact secB_len (by rw [h.ll]; omega)
  have hl2 : (bys (secB B i)).length = 64 := by rw [bys_len]; exact secB_len (by rw [h.bl]; omega)
  have HL := Lib.hid (And.intro hl1 hl2)
  have hrd := h.rd i hi
  have HBN := Lib.hid (heap_new w (Obj.cells (bys (zs 64)).toArray 92))
  have hz64 : (bys (zs 64)).length = 64 := by simp [bys, zs]
  have HZ := Lib.hid hz64
  have HC := Lib.hid (And.intro c0 d3)
  clear h hl1 hl2 hz64
  rcases hrd with ⟨hf, he⟩ | hf
  · rw [hf] at hlk
    simp only [Option.getD_none, Option.isSome_none] at hlk
    go_enter Tryd.func26, Tryd.ntmps26
    go_wp2_with fail
    refine HU.out.mono ?_
    rintro e w1 ⟨rfl, rfl⟩
    go_wp2_with (first
      | (refine alloc_sec rfl rfl ?_)
      | (refine store_sec rfl _ _ rfl w.heap.size (zs 64) (bys (zs 64)) _ rfl rfl HZ.out HBN.out HZ.out ?_; intro w3 hb3 hF3; have hFa := ((Fr.refl No w).alloc (Obj.cells (bys (zs 64)).toArray 92)).trans' hF3 (fun i hi (e : i = _) => by omega); have c03 : w3.cell? ⟨db, 0, none⟩ = some (.slice (some ⟨lb, 0, none⟩) n n) := hFa.cell HC.out.1 (fun h => h); have HB3 := Lib.hid hb3; have HFa := Lib.hid hFa; have HG := Lib.hid (show w3.rangeAt lb (i * 64) (bys (secB B i)) by rw [← he, Nat.mul_comm]; exact (HRW.out.fr hFa (fun h => h)).range i); clear hF3 hFa hb3)
      | (refine load_sec rfl _ rfl lb (i * 64) (secB B i) rfl HG.out HL.out.2 ?_)
      | (refine store_sec rfl _ _ rfl w.heap.size (secB B i) (bys (zs 64)) _ rfl rfl HL.out.2 HB3.out HZ.out ?_; intro w4 hb4 hF4)
      | fail "arm")
    go_ret2
    exact ⟨_, rfl, HFa.out.trans' hF4 (fun i hi (e : i = _) => by omega), w.heap.size, rfl, Nat.le_refl _, hb4⟩
  · rw [hf] at hlk
    simp only [Option.getD_some, Option.isSome_some] at hlk
    go_enter Tryd.func26, Tryd.ntmps26
    go_wp2_with fail
    refine HU.out.mono ?_
    rintro e w1 ⟨rfl, rfl⟩
    go_wp2_with (first
      | (refine alloc_sec rfl rfl ?_)
      | (refine store_sec rfl _ _ rfl w.heap.size (secB B i) (bys (zs 64)) _ rfl rfl HL.out.2 HBN.out HZ.out ?_; intro w3 hb3 hF3)
      | fail "arm")
    have hFa := ((Fr.refl No w).alloc (Obj.cells (bys (zs 64)).toArray 92)).trans' hF3 (fun i hi (e : i = _) => by omega)
    have HB3 := Lib.hid hb3
    have HFa := Lib.hid hFa
    clear hF3 hFa hb3 hlk c0
    go_wp2_with fail
    go_ret2
    exact ⟨_, rfl, HFa.out, w.heap.size, rfl, Nat.le_refl _, HB3.out⟩
end Go.Proofs.YtpcikbloflpahaaDoor
