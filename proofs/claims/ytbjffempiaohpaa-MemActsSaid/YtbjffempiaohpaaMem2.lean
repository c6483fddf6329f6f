/-
  The memory of chapter 9: the page of a place.
-/
import Derived.Test.YtbjffempiaohpaaMem1
namespace Go.Proofs.Ytbjffempiaohpaa
set_option linter.unusedVariables false
set_option linter.unusedSimpArgs false
open Go.RowKit Go.Shelf Go.Maps

theorem key_of (p : Nat) (hp : p < 128) : keyOf Try.prog 3 (.int .i64 (p : Int)) = some (pkey p) := keyOf_int_mk Try.underlying3 (WalkArith.wf_i64 (by omega))
theorem zero_held (w : World) : (zeroValue 88).run Try.prog w = .ok (.pointer none) w := by kernel_rfl

theorem zc_held : Try.zeroCells87 = (bys (zs 128)).toArray := by kernel_rfl

set_option maxHeartbeats 1000000 in
set_option maxRecDepth 1000000 in
theorem at_hit {w : World} {mb fb pm n : Nat} {D : DataW Unit} {P : Nat → Option Nat} {A : Nat → Prop} {F B : List Int} (h : MemIn w mb fb pm n D P A F B) {k p r b : Nat} (hp : p < 128) (hr : r < 64) (hk : k = 64 * p + r) (hb : P p = some b) :
    Calls Try.prog 47 #[.pointer (some ⟨mb, 0, none⟩), .int .i64 k] w fun e w' => e = .returned (.pointer (some ⟨b, 0, none⟩)) ∧ w' = w := by
  have c1 := heap_cell (o := 1) h.box rfl
  obtain ⟨v, ps, hlk, hv⟩ := h.map.look_ok intKey Try.underlying63 (zero_held w) (zd := .lit (.int .i64 (-1))) (zp := []) rfl (key_of p hp)
  rw [h.get p b hp hb] at hv
  rw [h.has p hp, hb] at hlk
  rcases heldR_inv hv with ⟨-, e⟩ | ⟨b', rfl, e⟩
  · simp at e
  obtain rfl : b = b' := by simp at e; exact Int.ofNat.inj e
  have hq : (k : Int) / 64 = p := by omega
  have hq2 : Int.tdiv (k : Int) 64 = p := by rw [Int.tdiv_eq_ediv_of_nonneg (by omega)]; omega
  have hk0 : (0 : Int) ≤ k := by omega
  clear hv hb h hk hr
  go_enter Try.func47, Try.ntmps47
  go_wp2
  go_ret
  exact ⟨rfl, rfl⟩

set_option maxHeartbeats 1000000 in
set_option maxRecDepth 1000000 in
theorem at_miss {w : World} {mb fb pm n : Nat} {D : DataW Unit} {P : Nat → Option Nat} {A : Nat → Prop} {F B : List Int} (h : MemIn w mb fb pm n D P A F B) {k p r : Nat} (hp : p < 128) (hr : r < 64) (hk : k = 64 * p + r) (hb : P p = none) :
    Calls Try.prog 47 #[.pointer (some ⟨mb, 0, none⟩), .int .i64 k] w fun e w' => ∃ b, e = .returned (.pointer (some ⟨b, 0, none⟩)) ∧ MemIn w' mb fb pm (n + 1) (D.put (pkey p) (.lit (.int .i64 b))) (putP P p b) (fun j => A j ∨ j = b) F B ∧ Fr (fun k => k = pm) w w' ∧ w.heap.size ≤ b := by
  have c0 := heap_cell (o := 0) h.box rfl
  have c1 := heap_cell (o := 1) h.box rfl
  have c2 := heap_cell (o := 2) h.box rfl
  obtain ⟨v, ps, hlk, hv⟩ := h.map.look_ok intKey Try.underlying63 (zero_held w) (zd := .lit (.int .i64 (-1))) (zp := []) rfl (key_of p hp)
  rw [h.has p hp, hb] at hlk
  have hq : (k : Int) / 64 = p := by omega
  have hq2 : Int.tdiv (k : Int) 64 = p := by rw [Int.tdiv_eq_ediv_of_nonneg (by omega)]; omega
  have hk0 : (0 : Int) ≤ k := by omega
  have hF0 : Fr No w (w.alloc (Obj.cells Try.zeroCells87 87)) := (Fr.refl _ _).alloc _
  have d0 := hF0.cell c0 (fun h => h)
  have d1 := hF0.cell c1 (fun h => h)
  have d2 := hF0.cell c2 (fun h => h)
  have hR0 : Row (w.alloc (Obj.cells Try.zeroCells87 87)) w.heap.size 87 (zs 128) := by rw [zc_held]; exact Row.new _ _ _
  have hb1 := heap_lt h.box
  have hL := pg_length F p h.flen hp
  have hzl : (spl (zs 128) 0 (pg F p)).length = 128 := by rw [spl_length _ _ _ (by rw [zs_length]; omega), zs_length]
  obtain ⟨W2, hR2, hF2, hcp⟩ := Row.copyAt (w := (w.alloc (Obj.cells Try.zeroCells87 87)).drew) hR0 (pg F p) ⟨fb, p * 64, none⟩ 0 64 64 (8192 - p * 64) (8192 - p * 64) (by rw [hL]; exact (Nat.min_eq_right (by omega)).symm)
    (fun j v hj => by
      have hfc : Row (w.alloc (Obj.cells Try.zeroCells87 87)).drew fb 5 F := h.first.fr (S := No) hF0.drew (fun h => h)
      have hj2 : (bys F)[p * 64 + j]? = some v := by
        simp only [pg, bys, List.map_take, List.map_drop, List.getElem?_take, List.getElem?_drop] at hj
        split at hj
        · rw [Nat.mul_comm p 64]; exact hj
        · cases hj
      have : (⟨fb, p * 64, none⟩ : Addr).add j = ⟨fb, p * 64 + j, none⟩ := by simp only [Addr.add]; split <;> simp_all
      rw [this]
      exact heap_cell hfc (by simpa using hj2)) (by rw [zs_length]; omega)
  rw [hL] at hcp
  have e1 := hF2.cell (show (w.alloc (Obj.cells Try.zeroCells87 87)).drew.cell? ⟨mb, 1, none⟩ = _ from d1) (by omega)
  have HF2 := Lib.hid (show Fr No w W2 from hF0.drew.trans' hF2 (fun i hi e => by omega))
  have HR2 := Lib.hid hR2
  have HRG := Lib.hid (show W2.rangeAt w.heap.size 0 (bys (pg F p)) from fun j v hj => by
    rw [Nat.zero_add]
    refine heap_cell hR2 ?_
    have hj' : j < (pg F p).length := by
      rcases Nat.lt_or_ge j (pg F p).length with h1 | h1
      · exact h1
      · rw [List.getElem?_eq_none (by rw [bys_len]; exact h1)] at hj; cases hj
    have : (spl (zs 128) 0 (pg F p))[j]? = (pg F p)[j]? := by rw [spl, List.take_zero, List.nil_append, List.getElem?_append_left hj']
    simp only [bys, List.getElem?_map] at hj
    simp only [bys, List.getElem?_toArray, List.getElem?_map, this]
    exact hj)
  have HSZ := Lib.hid (show (Try.prog.info? 85).map (·.size) = some (bys (pg F p)).length from by rw [bys_len, hL]; kernel_rfl)
  have HSZ2 := Lib.hid (show (Try.prog.info? 85).map (·.size) = some (bys (pg F p)).toArray.size from by rw [List.size_toArray]; exact HSZ.out)
  have H1C := Lib.hid (all_oneCell_toArray (bys_one (pg F p)))
  have HST := Lib.hid (show W2.there w.heap.size 64 (bys (pg F p)).toArray.size from fun j hj => by
    have hj' : 64 + j < (spl (zs 128) 0 (pg F p)).length := by rw [hzl]; simp [bys, hL] at hj; omega
    exact ⟨by rw [hR2.cell hj']; rfl, hR2.frozen _⟩)
  have HM := Lib.hid h
  have HB := Lib.hid hb
  have HZL := Lib.hid hzl
  have HLL := Lib.hid hL
  clear hv hb h hk hr c0 c2 hR2 hF2 hzl hL
  go_enter Try.func47, Try.ntmps47
  go_wp2
  go_region
  clear hcp hlk d0 d1 d2 c1 hF0 hR0
  go_wp2_with (first | (refine wpList_load_mid rfl 85 _ rfl w.heap.size 0 rfl (bys (pg F p)) (.array 64 5) HRG.out (by kernel_rfl) rfl HSZ.out ?_) | (refine wpList_store_mid rfl 85 _ _ rfl w.heap.size 64 (bys (pg F p)).toArray rfl rfl HST.out HSZ2.out H1C.out ?_; obtain ⟨hRS, hFS⟩ := HR2.out.setAll (pg F p) 64 (by rw [HZL.out, HLL.out]; omega); rw [show (bys (pg F p)).toArray.toList = bys (pg F p) from rfl]; have e2 := hFS.cell e1 (by omega); have hF3 : Fr No w _ := HF2.out.trans' hFS (fun i hi e => by omega); have hm3 := ownsMap_fr HM.out.map hF3 (fun h => h); generalize World.setCells _ w.heap.size 64 (bys (pg F p)) = W3 at *) | (at_mapUpdate; refine wpList_mapUpdate_own W3 rfl _ _ _ 63 rfl 3 88 intKey Try.underlying63 heldR pm n D rfl hm3 (by have := HM.out.cnt; unfold maxLen; omega) _ _ _ rfl rfl (key_of p hp) (.lit (.int .i64 (w.heap.size : Int))) [] rfl ?_; intro w4 hown4 hgrow4))
  have hF4 : Fr (fun k => k = pm) w w4 := hF3.no.grown hgrow4 (fun k e _ => by cases e; rfl)
  have hpm := HM.out.map.lt
  have hR4 : Row w4 w.heap.size 87 (pg F p ++ pg F p) := by
    have h1 := hRS.fr ((Fr.refl (fun k => k = pm) W3).grown hgrow4 (fun k e _ => by cases e; rfl)) (by omega)
    have h2 : spl (spl (zs 128) 0 (pg F p)) 64 (pg F p) = pg F p ++ pg F p := by
      have hl := HLL.out
      have hd : (zs 128).drop 64 = zs 64 := by simp [zs]
      simp [spl, hl, List.drop_append, List.take_append, List.drop_drop, zs]
    rwa [h2] at h1
  go_ret
  exact ⟨_, rfl, HM.out.page hp HB.out hF4 (Nat.le_refl _) hown4 hR4, hF4, Nat.le_refl _⟩
end Go.Proofs.Ytbjffempiaohpaa
