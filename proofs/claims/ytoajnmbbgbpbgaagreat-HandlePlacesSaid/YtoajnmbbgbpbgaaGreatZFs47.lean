/-
  Chapter 12, the reference: Resize.
-/
import Derived.Test.YtoajnmbbgbpbgaaGreatZFs46
namespace Go.Proofs.YtoajnmbbgbpbgaaGreat
set_option linter.unusedVariables false
set_option linter.unusedSimpArgs false
open Go.RowKit Go.Shelf Go.Maps

theorem rblocks_len (v : Value) (xs : List (Int × Int)) (w : World) (hlen : xs.length ≤ 100) (hv : Sl w v xs.length (extCells xs)) {n : Nat} (hn : (listF xs).length = n) :
    Calls Tryz.prog 99 #[v] w fun e w' => Fr No w w' ∧ ∃ r b, e = .returned (.tuple #[r, .bool b]) ∧ w'.ownsRow w.heap.size 3 1 r n (ints (listF xs)) := by
  subst hn
  refine (rblocks_calls v xs w hlen hv).mono ?_
  rintro e w1 ⟨hF, r, rfl, ho⟩
  exact ⟨hF, r, _, rfl, ho⟩

theorem rresize_bad {w : World} {rb : Nat} {R : Nat → Prop} {F B : List Int} (h : RefAt w rb R F B) (n m : Int) (hbad : (∃ x, openE B n = x ∧ 0 < x) ∨ m < 0 ∨ 1472 < m) :
    Calls Tryz.prog 65 #[.pointer (some ⟨rb, 0, none⟩), .int .i64 n, .int .i64 m] w (RsP w rb R F (resizeR B n m).1 (.int .i64 (resizeR B n m).2)) := by
  have HM := Lib.hid h
  rcases open_cases B n with ⟨x, hx, h0⟩ | ⟨hx, L, u, k, ht, hk, rfl, hnm⟩
  · rw [resizeR_bad hx h0]
    have HND := Lib.hid (rnode_calls h n)
    have HX := Lib.hid hx
    have q1 : (x != 0) = true := by simp; omega
    have H0 := Lib.hid h0
    clear h hx h0 hbad
    go_enter Tryz.func65, Tryz.ntmps65
    go_wp2_with fail
    refine HND.out.mono ?_
    rintro e w1 ⟨hF, ⟨x', h0', hx', rfl⟩ | ⟨L, u, k, ht, hk, rfl, hE, hnm, a, c, rfl, hs⟩⟩
    · obtain rfl : x = x' := HX.out.symm.trans hx'
      clear h0' hx'
      go_wp2
      go_ret
      exact ⟨R, rfl, (Rp.refl HM.out).thenFr (hF.alloc _)⟩
    · have := HX.out; have := H0.out; omega
  · have hmb : m < 0 ∨ 1472 < m := hbad.resolve_left (fun ⟨x, hx', h0⟩ => by omega)
    obtain ⟨nm, sz, xs, hxx⟩ : ∃ nm sz xs, L.getD k Nd.free = ⟨nm, sz, xs⟩ := ⟨_, _, _, rfl⟩
    have hnm' := hnm
    rw [hxx] at hnm'
    have HND := Lib.hid (rnode_good h ht hk hxx hnm')
    have hres : resizeR B k m = if m < 0 then (B, 1) else (B, 125) := by
      rw [resizeR_good ht hk hnm]
      by_cases hm : m < 0
      · rw [if_pos hm, if_pos hm]
      · rw [if_neg hm, if_neg hm, if_pos (by omega)]
    rw [hres]
    clear h hbad hx ht hk hnm hxx hnm' hres
    by_cases hm : m < 0
    · rw [if_pos hm]
      clear hmb
      go_enter Tryz.func65, Tryz.ntmps65
      go_wp2_with fail
      refine HND.out.mono ?_
      rintro e w1 ⟨a, c, rfl, hF, hs⟩
      clear hs
      go_wp2
      go_ret
      exact ⟨R, rfl, (Rp.refl HM.out).thenFr (hF.alloc _)⟩
    · rw [if_neg hm]
      have q2 : decide (m < 0) = false := decide_eq_false hm
      have q3 : decide (1472 < m) = true := decide_eq_true (by omega)
      clear hmb hm
      go_enter Tryz.func65, Tryz.ntmps65
      go_wp2_with fail
      refine HND.out.mono ?_
      rintro e w1 ⟨a, c, rfl, hF, hs⟩
      clear hs
      go_wp2
      go_ret
      exact ⟨R, rfl, (Rp.refl HM.out).thenFr (hF.alloc _)⟩

set_option maxHeartbeats 4000000 in
set_option maxRecDepth 1000000 in
theorem rresize_none {w : World} {rb : Nat} {R : Nat → Prop} {F B : List Int} (h : RefAt w rb R F B) {L : List Nd} {u k : Nat} (ht : tableF B = some (L, u)) (hk : k < 8) {nm : ByteArray} {sz : Int} {xs : List (Int × Int)} (hx : L.getD k Nd.free = ⟨nm, sz, xs⟩) (hnm : nm ≠ noName) (mm : Nat) (hm : mm ≤ 1472)
    (hge : ((listF xs).length : Int) ≤ needF (mm : Int)) (hr : resizeT ⟨nm, sz, xs⟩ u (mm : Int) = none) :
    Calls Tryz.prog 65 #[.pointer (some ⟨rb, 0, none⟩), .int .i64 (k : Int), .int .i64 (mm : Int)] w (RsP w rb R F B (.int .i64 125)) := by
  have htab := (tableF_iff _ _ _).1 ht
  have hgo := good_at htab hk hx
  have hok0 := hgo.facts.1
  have hx23 := hgo.facts.2.2.2.2.1
  have hul := tableF_u ht
  dsimp only at hok0 hx23
  have HM := Lib.hid h
  have HND := Lib.hid (rnode_good h ht hk hx hnm)
  obtain ⟨nd, hnd⟩ : ∃ nd : Nat, needF (mm : Int) = nd ∧ nd ≤ 23 := ⟨(needF (mm : Int)).toNat, by rw [needF]; split <;> omega⟩
  have hnd1 := hnd.1
  have hnd2 := hnd.2
  have HNE := Lib.hid (fun w1 => (by
    have := rneed_calls (mm : Int) w1 (by omega) (by omega)
    rw [hnd1] at this; exact this : Calls Tryz.prog 100 #[.int .i64 (mm : Int)] w1 fun e w' => e = .returned (.int .i64 (nd : Int)) ∧ w1 = w'))
  obtain ⟨hl, hhl⟩ : ∃ hl, (listF xs).length = hl := ⟨_, rfl⟩
  rw [hhl, hnd1] at hge
  have hl33 := listF_length xs
  rw [hhl] at hl33
  have q0 : decide ((mm : Int) < 0) = false := decide_eq_false (by omega)
  have q1 : decide ((1472 : Int) < (mm : Int)) = false := decide_eq_false (by omega)
  have hway := (resize_ways (x := ⟨nm, sz, xs⟩) (u := u) (m := (mm : Int)) hok0 (by rw [hnd1]; omega)).1 (by rw [hnd1]; dsimp only; rw [hhl]; exact hge)
  rw [hr] at hway
  dsimp only at hway
  rw [hnd1, hhl] at hway
  have hw0 : IntKind.i64.wrap ((nd : Int) - (hl : Int)) = (nd : Int) - (hl : Int) := IntWalk.i64_in _ (by omega)
  have hgeN : hl ≤ nd := by omega
  have HGR := Lib.hid (fun w1 v (hv : Sl w1 v xs.length (extCells xs)) => (by
    have := rgrowT_calls v xs u ((nd : Int) - (hl : Int)) w1 (by omega) hul (by omega) hv
    rw [hway] at this; exact this))
  have HHL := Lib.hid hhl
  have HBC := Lib.hid (fun w1 v (hv : Sl w1 v xs.length (extCells xs)) => rblocks_len v xs w1 (by omega) hv hhl)
  clear h ht hk hx hnm hge hr htab hgo hok0 hul hnd hnd1 hway hhl
  go_enter Tryz.func65, Tryz.ntmps65
  go_wp2_with fail
  refine HND.out.mono ?_
  rintro e w1 ⟨a, c, rfl, hF1, hs1⟩
  have HS1 := Lib.hid hs1.1
  clear hs1
  have hFa : Fr No w1 (w1.alloc (Obj.cells #[.string nm, .int .i64 sz, .slice a xs.length c] 95)) := (Fr.refl _ _).alloc _
  go_wp2_with fail
  refine (HBC.out _ _ (HS1.out.fr0 hFa)).mono ?_
  rintro e w2 ⟨hF2, ov, bov, rfl, ho⟩
  obtain ⟨ao, co, rfl⟩ := (Sl.of_owns ho).form
  have c2 : w2.cell? ⟨w1.heap.size, 2, none⟩ = some (.slice a xs.length c) := heap_cell (hF2.heap (heap_new w1 _) (fun h => h)) rfl
  have HF2 := Lib.hid (hFa.trans hF2)
  have HF02 := Lib.hid (hF1.trans (hFa.trans hF2))
  clear hFa hF2 hF1 ho
  go_wp2_with fail
  refine (HNE.out _).mono ?_
  rintro e w3 ⟨rfl, rfl⟩
  go_wp2_with fail
  refine (HGR.out _ _ (HS1.out.fr0 HF2.out)).mono ?_
  rintro e w4 ⟨hF4, rfl⟩
  go_wp2
  go_ret
  exact ⟨R, rfl, (Rp.refl HM.out).thenFr (HF02.out.trans hF4)⟩

set_option maxHeartbeats 4000000 in
set_option maxRecDepth 1000000 in
theorem rresize_grow {w : World} {rb : Nat} {R : Nat → Prop} {F B : List Int} (h : RefAt w rb R F B) {L : List Nd} {u k : Nat} (ht : tableF B = some (L, u)) (hk : k < 8) {nm : ByteArray} {sz : Int} {xs : List (Int × Int)} (hx : L.getD k Nd.free = ⟨nm, sz, xs⟩) (hnm : nm ≠ noName) (mm : Nat) (hm : mm ≤ 1472)
    (hge : ((listF xs).length : Int) ≤ needF (mm : Int)) {ys : List (Int × Int)} {u2 : Nat} (hr : resizeT ⟨nm, sz, xs⟩ u (mm : Int) = some (⟨nm, (mm : Int), ys⟩, u2)) :
    Calls Tryz.prog 65 #[.pointer (some ⟨rb, 0, none⟩), .int .i64 (k : Int), .int .i64 (mm : Int)] w (RsP w rb R F (resizeB B L k ⟨nm, (mm : Int), ys⟩ u2 (listF xs).length) (.int .i64 0)) := by
  have htab := (tableF_iff _ _ _).1 ht
  have hgo := good_at htab hk hx
  have hok0 := hgo.facts.1
  have hx23 := hgo.facts.2.2.2.2.1
  have hul := tableF_u ht
  dsimp only at hok0 hx23
  have HM := Lib.hid h
  have HND := Lib.hid (rnode_good h ht hk hx hnm)
  obtain ⟨nd, hnd⟩ : ∃ nd : Nat, needF (mm : Int) = nd ∧ nd ≤ 23 := ⟨(needF (mm : Int)).toNat, by rw [needF]; split <;> omega⟩
  have hnd1 := hnd.1
  have hnd2 := hnd.2
  have HNE := Lib.hid (fun w1 => (by
    have := rneed_calls (mm : Int) w1 (by omega) (by omega)
    rw [hnd1] at this; exact this : Calls Tryz.prog 100 #[.int .i64 (mm : Int)] w1 fun e w' => e = .returned (.int .i64 (nd : Int)) ∧ w1 = w'))
  obtain ⟨hl, hhl⟩ : ∃ hl, (listF xs).length = hl := ⟨_, rfl⟩
  rw [hhl, hnd1] at hge
  have hl33 := listF_length xs
  rw [hhl] at hl33
  have q0 : decide ((mm : Int) < 0) = false := decide_eq_false (by omega)
  have q1 : decide ((1472 : Int) < (mm : Int)) = false := decide_eq_false (by omega)
  have hway := (resize_ways (x := ⟨nm, sz, xs⟩) (u := u) (m := (mm : Int)) hok0 (by rw [hnd1]; omega)).1 (by rw [hnd1]; dsimp only; rw [hhl]; exact hge)
  rw [hr] at hway
  dsimp only at hway
  obtain ⟨hway, -, -⟩ := hway
  rw [hnd1, hhl] at hway
  rw [hhl]
  obtain ⟨hR, -⟩ := resize_tab h.blen htab hk hx hnm (m := (mm : Int)) (by omega) (by omega) hr
  have hHR := resize_ref h.blen htab hk (x' := ⟨nm, (mm : Int), ys⟩) u2 (mm : Int) (by omega) hR.ok rfl hR.len (listF xs).length
  dsimp only at hHR
  have hlen3 := hR.len
  dsimp only at hlen3
  have hok := hR.ok
  dsimp only at hok
  obtain ⟨-, hns15, -, -, hy23⟩ := inoOk_small hok
  have hu2 : u2 < 2 ^ 32 := by rw [hR.used]; exact usedN_lt _
  obtain ⟨r, hr1⟩ : ∃ r : Nat, (mm : Int) % 64 = r := ⟨((mm : Int) % 64).toNat, by omega⟩
  have hr2 : Int.tmod (mm : Int) 64 = r := by rw [Int.tmod_eq_emod_of_nonneg (by omega)]; exact hr1
  have hr64 : r < 64 := by omega
  rw [hr1, show (64 - (r : Int)).toNat = 64 - r by omega, hhl] at hHR
  have HND3 : RowKit.Hid (0 < (r : Int) → 1 ≤ (needF (mm : Int)).toNat) := Lib.hid (fun hp => by rw [needF, if_neg (by omega)]; omega)
  have HLY3 := Lib.hid hlen3
  have HOK := Lib.hid hok
  have HNS := Lib.hid hns15
  have HY23 := Lib.hid hy23
  have HU2 := Lib.hid hu2
  have HK8 := Lib.hid hk
  have HHL := Lib.hid hhl
  obtain ⟨B1, hB1⟩ : ∃ B1, zeroN B ((listF ys).drop hl) = B1 := ⟨_, rfl⟩
  rw [hB1] at hHR
  have HRES := Lib.hid hHR
  have HB1 := Lib.hid hB1
  have hw0 : IntKind.i64.wrap ((nd : Int) - (hl : Int)) = (nd : Int) - (hl : Int) := IntWalk.i64_in _ (by omega)
  have hgeN : hl ≤ nd := by omega
  have HGR := Lib.hid (fun w1 v (hv : Sl w1 v xs.length (extCells xs)) => (by
    have := rgrowT_calls v xs u ((nd : Int) - (hl : Int)) w1 (by omega) hul (by omega) hv
    rw [hway] at this; exact this))
  have HBC := Lib.hid (fun w1 v (hv : Sl w1 v xs.length (extCells xs)) => rblocks_len v xs w1 (by omega) hv hhl)
  obtain ⟨yl, hyl⟩ : ∃ yl, (listF ys).length = yl := ⟨_, rfl⟩
  have hyn : yl = nd := by rw [← hyl, hlen3, hnd1]; omega
  have HBY := Lib.hid (fun w1 v (hv : Sl w1 v ys.length (extCells ys)) => rblocks_len v ys w1 (by omega) hv hyl)
  have HYL := Lib.hid hyl
  have HYN := Lib.hid hyn
  have HHLE : RowKit.Hid (hl ≤ yl) := Lib.hid (by omega)
  have hyb : yl ≤ 23 := by omega
  have hmk : ∀ w : World, (Instr.makeSlice 22 (.int .i64 64) (.int .i64 64)).run Tryz.prog w = .ok (.slice (some ⟨w.heap.size, 0, none⟩) 64 64) (w.alloc (.cells (bys (zs 64)).toArray 5)) := fun w => mk_bytes w 64 (by omega)
  have HZL := Lib.hid (zs_length 64)
  have HZR := Lib.hid (zs_range 64)
  have HZN := Lib.hid (fun (B0 : List Int) (bs : List Int) (b : Int) => zeroN_snoc B0 bs b)
  have HNW := Lib.hid (fun (w1 : World) => Row.new w1 5 (zs 64))
  clear h ht hk hx hnm hge hr htab hgo hok0 hul hnd hnd1 hway hhl hR hHR hlen3 hok hns15 hy23 hu2 hB1 hyl hyn
  generalize zs 64 = z at *
  go_enter Tryz.func65, Tryz.ntmps65
  go_wp2_with fail
  refine HND.out.mono ?_
  rintro e w1 ⟨a, c, rfl, hF1, hs1⟩
  have HS1 := Lib.hid hs1.1
  clear hs1
  have hFa : Fr No w1 (w1.alloc (Obj.cells #[.string nm, .int .i64 sz, .slice a xs.length c] 95)) := (Fr.refl _ _).alloc _
  go_wp2_with fail
  refine (HBC.out _ _ (HS1.out.fr0 hFa)).mono ?_
  rintro e w2 ⟨hF2, ov, bov, rfl, ho⟩
  obtain ⟨ao, co, rfl⟩ := (Sl.of_owns ho).form
  have HBX2 : RowKit.Hid (w2.heap[w1.heap.size]? = some (.cells #[.string nm, .int .i64 sz, .slice a xs.length c] 95 (0, 0))) := Lib.hid (hF2.heap (heap_new w1 _) (fun h => h))
  have c2 : w2.cell? ⟨w1.heap.size, 2, none⟩ = some (.slice a xs.length c) := heap_cell HBX2.out rfl
  have HF2 := Lib.hid (hFa.trans hF2)
  have HF02 := Lib.hid (hF1.trans (hFa.trans hF2))
  have HB7L : RowKit.Hid (w.heap.size ≤ w1.heap.size) := Lib.hid hF1.size
  have HB72 : RowKit.Hid (w1.heap.size < w2.heap.size) := Lib.hid (heap_lt HBX2.out)
  clear hFa hF2 hF1 ho
  generalize hb7 : w1.heap.size = b7 at *
  go_wp2_with fail
  refine (HNE.out _).mono ?_
  rintro e w3 ⟨rfl, rfl⟩
  go_wp2_with fail
  refine (HGR.out _ _ (HS1.out.fr0 HF2.out)).mono ?_
  rintro e w4 ⟨hF4, rr, rfl, hrr⟩
  obtain ⟨ar, cr, rfl⟩ := (Sl.of_owns hrr).form
  have HY4 := Lib.hid (Sl.of_owns hrr)
  have HYO : RowKit.Hid (∀ q, (Value.slice ar ys.length cr).ownBlock = some q → ys ≠ [] → w.heap.size ≤ q ∧ q ≠ b7) := Lib.hid (fun q e _ => by
    have h1 := (hrr.lt q e).1
    have h2 := HB72.out
    have h3 := HB7L.out
    exact ⟨by omega, by omega⟩)
  have HF04 := Lib.hid (HF02.out.trans hF4)
  have HBX4 := Lib.hid (hF4.heap HBX2.out (fun h => h))
  clear hrr hF4 c2
  go_wp2_with fail
  refine (HBY.out _ _ HY4.out).mono ?_
  rintro e w5 ⟨hF5, oy, boy, rfl, hoy⟩
  obtain ⟨ay, cy, rfl⟩ := (Sl.of_owns hoy).form
  have HF05 := Lib.hid (HF04.out.trans hF5)
  have HBX5 := Lib.hid (hF5.heap HBX4.out (fun h => h))
  have HY5' := Lib.hid (HY4.out.fr0 hF5)
  have hsl := Sl.of_owns hoy
  have hcy : yl ≤ cy := by obtain ⟨_, _, e, ⟨-, h⟩, -⟩ := id hsl; cases e; exact h
  have hsd := hsl.drop (k := hl) HHLE.out (size := 1) (by rw [Nat.mul_one]; simp [ints]; exact HYL.out)
  rw [Nat.mul_one] at hsd
  have HYLO : RowKit.Hid (∀ q, (Value.slice ay yl cy).ownBlock = some q → w.heap.size ≤ q) := Lib.hid (fun q e => by
    have h1 := (hoy.lt q e).1
    have h2 := HF04.out.size
    omega)
  have hhle := HHLE.out
  have hci1 : (hl : Int) ≤ (yl : Int) := by omega
  have hci2 : (hl : Int) ≤ (cy : Int) := by omega
  clear hF5 hoy hsl
  obtain ⟨av, hav⟩ : ∃ av, (if cy = hl then ay else ay.map (·.add hl)) = av := ⟨_, rfl⟩
  rw [hav] at hsd
  have HSD := Lib.hid hsd
  have HAV : RowKit.Hid (∀ q, (Value.slice av (yl - hl) (cy - hl)).ownBlock = some q → w.heap.size ≤ q) := Lib.hid (fun q e => by
    apply HYLO.out q
    rw [← hav] at e
    split at e
    · cases ay with
      | none => simp [Value.ownBlock] at e
      | some ad => simpa [Value.ownBlock] using e
    · cases ay with
      | none => simp [Value.ownBlock] at e
      | some ad =>
        obtain ⟨bq, oq, sq⟩ := ad
        simp only [Option.map_some, Value.ownBlock] at e ⊢
        simp only [Addr.add] at e
        split at e <;> simpa using e)
  by_cases hck : cy = hl
  · subst hck
    have hyl2 : yl = cy := by omega
    subst hyl2
    rw [if_pos rfl] at hav
    subst hav
    have hz0 : B1 = B := by rw [← HB1.out, List.drop_of_length_le (by rw [HYL.out]; exact Nat.le_refl _), zeroN_nil]
    have HPw : RowKit.Hid (Rp w rb R F B1 w5 R) := Lib.hid (by rw [hz0]; exact (Rp.refl HM.out).thenFr HF05.out)
    clear hz0 hsd
    go_wp2_with fail
    go_loopw [76] (fun i wx => i = .int .i64 0 ∧ wx = w5) (fun _ _ => 0)
    case atStart => exact ⟨rfl, rfl⟩
    case round =>
      obtain ⟨rfl, rfl⟩ := hrel
      have HPx := Lib.hid HPw.out
      have HBx := Lib.hid HBX5.out
      have HYx := Lib.hid HY5'.out
      have c2 : wr.cell? ⟨b7, 2, none⟩ = some (.slice a xs.length c) := heap_cell HBx.out rfl
      have f2 := heap_frozen (o := 2) HBx.out
      have hb5 := heap_setAt (cs := [.string nm, .int .i64 sz, .slice a xs.length c]) HBx.out 2 (.slice ar ys.length cr)
      have hF5s := (Fr.refl (fun k => k = b7) wr).setCell (p := ⟨b7, 2, none⟩) (fun _ => rfl) (.slice ar ys.length cr)
      go_upto_region 22 with fail
      generalize wr.setCell ⟨b7, 2, none⟩ (.slice ar ys.length cr) = W5 at *
      have HB5 : RowKit.Hid (W5.heap[b7]? = some (.cells #[.string nm, .int .i64 sz, .slice ar ys.length cr] 95 (0, 0))) := Lib.hid hb5
      have HP5 : RowKit.Hid (Rp w rb R F B1 W5 R) := Lib.hid ⟨HPx.out.1.fr hF5s (fun k e hR => by subst e; have := HM.out.low _ hR; have := HB7L.out; omega), HPx.out.2.1.trans' hF5s (fun i hi e => by have := HB7L.out; omega), HPx.out.2.2⟩
      have HY5 : RowKit.Hid (Sl W5 (.slice ar ys.length cr) ys.length (extCells ys)) := Lib.hid (HYx.out.fr hF5s (fun q e hne e' => (HYO.out q e (extCells_ne hne)).2 e'))
      clear c2 f2 hb5 hF5s

      have hk8 := HK8.out
      have hb6 := heap_setAt (cs := [.string nm, .int .i64 sz, .slice ar ys.length cr]) HB5.out 1 (.int .i64 (mm : Int))
      have f1 := heap_frozen (o := 1) HB5.out
      have c1' := heap_cell (o := 1) HB5.out rfl
      have hF56 := (Fr.refl (fun k => k = b7) W5).setCell (p := ⟨b7, 1, none⟩) (fun _ => rfl) (.int .i64 (mm : Int))
      go_upto_region 23 with fail
      generalize W5.setCell ⟨b7, 1, none⟩ (.int .i64 (mm : Int)) = W6 at *
      have d0 : W6.cell? ⟨b7, 0, none⟩ = some (.string nm) := heap_cell hb6 rfl
      have d1 : W6.cell? ⟨b7, 1, none⟩ = some (.int .i64 (mm : Int)) := heap_cell hb6 rfl
      have d2 : W6.cell? ⟨b7, 2, none⟩ = some (.slice ar ys.length cr) := heap_cell hb6 rfl
      have HP6 : RowKit.Hid (Rp w rb R F B1 W6 R) := Lib.hid ⟨HP5.out.1.fr hF56 (fun k e hR => by subst e; have := HM.out.low _ hR; have := HB7L.out; omega), HP5.out.2.1.trans' hF56 (fun i hi e => by have := HB7L.out; omega), HP5.out.2.2⟩
      have HY6 : RowKit.Hid (Sl W6 (.slice ar ys.length cr) ys.length (extCells ys)) := Lib.hid (HY5.out.fr hF56 (fun q e hne e' => (HYO.out q e (extCells_ne hne)).2 e'))
      have HB6 : RowKit.Hid (W6.heap[b7]? = some (.cells #[.string nm, .int .i64 (mm : Int), .slice ar ys.length cr] 95 (0, 0))) := Lib.hid hb6
      have HEN := Lib.hid (rencode_calls nm (mm : Int) (.slice ar ys.length cr) ys W6 (by have := HNS.out; omega) (by omega) (by omega) (by have := HY23.out; omega) HY6.out)
      clear hb6 f1 c1' hF56
      go_wp2_with fail
      refine HEN.out.mono ?_
      rintro e w7 ⟨hF7, ⟨-, re, rfl, hre⟩ | ⟨hbad, -⟩⟩
      rotate_left
      · rw [HOK.out] at hbad; cases hbad
      obtain ⟨are, cre, rfl⟩ := hre.1.form
      have HP7 := Lib.hid (HP6.out.thenFr hF7)
      have HLY := Lib.hid (by
        have hl := encF_length nm (mm : Int) ys HNS.out
        exact rlayb_calls HP7.out.1 (1 + (k : Int)) (by have := HK8.out; omega) (.slice are 64 cre) (encF nm (mm : Int) ys) (by rw [hl]; exact hre.1) (fun q e hne hA => by
          have h1 := hre.2 q e (bys_nil hne)
          have h2 := HP6.out.1.low q hA
          omega) (encF_range nm (mm : Int) ys HNS.out) (by rw [hl]; omega))
      have HF7 := Lib.hid hF7
      clear hre hF7 d0 d1 d2
      go_wp2_with fail
      refine HLY.out.mono ?_
      rintro e w8 ⟨rfl, hp8⟩
      have HP8 := Lib.hid (HP7.out.trans hp8)
      have HB8 : RowKit.Hid (w8.heap[b7]? = some (.cells #[.string nm, .int .i64 (mm : Int), .slice ar ys.length cr] 95 (0, 0))) := Lib.hid (hp8.2.1.heap (HF7.out.heap HB6.out (fun h => h)) (fun hR => by have := HM.out.low _ hR; have := HB7L.out; omega))
      have HY8 : RowKit.Hid (Sl w8 (.slice ar ys.length cr) ys.length (extCells ys)) := Lib.hid ((HY6.out.fr0 HF7.out).fr hp8.2.1 (fun q e hne hR => by have := HM.out.low _ hR; have := (HYO.out q e (extCells_ne hne)).1; omega))
      clear hp8
      go_wp2_with fail
      refine (rhead_calls u2 HU2.out _).mono ?_
      rintro e w9 ⟨rh, rfl, hF9, hr9⟩
      have HLY2 := Lib.hid (rlayb_calls (HP8.out.1.fr0 hF9) 0 (by omega) rh (headF u2) (by rw [headF_length]; exact Sl.of_owns hr9) (fun q e _ hA => by have h1 := (hr9.lt q e).1; have := HP8.out.1.low q hA; omega) (headF_range u2) (by rw [headF_length]; omega))
      have HP9 := Lib.hid (HP8.out.thenFr hF9)
      have HB9 := Lib.hid (hF9.heap HB8.out (fun h => h))
      have HY9 := Lib.hid (HY8.out.fr0 hF9)
      clear hF9 hr9
      go_wp2_with fail
      refine HLY2.out.mono ?_
      rintro e w10 ⟨rfl, hp10⟩
      have HP10 := Lib.hid (HP9.out.trans hp10)
      have hb10 := hp10.2.1.heap HB9.out (fun hR => by have := HM.out.low _ hR; have := HB7L.out; omega)
      have HY10 : RowKit.Hid (Sl w10 (.slice ar ys.length cr) ys.length (extCells ys)) := Lib.hid (HY9.out.fr hp10.2.1 (fun q e hne hR => by have := HM.out.low _ hR; have := (HYO.out q e (extCells_ne hne)).1; omega))
      have d2 : w10.cell? ⟨b7, 2, none⟩ = some (.slice ar ys.length cr) := heap_cell hb10 rfl
      clear hp10 hb10
      by_cases hr0 : r = 0
      · subst hr0
        go_wp2
        go_ret
        rw [HRES.out, if_neg (by omega)]
        exact ⟨R, rfl, HP10.out⟩
      · have hrpN : 0 < r := by omega
        have HRB := Lib.hid (rblocks_calls (.slice ar ys.length cr) ys w10 (by have := HY23.out; omega) HY10.out)
        go_wp2_with fail
        refine HRB.out.mono ?_
        rintro e w11 ⟨hF11, ov, rfl, ho⟩
        obtain ⟨ao, co, rfl⟩ := (Sl.of_owns ho).form
        have hle1 : 1 ≤ (listF ys).length := by have := HLY3.out; have := HND3.out (by omega); omega
        obtain ⟨vb, off, e0, -, hc⟩ := (Sl.of_owns ho).at (ints_ne _ 0 hle1)
        cases e0
        obtain ⟨ll, hll⟩ : ∃ ll : Nat, (listF ys).length = ll + 1 := ⟨(listF ys).length - 1, by omega⟩
        obtain ⟨lb, hlb⟩ : ∃ lb : Nat, (listF ys).getD ((needF (mm : Int)).toNat - 1) 0 = (lb : Int) ∧ lb < 32 := by
          have h1 := listF_nine ((listF ys).getD ll 0) (getD_mem (by omega))
          refine ⟨((listF ys).getD ll 0).toNat, ?_, by omega⟩
          rw [HLY3.out] at hll
          rw [show (needF (mm : Int)).toNat - 1 = ll by omega]; omega
        have x1 : w11.cell? ⟨vb, off + ll, none⟩ = some (.int .i64 (lb : Int)) := by
          have h1 := hc ll _ (ints_get (listF ys) ll (by omega))
          rw [h1]
          have h2 := hlb.1
          rw [HLY3.out] at hll
          rw [show (needF (mm : Int)).toNat - 1 = ll by omega] at h2
          simp only [List.getD_eq_getElem?_getD] at h2
          rw [List.getElem?_eq_getElem (by rw [HLY3.out]; omega), Option.getD_some] at h2
          rw [h2]
        have HLB := Lib.hid hlb
        have hlb2 := hlb.2
        have HLL := Lib.hid hll
        have hw1 : IntKind.i64.wrap (((listF ys).length : Int) - 1) = (ll : Int) := by rw [hll]; exact (IntWalk.i64_in _ (by have := listF_length ys; omega)).trans (by omega)
        have hl33 := listF_length ys
        have HP11 := Lib.hid (HP10.out.thenFr hF11)
        have hll2 : ll < (listF ys).length := by omega
        have hw2 : IntKind.i64.wrap (64 - (r : Int)) = ((64 - r : Nat) : Int) := (IntWalk.i64_in _ (by omega)).trans (by omega)
        have hw3 : IntKind.i64.wrap (6144 + (lb : Int) * 64) = 6144 + (lb : Int) * 64 := IntWalk.i64_in _ (by omega)
        have hw4 : IntKind.i64.wrap (6144 + (lb : Int) * 64 + (r : Int)) = 6144 + (lb : Int) * 64 + r := IntWalk.i64_in _ (by omega)
        have hmk2 : ∀ w : World, (Instr.makeSlice 22 (.int .i64 ((64 - r : Nat) : Int)) (.int .i64 ((64 - r : Nat) : Int))).run Tryz.prog w = .ok (.slice (some ⟨w.heap.size, 0, none⟩) (64 - r) (64 - r)) (w.alloc (.cells (bys (zs (64 - r))).toArray 5)) := fun w => mk_bytes w (64 - r) (by omega)
        have HLY4 := Lib.hid (by
          have hR := Row.new w11 5 (zs (64 - r))
          have := rlay_calls (HP11.out.1.fr0 ((Fr.refl No w11).alloc _)) (6144 + (lb : Int) * 64 + r) (.slice (some ⟨w11.heap.size, 0, none⟩) (zs (64 - r)).length (zs (64 - r)).length) (zs (64 - r)) hR.sl (fun q e _ hA => by cases e; exact Nat.lt_irrefl _ (HP11.out.1.low _ hA)) (zs_range _) (by rw [zs_length]; omega) (by omega)
          rw [zs_length] at this; exact this)
        clear hc hll hlb ho hF11
        generalize listF ys = lys at *
        generalize (64 - r : Nat) = sr at *
        go_wp2_with fail
        refine HLY4.out.mono ?_
        rintro e w12 ⟨rfl, hp12⟩
        go_wp2
        go_ret
        rw [HRES.out, if_pos (by omega), HLB.out.1]
        rw [show 6144 + 64 * (lb : Int) = 6144 + (lb : Int) * 64 by omega]
        exact ⟨R, rfl, HP11.out.trans (Rp.ahead ((Fr.refl No _).alloc _) hp12)⟩
  · rw [if_neg hck] at hav
    clear hsd
    go_wp2_with fail
    clear hav
    obtain ⟨dl, hdl⟩ : ∃ dl, yl - hl = dl := ⟨_, rfl⟩
    rw [hdl] at HSD HAV ⊢
    generalize cy - hl = dc at *
    have HDL := Lib.hid hdl
    have hdlb : dl ≤ 23 := by omega
    clear hdl hci1 hci2 hck hcy hhle
    go_loopw [76] (fun i wx => ∃ q : Nat, q ≤ dl ∧ i = .int .i64 q ∧ Rp w rb R F (zeroN B (((listF ys).drop hl).take q)) wx R ∧ Fr R w5 wx) (fun i _ => dl - (intOf i).toNat)
    case atStart => exact ⟨0, Nat.zero_le _, rfl, by rw [List.take_zero, zeroN_nil]; exact (Rp.refl HM.out).thenFr HF05.out, Fr.refl _ _⟩
    case round =>
      obtain ⟨q, hq, rfl, hp, hF⟩ := hrel
      by_cases hqt : q < dl
      · have hsx := HSD.out.fr hF (fun t e hne hR => by have := HM.out.low _ hR; have := HAV.out t e; omega)
        have hql : hl + q < (listF ys).length := by have := HDL.out; have := HYL.out; omega
        obtain ⟨cb, hcb⟩ : ∃ cb : Nat, (listF ys)[hl + q] = (cb : Int) ∧ cb < 32 := ⟨((listF ys)[hl + q]).toNat, by have := listF_range ys _ (List.getElem_mem hql); omega⟩
        have hg : ((ints (listF ys)).drop hl)[q]? = some (.int .i64 (cb : Int)) := by rw [List.getElem?_drop, ints_get _ _ hql, hcb.1]
        obtain ⟨vb, off, rfl, -, hc⟩ := hsx.at (by intro e; rw [e] at hg; simp at hg)
        have x1 : wr.cell? ⟨vb, off + q, none⟩ = some (.int .i64 (cb : Int)) := hc _ _ hg
        have hcb2 := hcb.2
        have HST : RowKit.Hid (zeroN B (((listF ys).drop hl).take (q + 1)) = layF (zeroN B (((listF ys).drop hl).take q)) (6144 + 64 * (cb : Int)) z) := Lib.hid (by
          have hdq : q < ((listF ys).drop hl).length := by rw [List.length_drop]; omega
          rw [List.take_succ_eq_append_getElem hdq, HZN.out, List.getElem_drop, hcb.1])
        have HLZ := Lib.hid (fun w6 bz (hF6 : Fr No wr w6) (hb : wr.heap.size ≤ bz) (hR : Row w6 bz 5 z) => (by
          have := rlayb_calls (hp.1.fr0 hF6) (cb : Int) (by omega) (.slice (some ⟨bz, 0, none⟩) z.length z.length) z hR.sl (fun t e _ hA => by cases e; have h9 : bz < wr.heap.size := hp.1.low bz hA; omega) HZR.out (by rw [HZL.out]; omega)
          rw [HZL.out] at this; exact this))
        have HP := Lib.hid hp
        have HF := Lib.hid hF
        clear hsx hg hcb hc hp hF hql
        go_wp2_with fail
        refine (HLZ.out _ _ ((Fr.refl _ _).alloc _) (Nat.le_refl _) (HNW.out _)).mono ?_
        rintro e w6 ⟨rfl, hp6⟩
        go_wp2
        go_roundw
        case rel => exact ⟨q + 1, by omega, by go_num, by rw [HST.out]; exact HP.out.trans (Rp.ahead ((Fr.refl No _).alloc _) hp6), (HF.out.trans ((Fr.refl No _).alloc (Obj.cells (bys z).toArray 5)).no).trans hp6.2.1⟩
        case measure => simp [intOf]; omega
      obtain rfl : q = dl := by omega
      have HPx : RowKit.Hid (Rp w rb R F B1 wr R) := Lib.hid (by
        rw [← HB1.out]
        rw [List.take_of_length_le (by rw [List.length_drop]; have := HDL.out; have := HYL.out; omega)] at hp
        exact hp)
      have HBx := Lib.hid (hF.heap HBX5.out (fun hR => by have := HM.out.low _ hR; have := HB7L.out; omega))
      have HYx := Lib.hid (HY5'.out.fr hF (fun t e hne hR => by have := HM.out.low _ hR; have := (HYO.out t e (extCells_ne hne)).1; omega))
      clear hp hF hqt hq
      have c2 : wr.cell? ⟨b7, 2, none⟩ = some (.slice a xs.length c) := heap_cell HBx.out rfl
      have f2 := heap_frozen (o := 2) HBx.out
      have hb5 := heap_setAt (cs := [.string nm, .int .i64 sz, .slice a xs.length c]) HBx.out 2 (.slice ar ys.length cr)
      have hF5s := (Fr.refl (fun k => k = b7) wr).setCell (p := ⟨b7, 2, none⟩) (fun _ => rfl) (.slice ar ys.length cr)
      go_upto_region 22 with fail
      generalize wr.setCell ⟨b7, 2, none⟩ (.slice ar ys.length cr) = W5 at *
      have HB5 : RowKit.Hid (W5.heap[b7]? = some (.cells #[.string nm, .int .i64 sz, .slice ar ys.length cr] 95 (0, 0))) := Lib.hid hb5
      have HP5 : RowKit.Hid (Rp w rb R F B1 W5 R) := Lib.hid ⟨HPx.out.1.fr hF5s (fun k e hR => by subst e; have := HM.out.low _ hR; have := HB7L.out; omega), HPx.out.2.1.trans' hF5s (fun i hi e => by have := HB7L.out; omega), HPx.out.2.2⟩
      have HY5 : RowKit.Hid (Sl W5 (.slice ar ys.length cr) ys.length (extCells ys)) := Lib.hid (HYx.out.fr hF5s (fun q e hne e' => (HYO.out q e (extCells_ne hne)).2 e'))
      clear c2 f2 hb5 hF5s

      have hk8 := HK8.out
      have hb6 := heap_setAt (cs := [.string nm, .int .i64 sz, .slice ar ys.length cr]) HB5.out 1 (.int .i64 (mm : Int))
      have f1 := heap_frozen (o := 1) HB5.out
      have c1' := heap_cell (o := 1) HB5.out rfl
      have hF56 := (Fr.refl (fun k => k = b7) W5).setCell (p := ⟨b7, 1, none⟩) (fun _ => rfl) (.int .i64 (mm : Int))
      go_upto_region 23 with fail
      generalize W5.setCell ⟨b7, 1, none⟩ (.int .i64 (mm : Int)) = W6 at *
      have d0 : W6.cell? ⟨b7, 0, none⟩ = some (.string nm) := heap_cell hb6 rfl
      have d1 : W6.cell? ⟨b7, 1, none⟩ = some (.int .i64 (mm : Int)) := heap_cell hb6 rfl
      have d2 : W6.cell? ⟨b7, 2, none⟩ = some (.slice ar ys.length cr) := heap_cell hb6 rfl
      have HP6 : RowKit.Hid (Rp w rb R F B1 W6 R) := Lib.hid ⟨HP5.out.1.fr hF56 (fun k e hR => by subst e; have := HM.out.low _ hR; have := HB7L.out; omega), HP5.out.2.1.trans' hF56 (fun i hi e => by have := HB7L.out; omega), HP5.out.2.2⟩
      have HY6 : RowKit.Hid (Sl W6 (.slice ar ys.length cr) ys.length (extCells ys)) := Lib.hid (HY5.out.fr hF56 (fun q e hne e' => (HYO.out q e (extCells_ne hne)).2 e'))
      have HB6 : RowKit.Hid (W6.heap[b7]? = some (.cells #[.string nm, .int .i64 (mm : Int), .slice ar ys.length cr] 95 (0, 0))) := Lib.hid hb6
      have HEN := Lib.hid (rencode_calls nm (mm : Int) (.slice ar ys.length cr) ys W6 (by have := HNS.out; omega) (by omega) (by omega) (by have := HY23.out; omega) HY6.out)
      clear hb6 f1 c1' hF56
      go_wp2_with fail
      refine HEN.out.mono ?_
      rintro e w7 ⟨hF7, ⟨-, re, rfl, hre⟩ | ⟨hbad, -⟩⟩
      rotate_left
      · rw [HOK.out] at hbad; cases hbad
      obtain ⟨are, cre, rfl⟩ := hre.1.form
      have HP7 := Lib.hid (HP6.out.thenFr hF7)
      have HLY := Lib.hid (by
        have hl := encF_length nm (mm : Int) ys HNS.out
        exact rlayb_calls HP7.out.1 (1 + (k : Int)) (by have := HK8.out; omega) (.slice are 64 cre) (encF nm (mm : Int) ys) (by rw [hl]; exact hre.1) (fun q e hne hA => by
          have h1 := hre.2 q e (bys_nil hne)
          have h2 := HP6.out.1.low q hA
          omega) (encF_range nm (mm : Int) ys HNS.out) (by rw [hl]; omega))
      have HF7 := Lib.hid hF7
      clear hre hF7 d0 d1 d2
      go_wp2_with fail
      refine HLY.out.mono ?_
      rintro e w8 ⟨rfl, hp8⟩
      have HP8 := Lib.hid (HP7.out.trans hp8)
      have HB8 : RowKit.Hid (w8.heap[b7]? = some (.cells #[.string nm, .int .i64 (mm : Int), .slice ar ys.length cr] 95 (0, 0))) := Lib.hid (hp8.2.1.heap (HF7.out.heap HB6.out (fun h => h)) (fun hR => by have := HM.out.low _ hR; have := HB7L.out; omega))
      have HY8 : RowKit.Hid (Sl w8 (.slice ar ys.length cr) ys.length (extCells ys)) := Lib.hid ((HY6.out.fr0 HF7.out).fr hp8.2.1 (fun q e hne hR => by have := HM.out.low _ hR; have := (HYO.out q e (extCells_ne hne)).1; omega))
      clear hp8
      go_wp2_with fail
      refine (rhead_calls u2 HU2.out _).mono ?_
      rintro e w9 ⟨rh, rfl, hF9, hr9⟩
      have HLY2 := Lib.hid (rlayb_calls (HP8.out.1.fr0 hF9) 0 (by omega) rh (headF u2) (by rw [headF_length]; exact Sl.of_owns hr9) (fun q e _ hA => by have h1 := (hr9.lt q e).1; have := HP8.out.1.low q hA; omega) (headF_range u2) (by rw [headF_length]; omega))
      have HP9 := Lib.hid (HP8.out.thenFr hF9)
      have HB9 := Lib.hid (hF9.heap HB8.out (fun h => h))
      have HY9 := Lib.hid (HY8.out.fr0 hF9)
      clear hF9 hr9
      go_wp2_with fail
      refine HLY2.out.mono ?_
      rintro e w10 ⟨rfl, hp10⟩
      have HP10 := Lib.hid (HP9.out.trans hp10)
      have hb10 := hp10.2.1.heap HB9.out (fun hR => by have := HM.out.low _ hR; have := HB7L.out; omega)
      have HY10 : RowKit.Hid (Sl w10 (.slice ar ys.length cr) ys.length (extCells ys)) := Lib.hid (HY9.out.fr hp10.2.1 (fun q e hne hR => by have := HM.out.low _ hR; have := (HYO.out q e (extCells_ne hne)).1; omega))
      have d2 : w10.cell? ⟨b7, 2, none⟩ = some (.slice ar ys.length cr) := heap_cell hb10 rfl
      clear hp10 hb10
      by_cases hr0 : r = 0
      · subst hr0
        go_wp2
        go_ret
        rw [HRES.out, if_neg (by omega)]
        exact ⟨R, rfl, HP10.out⟩
      · have hrpN : 0 < r := by omega
        have HRB := Lib.hid (rblocks_calls (.slice ar ys.length cr) ys w10 (by have := HY23.out; omega) HY10.out)
        go_wp2_with fail
        refine HRB.out.mono ?_
        rintro e w11 ⟨hF11, ov, rfl, ho⟩
        obtain ⟨ao, co, rfl⟩ := (Sl.of_owns ho).form
        have hle1 : 1 ≤ (listF ys).length := by have := HLY3.out; have := HND3.out (by omega); omega
        obtain ⟨vb, off, e0, -, hc⟩ := (Sl.of_owns ho).at (ints_ne _ 0 hle1)
        cases e0
        obtain ⟨ll, hll⟩ : ∃ ll : Nat, (listF ys).length = ll + 1 := ⟨(listF ys).length - 1, by omega⟩
        obtain ⟨lb, hlb⟩ : ∃ lb : Nat, (listF ys).getD ((needF (mm : Int)).toNat - 1) 0 = (lb : Int) ∧ lb < 32 := by
          have h1 := listF_nine ((listF ys).getD ll 0) (getD_mem (by omega))
          refine ⟨((listF ys).getD ll 0).toNat, ?_, by omega⟩
          rw [HLY3.out] at hll
          rw [show (needF (mm : Int)).toNat - 1 = ll by omega]; omega
        have x1 : w11.cell? ⟨vb, off + ll, none⟩ = some (.int .i64 (lb : Int)) := by
          have h1 := hc ll _ (ints_get (listF ys) ll (by omega))
          rw [h1]
          have h2 := hlb.1
          rw [HLY3.out] at hll
          rw [show (needF (mm : Int)).toNat - 1 = ll by omega] at h2
          simp only [List.getD_eq_getElem?_getD] at h2
          rw [List.getElem?_eq_getElem (by rw [HLY3.out]; omega), Option.getD_some] at h2
          rw [h2]
        have HLB := Lib.hid hlb
        have hlb2 := hlb.2
        have HLL := Lib.hid hll
        have hw1 : IntKind.i64.wrap (((listF ys).length : Int) - 1) = (ll : Int) := by rw [hll]; exact (IntWalk.i64_in _ (by have := listF_length ys; omega)).trans (by omega)
        have hl33 := listF_length ys
        have HP11 := Lib.hid (HP10.out.thenFr hF11)
        have hll2 : ll < (listF ys).length := by omega
        have hw2 : IntKind.i64.wrap (64 - (r : Int)) = ((64 - r : Nat) : Int) := (IntWalk.i64_in _ (by omega)).trans (by omega)
        have hw3 : IntKind.i64.wrap (6144 + (lb : Int) * 64) = 6144 + (lb : Int) * 64 := IntWalk.i64_in _ (by omega)
        have hw4 : IntKind.i64.wrap (6144 + (lb : Int) * 64 + (r : Int)) = 6144 + (lb : Int) * 64 + r := IntWalk.i64_in _ (by omega)
        have hmk2 : ∀ w : World, (Instr.makeSlice 22 (.int .i64 ((64 - r : Nat) : Int)) (.int .i64 ((64 - r : Nat) : Int))).run Tryz.prog w = .ok (.slice (some ⟨w.heap.size, 0, none⟩) (64 - r) (64 - r)) (w.alloc (.cells (bys (zs (64 - r))).toArray 5)) := fun w => mk_bytes w (64 - r) (by omega)
        have HLY4 := Lib.hid (by
          have hR := Row.new w11 5 (zs (64 - r))
          have := rlay_calls (HP11.out.1.fr0 ((Fr.refl No w11).alloc _)) (6144 + (lb : Int) * 64 + r) (.slice (some ⟨w11.heap.size, 0, none⟩) (zs (64 - r)).length (zs (64 - r)).length) (zs (64 - r)) hR.sl (fun q e _ hA => by cases e; exact Nat.lt_irrefl _ (HP11.out.1.low _ hA)) (zs_range _) (by rw [zs_length]; omega) (by omega)
          rw [zs_length] at this; exact this)
        clear hc hll hlb ho hF11
        generalize listF ys = lys at *
        generalize (64 - r : Nat) = sr at *
        go_wp2_with fail
        refine HLY4.out.mono ?_
        rintro e w12 ⟨rfl, hp12⟩
        go_wp2
        go_ret
        rw [HRES.out, if_pos (by omega), HLB.out.1]
        rw [show 6144 + 64 * (lb : Int) = 6144 + (lb : Int) * 64 by omega]
        exact ⟨R, rfl, HP11.out.trans (Rp.ahead ((Fr.refl No _).alloc _) hp12)⟩

set_option maxHeartbeats 4000000 in
set_option maxRecDepth 1000000 in
theorem rresize_shrink {w : World} {rb : Nat} {R : Nat → Prop} {F B : List Int} (h : RefAt w rb R F B) {L : List Nd} {u k : Nat} (ht : tableF B = some (L, u)) (hk : k < 8) {nm : ByteArray} {sz : Int} {xs : List (Int × Int)} (hx : L.getD k Nd.free = ⟨nm, sz, xs⟩) (hnm : nm ≠ noName) (mm : Nat) (hm : mm ≤ 1472)
    (hge : needF (mm : Int) < ((listF xs).length : Int)) {ys : List (Int × Int)} {u2 : Nat} (hr : resizeT ⟨nm, sz, xs⟩ u (mm : Int) = some (⟨nm, (mm : Int), ys⟩, u2)) :
    Calls Tryz.prog 65 #[.pointer (some ⟨rb, 0, none⟩), .int .i64 (k : Int), .int .i64 (mm : Int)] w (RsP w rb R F (resizeB B L k ⟨nm, (mm : Int), ys⟩ u2 (listF xs).length) (.int .i64 0)) := by
  have htab := (tableF_iff _ _ _).1 ht
  have hgo := good_at htab hk hx
  have hok0 := hgo.facts.1
  have hx23 := hgo.facts.2.2.2.2.1
  have hul := tableF_u ht
  dsimp only at hok0 hx23
  have HM := Lib.hid h
  have HND := Lib.hid (rnode_good h ht hk hx hnm)
  obtain ⟨nd, hnd⟩ : ∃ nd : Nat, needF (mm : Int) = nd ∧ nd ≤ 23 := ⟨(needF (mm : Int)).toNat, by rw [needF]; split <;> omega⟩
  have hnd1 := hnd.1
  have hnd2 := hnd.2
  have HNE := Lib.hid (fun w1 => (by
    have := rneed_calls (mm : Int) w1 (by omega) (by omega)
    rw [hnd1] at this; exact this : Calls Tryz.prog 100 #[.int .i64 (mm : Int)] w1 fun e w' => e = .returned (.int .i64 (nd : Int)) ∧ w1 = w'))
  obtain ⟨hl, hhl⟩ : ∃ hl, (listF xs).length = hl := ⟨_, rfl⟩
  rw [hhl, hnd1] at hge
  have hl33 := listF_length xs
  rw [hhl] at hl33
  have q0 : decide ((mm : Int) < 0) = false := decide_eq_false (by omega)
  have q1 : decide ((1472 : Int) < (mm : Int)) = false := decide_eq_false (by omega)
  have hway := (resize_ways (x := ⟨nm, sz, xs⟩) (u := u) (m := (mm : Int)) hok0 (by rw [hnd1]; omega)).2 (by rw [hnd1]; dsimp only; rw [hhl]; exact hge)
  obtain ⟨x', u'', hr', hway, -, -⟩ := hway
  rw [hr] at hr'
  cases hr'
  dsimp only at hway
  rw [hnd1] at hway
  rw [hhl]
  obtain ⟨hR, -⟩ := resize_tab h.blen htab hk hx hnm (m := (mm : Int)) (by omega) (by omega) hr
  have hHR := resize_ref h.blen htab hk (x' := ⟨nm, (mm : Int), ys⟩) u2 (mm : Int) (by omega) hR.ok rfl hR.len (listF xs).length
  dsimp only at hHR
  have hlen3 := hR.len
  dsimp only at hlen3
  have hok := hR.ok
  dsimp only at hok
  obtain ⟨-, hns15, -, -, hy23⟩ := inoOk_small hok
  have hu2 : u2 < 2 ^ 32 := by rw [hR.used]; exact usedN_lt _
  obtain ⟨r, hr1⟩ : ∃ r : Nat, (mm : Int) % 64 = r := ⟨((mm : Int) % 64).toNat, by omega⟩
  have hr2 : Int.tmod (mm : Int) 64 = r := by rw [Int.tmod_eq_emod_of_nonneg (by omega)]; exact hr1
  have hr64 : r < 64 := by omega
  rw [hr1, show (64 - (r : Int)).toNat = 64 - r by omega, hhl] at hHR
  have HND3 : RowKit.Hid (0 < (r : Int) → 1 ≤ (needF (mm : Int)).toNat) := Lib.hid (fun hp => by rw [needF, if_neg (by omega)]; omega)
  have HLY3 := Lib.hid hlen3
  have HOK := Lib.hid hok
  have HNS := Lib.hid hns15
  have HY23 := Lib.hid hy23
  have HU2 := Lib.hid hu2
  have HK8 := Lib.hid hk
  have HHL := Lib.hid hhl
  obtain ⟨B1, hB1⟩ : ∃ B1, zeroN B ((listF ys).drop hl) = B1 := ⟨_, rfl⟩
  have hz0 : B1 = B := by rw [← hB1, List.drop_of_length_le (by rw [hlen3, hnd1]; omega), zeroN_nil]
  rw [hB1] at hHR
  have HRES := Lib.hid hHR
  have HZ0 := Lib.hid hz0
  have hltN : ¬ hl ≤ nd := by omega
  have HGR := Lib.hid (fun w1 v (hv : Sl w1 v xs.length (extCells xs)) => (by
    have := rshrinkT_calls v xs u (nd : Int) w1 (by omega) hul (by omega) (by omega) hv
    rw [hway] at this; exact this))
  have HBC := Lib.hid (fun w1 v (hv : Sl w1 v xs.length (extCells xs)) => rblocks_len v xs w1 (by omega) hv hhl)
  clear h ht hk hx hnm hge hr htab hgo hok0 hul hnd hnd1 hway hhl hR hHR hlen3 hok hns15 hy23 hu2 hB1 hz0
  go_enter Tryz.func65, Tryz.ntmps65
  go_wp2_with fail
  refine HND.out.mono ?_
  rintro e w1 ⟨a, c, rfl, hF1, hs1⟩
  have HS1 := Lib.hid hs1.1
  clear hs1
  have hFa : Fr No w1 (w1.alloc (Obj.cells #[.string nm, .int .i64 sz, .slice a xs.length c] 95)) := (Fr.refl _ _).alloc _
  go_wp2_with fail
  refine (HBC.out _ _ (HS1.out.fr0 hFa)).mono ?_
  rintro e w2 ⟨hF2, ov, bov, rfl, ho⟩
  obtain ⟨ao, co, rfl⟩ := (Sl.of_owns ho).form
  have HBX2 : RowKit.Hid (w2.heap[w1.heap.size]? = some (.cells #[.string nm, .int .i64 sz, .slice a xs.length c] 95 (0, 0))) := Lib.hid (hF2.heap (heap_new w1 _) (fun h => h))
  have c2 : w2.cell? ⟨w1.heap.size, 2, none⟩ = some (.slice a xs.length c) := heap_cell HBX2.out rfl
  have HF2 := Lib.hid (hFa.trans hF2)
  have HF02 := Lib.hid (hF1.trans (hFa.trans hF2))
  have HB7L : RowKit.Hid (w.heap.size ≤ w1.heap.size) := Lib.hid hF1.size
  have HB72 : RowKit.Hid (w1.heap.size < w2.heap.size) := Lib.hid (heap_lt HBX2.out)
  clear hFa hF2 hF1 ho
  generalize hb7 : w1.heap.size = b7 at *
  go_wp2_with fail
  refine (HNE.out _).mono ?_
  rintro e w3 ⟨rfl, rfl⟩
  go_wp2_with fail
  refine (HGR.out _ _ (HS1.out.fr0 HF2.out)).mono ?_
  rintro e wr ⟨hF4, rr, rfl, hrr⟩
  obtain ⟨ar, cr, rfl⟩ := (Sl.of_owns hrr).form
  have HYx := Lib.hid (Sl.of_owns hrr)
  have HYO : RowKit.Hid (∀ q, (Value.slice ar ys.length cr).ownBlock = some q → ys ≠ [] → w.heap.size ≤ q ∧ q ≠ b7) := Lib.hid (fun q e _ => by
    have h1 := (hrr.lt q e).1
    have h2 := HB72.out
    have h3 := HB7L.out
    exact ⟨by omega, by omega⟩)
  have HBx := Lib.hid (hF4.heap HBX2.out (fun h => h))
  have HPx : RowKit.Hid (Rp w rb R F B1 wr R) := Lib.hid (by rw [HZ0.out]; exact (Rp.refl HM.out).thenFr (HF02.out.trans hF4))
  clear hrr hF4 c2
  have c2 : wr.cell? ⟨b7, 2, none⟩ = some (.slice a xs.length c) := heap_cell HBx.out rfl
  have f2 := heap_frozen (o := 2) HBx.out
  have hb5 := heap_setAt (cs := [.string nm, .int .i64 sz, .slice a xs.length c]) HBx.out 2 (.slice ar ys.length cr)
  have hF5s := (Fr.refl (fun k => k = b7) wr).setCell (p := ⟨b7, 2, none⟩) (fun _ => rfl) (.slice ar ys.length cr)
  go_upto_region 22 with fail
  generalize wr.setCell ⟨b7, 2, none⟩ (.slice ar ys.length cr) = W5 at *
  have HB5 : RowKit.Hid (W5.heap[b7]? = some (.cells #[.string nm, .int .i64 sz, .slice ar ys.length cr] 95 (0, 0))) := Lib.hid hb5
  have HP5 : RowKit.Hid (Rp w rb R F B1 W5 R) := Lib.hid ⟨HPx.out.1.fr hF5s (fun k e hR => by subst e; have := HM.out.low _ hR; have := HB7L.out; omega), HPx.out.2.1.trans' hF5s (fun i hi e => by have := HB7L.out; omega), HPx.out.2.2⟩
  have HY5 : RowKit.Hid (Sl W5 (.slice ar ys.length cr) ys.length (extCells ys)) := Lib.hid (HYx.out.fr hF5s (fun q e hne e' => (HYO.out q e (extCells_ne hne)).2 e'))
  clear c2 f2 hb5 hF5s

  have hk8 := HK8.out
  have hb6 := heap_setAt (cs := [.string nm, .int .i64 sz, .slice ar ys.length cr]) HB5.out 1 (.int .i64 (mm : Int))
  have f1 := heap_frozen (o := 1) HB5.out
  have c1' := heap_cell (o := 1) HB5.out rfl
  have hF56 := (Fr.refl (fun k => k = b7) W5).setCell (p := ⟨b7, 1, none⟩) (fun _ => rfl) (.int .i64 (mm : Int))
  go_upto_region 23 with fail
  generalize W5.setCell ⟨b7, 1, none⟩ (.int .i64 (mm : Int)) = W6 at *
  have d0 : W6.cell? ⟨b7, 0, none⟩ = some (.string nm) := heap_cell hb6 rfl
  have d1 : W6.cell? ⟨b7, 1, none⟩ = some (.int .i64 (mm : Int)) := heap_cell hb6 rfl
  have d2 : W6.cell? ⟨b7, 2, none⟩ = some (.slice ar ys.length cr) := heap_cell hb6 rfl
  have HP6 : RowKit.Hid (Rp w rb R F B1 W6 R) := Lib.hid ⟨HP5.out.1.fr hF56 (fun k e hR => by subst e; have := HM.out.low _ hR; have := HB7L.out; omega), HP5.out.2.1.trans' hF56 (fun i hi e => by have := HB7L.out; omega), HP5.out.2.2⟩
  have HY6 : RowKit.Hid (Sl W6 (.slice ar ys.length cr) ys.length (extCells ys)) := Lib.hid (HY5.out.fr hF56 (fun q e hne e' => (HYO.out q e (extCells_ne hne)).2 e'))
  have HB6 : RowKit.Hid (W6.heap[b7]? = some (.cells #[.string nm, .int .i64 (mm : Int), .slice ar ys.length cr] 95 (0, 0))) := Lib.hid hb6
  have HEN := Lib.hid (rencode_calls nm (mm : Int) (.slice ar ys.length cr) ys W6 (by have := HNS.out; omega) (by omega) (by omega) (by have := HY23.out; omega) HY6.out)
  clear hb6 f1 c1' hF56
  go_wp2_with fail
  refine HEN.out.mono ?_
  rintro e w7 ⟨hF7, ⟨-, re, rfl, hre⟩ | ⟨hbad, -⟩⟩
  rotate_left
  · rw [HOK.out] at hbad; cases hbad
  obtain ⟨are, cre, rfl⟩ := hre.1.form
  have HP7 := Lib.hid (HP6.out.thenFr hF7)
  have HLY := Lib.hid (by
    have hl := encF_length nm (mm : Int) ys HNS.out
    exact rlayb_calls HP7.out.1 (1 + (k : Int)) (by have := HK8.out; omega) (.slice are 64 cre) (encF nm (mm : Int) ys) (by rw [hl]; exact hre.1) (fun q e hne hA => by
      have h1 := hre.2 q e (bys_nil hne)
      have h2 := HP6.out.1.low q hA
      omega) (encF_range nm (mm : Int) ys HNS.out) (by rw [hl]; omega))
  have HF7 := Lib.hid hF7
  clear hre hF7 d0 d1 d2
  go_wp2_with fail
  refine HLY.out.mono ?_
  rintro e w8 ⟨rfl, hp8⟩
  have HP8 := Lib.hid (HP7.out.trans hp8)
  have HB8 : RowKit.Hid (w8.heap[b7]? = some (.cells #[.string nm, .int .i64 (mm : Int), .slice ar ys.length cr] 95 (0, 0))) := Lib.hid (hp8.2.1.heap (HF7.out.heap HB6.out (fun h => h)) (fun hR => by have := HM.out.low _ hR; have := HB7L.out; omega))
  have HY8 : RowKit.Hid (Sl w8 (.slice ar ys.length cr) ys.length (extCells ys)) := Lib.hid ((HY6.out.fr0 HF7.out).fr hp8.2.1 (fun q e hne hR => by have := HM.out.low _ hR; have := (HYO.out q e (extCells_ne hne)).1; omega))
  clear hp8
  go_wp2_with fail
  refine (rhead_calls u2 HU2.out _).mono ?_
  rintro e w9 ⟨rh, rfl, hF9, hr9⟩
  have HLY2 := Lib.hid (rlayb_calls (HP8.out.1.fr0 hF9) 0 (by omega) rh (headF u2) (by rw [headF_length]; exact Sl.of_owns hr9) (fun q e _ hA => by have h1 := (hr9.lt q e).1; have := HP8.out.1.low q hA; omega) (headF_range u2) (by rw [headF_length]; omega))
  have HP9 := Lib.hid (HP8.out.thenFr hF9)
  have HB9 := Lib.hid (hF9.heap HB8.out (fun h => h))
  have HY9 := Lib.hid (HY8.out.fr0 hF9)
  clear hF9 hr9
  go_wp2_with fail
  refine HLY2.out.mono ?_
  rintro e w10 ⟨rfl, hp10⟩
  have HP10 := Lib.hid (HP9.out.trans hp10)
  have hb10 := hp10.2.1.heap HB9.out (fun hR => by have := HM.out.low _ hR; have := HB7L.out; omega)
  have HY10 : RowKit.Hid (Sl w10 (.slice ar ys.length cr) ys.length (extCells ys)) := Lib.hid (HY9.out.fr hp10.2.1 (fun q e hne hR => by have := HM.out.low _ hR; have := (HYO.out q e (extCells_ne hne)).1; omega))
  have d2 : w10.cell? ⟨b7, 2, none⟩ = some (.slice ar ys.length cr) := heap_cell hb10 rfl
  clear hp10 hb10
  by_cases hr0 : r = 0
  · subst hr0
    go_wp2
    go_ret
    rw [HRES.out, if_neg (by omega)]
    exact ⟨R, rfl, HP10.out⟩
  · have hrpN : 0 < r := by omega
    have HRB := Lib.hid (rblocks_calls (.slice ar ys.length cr) ys w10 (by have := HY23.out; omega) HY10.out)
    go_wp2_with fail
    refine HRB.out.mono ?_
    rintro e w11 ⟨hF11, ov, rfl, ho⟩
    obtain ⟨ao, co, rfl⟩ := (Sl.of_owns ho).form
    have hle1 : 1 ≤ (listF ys).length := by have := HLY3.out; have := HND3.out (by omega); omega
    obtain ⟨vb, off, e0, -, hc⟩ := (Sl.of_owns ho).at (ints_ne _ 0 hle1)
    cases e0
    obtain ⟨ll, hll⟩ : ∃ ll : Nat, (listF ys).length = ll + 1 := ⟨(listF ys).length - 1, by omega⟩
    obtain ⟨lb, hlb⟩ : ∃ lb : Nat, (listF ys).getD ((needF (mm : Int)).toNat - 1) 0 = (lb : Int) ∧ lb < 32 := by
      have h1 := listF_nine ((listF ys).getD ll 0) (getD_mem (by omega))
      refine ⟨((listF ys).getD ll 0).toNat, ?_, by omega⟩
      rw [HLY3.out] at hll
      rw [show (needF (mm : Int)).toNat - 1 = ll by omega]; omega
    have x1 : w11.cell? ⟨vb, off + ll, none⟩ = some (.int .i64 (lb : Int)) := by
      have h1 := hc ll _ (ints_get (listF ys) ll (by omega))
      rw [h1]
      have h2 := hlb.1
      rw [HLY3.out] at hll
      rw [show (needF (mm : Int)).toNat - 1 = ll by omega] at h2
      simp only [List.getD_eq_getElem?_getD] at h2
      rw [List.getElem?_eq_getElem (by rw [HLY3.out]; omega), Option.getD_some] at h2
      rw [h2]
    have HLB := Lib.hid hlb
    have hlb2 := hlb.2
    have HLL := Lib.hid hll
    have hw1 : IntKind.i64.wrap (((listF ys).length : Int) - 1) = (ll : Int) := by rw [hll]; exact (IntWalk.i64_in _ (by have := listF_length ys; omega)).trans (by omega)
    have hl33 := listF_length ys
    have HP11 := Lib.hid (HP10.out.thenFr hF11)
    have hll2 : ll < (listF ys).length := by omega
    have hw2 : IntKind.i64.wrap (64 - (r : Int)) = ((64 - r : Nat) : Int) := (IntWalk.i64_in _ (by omega)).trans (by omega)
    have hw3 : IntKind.i64.wrap (6144 + (lb : Int) * 64) = 6144 + (lb : Int) * 64 := IntWalk.i64_in _ (by omega)
    have hw4 : IntKind.i64.wrap (6144 + (lb : Int) * 64 + (r : Int)) = 6144 + (lb : Int) * 64 + r := IntWalk.i64_in _ (by omega)
    have hmk2 : ∀ w : World, (Instr.makeSlice 22 (.int .i64 ((64 - r : Nat) : Int)) (.int .i64 ((64 - r : Nat) : Int))).run Tryz.prog w = .ok (.slice (some ⟨w.heap.size, 0, none⟩) (64 - r) (64 - r)) (w.alloc (.cells (bys (zs (64 - r))).toArray 5)) := fun w => mk_bytes w (64 - r) (by omega)
    have HLY4 := Lib.hid (by
      have hR := Row.new w11 5 (zs (64 - r))
      have := rlay_calls (HP11.out.1.fr0 ((Fr.refl No w11).alloc _)) (6144 + (lb : Int) * 64 + r) (.slice (some ⟨w11.heap.size, 0, none⟩) (zs (64 - r)).length (zs (64 - r)).length) (zs (64 - r)) hR.sl (fun q e _ hA => by cases e; exact Nat.lt_irrefl _ (HP11.out.1.low _ hA)) (zs_range _) (by rw [zs_length]; omega) (by omega)
      rw [zs_length] at this; exact this)
    clear hc hll hlb ho hF11
    generalize listF ys = lys at *
    generalize (64 - r : Nat) = sr at *
    go_wp2_with fail
    refine HLY4.out.mono ?_
    rintro e w12 ⟨rfl, hp12⟩
    go_wp2
    go_ret
    rw [HRES.out, if_pos (by omega), HLB.out.1]
    rw [show 6144 + 64 * (lb : Int) = 6144 + (lb : Int) * 64 by omega]
    exact ⟨R, rfl, HP11.out.trans (Rp.ahead ((Fr.refl No _).alloc _) hp12)⟩
end Go.Proofs.YtoajnmbbgbpbgaaGreat
