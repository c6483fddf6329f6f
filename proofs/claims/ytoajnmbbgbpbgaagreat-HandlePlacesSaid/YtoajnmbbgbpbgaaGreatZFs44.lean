/-
  Chapter 12, the reference: Delete, Rename.
-/
import Derived.Test.YtoajnmbbgbpbgaaGreatZFs43
namespace Go.Proofs.YtoajnmbbgbpbgaaGreat
set_option linter.unusedVariables false
set_option linter.unusedSimpArgs false
open Go.RowKit Go.Shelf Go.Maps

theorem rnode_good {w : World} {rb : Nat} {R : Nat → Prop} {F B : List Int} (h : RefAt w rb R F B) {L : List Nd} {u k : Nat} (ht : tableF B = some (L, u)) (hk : k < 8) {nm : ByteArray} {sz : Int} {xs : List (Int × Int)} (hx : L.getD k Nd.free = ⟨nm, sz, xs⟩) (hnm : nm ≠ noName) :
    Calls Tryz.prog 84 #[.pointer (some ⟨rb, 0, none⟩), .int .i64 (k : Int)] w fun e w' => ∃ a c, e = .returned (.tuple #[.agg #[.string nm, .int .i64 sz, .slice a xs.length c], .int .u32 (u : Int), .int .i64 0]) ∧ Fr No w w' ∧ Sn w.heap.size w' (.slice a xs.length c) xs.length (extCells xs) := by
  refine (rnode_calls h k).mono ?_
  rintro e w1 ⟨hF, ⟨x, h0, hE, rfl⟩ | ⟨L', u', k', ht', hk', e1, hE, hn', a, c, rfl, hs⟩⟩
  · rw [openE_some ht, if_neg (by omega), Int.toNat_natCast, hx, if_neg hnm] at hE; omega
  · obtain rfl : k = k' := by omega
    rw [ht] at ht'; cases ht'
    rw [hx] at hs
    exact ⟨a, c, by rw [hx], hF, hs⟩
theorem good_at {B : List Int} {L : List Nd} {u k : Nat} (h : Tab B L u) (hk : k < 8) {nm : ByteArray} {sz : Int} {xs : List (Int × Int)} (hx : L.getD k Nd.free = ⟨nm, sz, xs⟩) : (⟨nm, sz, xs⟩ : Nd).good := by
  rw [← hx, getD_get (by rw [h.len]; exact hk)]
  exact h.good _ (List.getElem_mem _)
theorem ndB_free : ndB Nd.free = zs 64 := if_pos rfl

set_option maxHeartbeats 2000000 in
set_option maxRecDepth 1000000 in
theorem rdelete_calls {w : World} {rb : Nat} {R : Nat → Prop} {F B : List Int} (h : RefAt w rb R F B) (s : ByteArray) (hs : s.size ≤ 140737488355328) :
    Calls Tryz.prog 79 #[.pointer (some ⟨rb, 0, none⟩), .string s] w (RsP w rb R F (deleteR B s).1 (.int .i64 (deleteR B s).2)) := by
  have HFI0 := rfind12_calls h s hs
  have HM := Lib.hid h
  rcases find_facts B s with ⟨x, h0, hf, hd⟩ | ⟨L, u, k, ht, hk, hfi, hnm, hn, hf, hd⟩
  · rw [hf] at HFI0
    rw [hd]
    have HFI := Lib.hid HFI0
    have q1 : (x != 0) = true := by simp; omega
    clear h hf hd HFI0 hs h0
    go_enter Tryz.func79, Tryz.ntmps79
    go_wp2_with fail
    refine HFI.out.mono ?_
    rintro e w1 ⟨rfl, hF⟩
    go_wp2
    go_ret
    exact ⟨R, rfl, (Rp.refl HM.out).thenFr hF⟩
  · rw [hf] at HFI0
    rw [hd]
    have HFI := Lib.hid HFI0
    obtain ⟨nm, sz, xs, hx⟩ : ∃ nm sz xs, L.getD k Nd.free = ⟨nm, sz, xs⟩ := ⟨_, _, _, rfl⟩
    rw [hx] at hnm
    have htab := (tableF_iff _ _ _).1 ht
    have hg := (good_at htab hk hx).facts
    have hul := tableF_u ht
    have HND := Lib.hid (fun w1 (hF : Fr No w w1) => rnode_good (h.fr0 hF) ht hk hx (by rw [show nm = s from hnm]; exact nameF_ne hn))
    have hkL : k < L.length := by rw [htab.len]; exact hk
    have hres : layT B k (L.set k Nd.free) (dif u (maskX (L.getD k Nd.free))) = layF (layF B (6144 + 64 * (1 + (k : Int))) (zs 64)) (6144 + 64 * 0) (headF (dif u (maskN (listF xs)))) := by
      rw [layT, getD_set hkL, ndB_free, hx, show 6144 + 64 * ((k + 1 : Nat) : Int) = 6144 + 64 * (1 + (k : Int)) by omega]; rfl
    have HRES := Lib.hid hres
    have hxl := hg.2.2.2.2.1
    have hmk : ∀ w : World, (Instr.makeSlice 22 (.int .i64 64) (.int .i64 64)).run Tryz.prog w = .ok (.slice (some ⟨w.heap.size, 0, none⟩) 64 64) (w.alloc (.cells (bys (zs 64)).toArray 5)) := fun w => mk_bytes w 64 (by omega)
    have HZL := Lib.hid (zs_length 64)
    have HZR := Lib.hid (zs_range 64)
    have HNW := Lib.hid (fun (w1 : World) => Row.new w1 5 (zs 64))
    dsimp only at hnm
    have hm := maskL_nat (listF xs) (fun b hb => (listF_range xs b hb).2)
    have hdl := andNot_u32 u (maskN (listF xs))
    have HDL := Lib.hid (dif_lt u (maskN (listF xs)))
    have HBL := Lib.hid h.blen
    clear h hf hd HFI0 hs ht hfi hnm hn hx htab hg hres hul hm hkL
    generalize dif u (maskN (listF xs)) = du at *
    generalize zs 64 = z at *
    have HMS := Lib.hid (fun w1 (v : Value) (hv : Sl w1 v (listF xs).length (ints (listF xs))) => set_nat v (listF xs) w1 (by have := listF_length xs; omega) (listF_range xs) hv)
    go_enter Tryz.func79, Tryz.ntmps79
    go_wp2_with fail
    refine HFI.out.mono ?_
    rintro e w1 ⟨rfl, hF1⟩
    go_wp2_with fail
    refine (HND.out _ hF1).mono ?_
    rintro e w2 ⟨a, c, rfl, hF2, hs2⟩
    have hF02 := hF1.trans hF2
    have HS2 := Lib.hid hs2.1
    clear hs2 hF1 hF2 HND HFI
    have HRB := Lib.hid (fun w3 (hF : Fr No w2 w3) => rblocks_calls (.slice a xs.length c) xs w3 (by omega) (HS2.out.fr0 hF))
    go_wp2_with fail
    refine (HRB.out _ ((Fr.refl _ _).alloc _)).mono ?_
    rintro e w3 ⟨hF3, r, rfl, hr⟩
    obtain ⟨ar, cr, rfl⟩ := (Sl.of_owns hr).form
    have HF03 := Lib.hid ((hF02.alloc (Obj.cells #[.string nm, .int .i64 sz, .slice a xs.length c] 95)).trans hF3)
    have HR3 := Lib.hid (Sl.of_owns hr)
    have HRL : RowKit.Hid (∀ q, (Value.slice ar (listF xs).length cr).ownBlock = some q → w.heap.size ≤ q) := Lib.hid (fun q e => by
      have h1 := (hr.lt q e).1
      have h2 := (hF02.alloc (Obj.cells #[.string nm, .int .i64 sz, .slice a xs.length c] 95)).size
      omega)
    clear hr hF3 hF02
    have HLY := Lib.hid (fun w4 b (hF : Fr No w w4) (hb : w.heap.size ≤ b) (hR : Row w4 b 5 z) => rlayb_calls (HM.out.fr0 hF) (1 + (k : Int)) (by omega) (.slice (some ⟨b, 0, none⟩) z.length z.length) z hR.sl (fun q e _ hA => by cases e; have h9 : b < w.heap.size := HM.out.low b hA; omega) HZR.out (by rw [HZL.out]; omega))
    rw [HZL.out] at HLY
    go_wp2_with fail
    refine (HLY.out _ _ (HF03.out.alloc _) HF03.out.size (HNW.out _)).mono ?_
    rintro e w4 ⟨rfl, hp4⟩
    have HP4 := Lib.hid (((Rp.refl HM.out).thenFr (HF03.out.alloc (Obj.cells (bys z).toArray 5))).trans hp4)
    have hr4 := (HR3.out.fr0 ((Fr.refl No w3).alloc (Obj.cells (bys z).toArray 5))).fr hp4.2.1 (fun q e hne hA => by
      have := HM.out.low q hA
      have := HRL.out q e
      omega)
    clear hp4
    go_wp2_with fail
    refine (HMS.out _ _ hr4).mono ?_
    rintro e w5 ⟨rfl, rfl⟩
    clear hr4
    go_wp2_with fail
    refine (rhead_calls du HDL.out _).mono ?_
    rintro e w6 ⟨rh, rfl, hF6, hr6⟩
    have HLY2 := Lib.hid (rlayb_calls (HP4.out.1.fr0 hF6) 0 (by omega) rh (headF du) (by rw [headF_length]; exact Sl.of_owns hr6) (fun q e _ hA => by have h1 := (hr6.lt q e).1; have := HP4.out.1.low q hA; omega) (headF_range du) (by rw [headF_length]; omega))
    have HP6 := Lib.hid (HP4.out.thenFr hF6)
    clear hF6 hr6
    go_wp2_with fail
    refine HLY2.out.mono ?_
    rintro e w7 ⟨rfl, hp7⟩
    go_wp2
    go_ret
    rw [HRES.out]
    exact ⟨R, rfl, HP6.out.trans hp7⟩
end Go.Proofs.YtoajnmbbgbpbgaaGreat
