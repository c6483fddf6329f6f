/-
  Chapter 12, the reference: Resize whole; content, Read.
-/
import Derived.Test.YtoajnmbbgbpbgaaGreatZFs47
namespace Go.Proofs.YtoajnmbbgbpbgaaGreat
set_option linter.unusedVariables false
set_option linter.unusedSimpArgs false
open Go.RowKit Go.Shelf Go.Maps

set_option maxHeartbeats 1000000 in
set_option maxRecDepth 1000000 in
theorem rresize12_calls {w : World} {rb : Nat} {R : Nat → Prop} {F B : List Int} (h : RefAt w rb R F B) (n m : Int) :
    Calls Tryz.prog 65 #[.pointer (some ⟨rb, 0, none⟩), .int .i64 n, .int .i64 m] w (RsP w rb R F (resizeR B n m).1 (.int .i64 (resizeR B n m).2)) := by
  rcases open_cases B n with ⟨x, hx, h0⟩ | ⟨hx, L, u, k, ht, hk, rfl, hnm⟩
  · exact rresize_bad h n m (.inl ⟨x, hx, h0⟩)
  · by_cases hm : m < 0 ∨ 1472 < m
    · exact rresize_bad h k m (.inr hm)
    · obtain ⟨mm, rfl⟩ := Int.eq_ofNat_of_zero_le (show 0 ≤ m by omega)
      obtain ⟨nm, sz, xs, hxx⟩ : ∃ nm sz xs, L.getD k Nd.free = ⟨nm, sz, xs⟩ := ⟨_, _, _, rfl⟩
      have hnm' := hnm
      rw [hxx] at hnm'
      have hnd : 0 ≤ needF (mm : Int) := by rw [needF]; split <;> omega
      have hway := resize_ways (x := ⟨nm, sz, xs⟩) (u := u) (m := (mm : Int)) (good_at ((tableF_iff _ _ _).1 ht) hk hxx).facts.1 hnd
      dsimp only at hway
      rw [resizeR_good ht hk hnm, if_neg (by omega), if_neg (by omega)]
      by_cases hge : ((listF xs).length : Int) ≤ needF (mm : Int)
      · have hw := hway.1 hge
        cases hr : resizeT ⟨nm, sz, xs⟩ u (mm : Int) with
        | none =>
          have hr' : resizeT (L.getD k Nd.free) u (mm : Int) = none := by rw [hxx]; exact hr
          rw [resizeW_none (B := B) hr']
          dsimp only
          exact rresize_none h ht hk hxx hnm' mm (by omega) hge hr
        | some p =>
          obtain ⟨⟨nm2, sz2, ys⟩, u2⟩ := p
          rw [hr] at hw
          obtain ⟨-, e1, e2⟩ := hw
          dsimp only at e1 e2
          subst e1; subst e2
          have hr' : resizeT (L.getD k Nd.free) u (mm : Int) = some (⟨nm2, (mm : Int), ys⟩, u2) := by rw [hxx]; exact hr
          rw [resizeW_some (B := B) hr', hxx]
          dsimp only
          exact rresize_grow h ht hk hxx hnm' mm (by omega) hge hr
      · obtain ⟨⟨nm2, sz2, ys⟩, u2, hr, -, e1, e2⟩ := hway.2 (by omega)
        dsimp only at e1 e2
        subst e1; subst e2
        have hr' : resizeT (L.getD k Nd.free) u (mm : Int) = some (⟨nm2, (mm : Int), ys⟩, u2) := by rw [hxx]; exact hr
        rw [resizeW_some (B := B) hr', hxx]
        dsimp only
        exact rresize_shrink h ht hk hxx hnm' mm (by omega) (by omega) hr

theorem addrF_block {xs : List (Int × Int)} {q : Nat} : addrF xs (64 * q) = 6144 + 64 * (listF xs).getD q 0 := by
  rw [addrF, show 64 * q / 64 = q by omega, show 64 * q % 64 = 0 by omega]; omega

set_option maxHeartbeats 1000000 in
set_option maxRecDepth 1000000 in
theorem rcontent_calls {w : World} {rb : Nat} {R : Nat → Prop} {F B : List Int} (h : RefAt w rb R F B) (s : ByteArray) (n : Int) (v : Value) (xs : List (Int × Int)) (hv : Sl w v xs.length (extCells xs)) (hxl : xs.length ≤ 23) :
    Calls Tryz.prog 105 #[.pointer (some ⟨rb, 0, none⟩), .agg #[.string s, .int .i64 n, v]] w fun e w' => ∃ r, e = .returned r ∧ Fr No w w' ∧ w'.ownsRow w.heap.size 5 1 r (64 * (listF xs).length) (bys (contF B xs 0 (64 * (listF xs).length))) := by
  obtain ⟨av, cv, rfl⟩ := hv.form
  have HM := Lib.hid h
  have hFa : Fr No w (w.alloc (Obj.cells #[.string s, .int .i64 n, .slice av xs.length cv] 95)) := (Fr.refl _ _).alloc _
  obtain ⟨yl, hyl⟩ : ∃ yl, (listF xs).length = yl := ⟨_, rfl⟩
  have HRB := Lib.hid (rblocks_len (.slice av xs.length cv) xs _ (by omega) (hv.fr0 hFa) hyl)
  have HFA := Lib.hid hFa
  have HYL := Lib.hid hyl
  have hyb : yl ≤ 33 := by rw [← hyl]; exact listF_length xs
  have hbl := h.blen
  have HC := Lib.hid (fun q (hq : q < yl) => (by
    have hql : q < (listF xs).length := by rw [hyl]; exact hq
    obtain ⟨b, hb⟩ : ∃ b : Nat, (listF xs)[q] = (b : Int) ∧ b < 32 := ⟨((listF xs)[q]).toNat, by have := listF_range xs _ (List.getElem_mem hql); omega⟩
    refine ⟨b, ?_, hb.2, ?_⟩
    · rw [ints_get _ _ hql, hb.1]
    · have h1 := contF_snoc (B := B) hbl (xs := xs) (o := 0) (i := 64 * q) (n := 64) (by omega) (by rw [show (0 + 64 * q) / 64 = q by omega]; exact hql)
      rw [Nat.zero_add, addrF_block, show (listF xs).getD q 0 = (b : Int) by
        simp only [List.getD_eq_getElem?_getD]
        rw [List.getElem?_eq_getElem hql, Option.getD_some, hb.1]] at h1
      rw [show 64 * (q + 1) = 64 * q + 64 by omega, h1]; rfl :
    ∃ b : Nat, (ints (listF xs))[q]? = some (.int .i64 (b : Int)) ∧ b < 32 ∧ contF B xs 0 (64 * (q + 1)) = contF B xs 0 (64 * q) ++ blk B b))
  rw [hyl]
  clear h hv hFa hyl hbl
  go_enter Tryz.func105, Tryz.ntmps105
  go_wp2_with fail
  refine HRB.out.mono ?_
  rintro e w1 ⟨hF1, ov, bo, rfl, ho⟩
  obtain ⟨ao, co, rfl⟩ := (Sl.of_owns ho).form
  have HO := Lib.hid (Sl.of_owns ho)
  have HF1 := Lib.hid (HFA.out.trans hF1)
  clear ho hF1
  go_wp2_with fail
  go_loopw [5, 18] (fun r i wr => ∃ q : Nat, q ≤ yl ∧ i = .int .i64 q ∧ Fr No w1 wr ∧ wr.ownsRow w1.heap.size 5 1 r (64 * q) (bys (contF B xs 0 (64 * q)))) (fun _ i _ => yl - (intOf i).toNat)
  case atStart => exact ⟨0, Nat.zero_le _, rfl, Fr.refl _ _, World.ownsRow_nil _ _ _ _⟩
  case round =>
    obtain ⟨q, hq, rfl, hF, hr⟩ := hrel
    obtain ⟨a5, c5, rfl⟩ := (Sl.of_owns hr).form
    by_cases hqt : q < yl
    · obtain ⟨b, hb1, hb2, hb3⟩ := HC.out q hqt
      obtain ⟨vb, off, rfl, -, hc⟩ := (HO.out.fr0 hF).at (by intro e; rw [e] at hb1; simp at hb1)
      have x1 : wr.cell? ⟨vb, off + q, none⟩ = some (.int .i64 (b : Int)) := hc _ _ hb1
      have HBK := Lib.hid (rblock_calls (HM.out.fr0 (HF1.out.trans hF)) b (by omega))
      have HR := Lib.hid hr
      have HF := Lib.hid hF
      have HB3 := Lib.hid hb3
      have hws := hF.size
      clear hc hb1 hb3 hr hF
      go_wp2_with fail
      refine HBK.out.mono ?_
      rintro e w2 ⟨bb, rfl, hF2, hR2, -⟩
      have hsl : Sl w2 (.slice (some ⟨bb, 0, none⟩) 64 64) 64 (bys (blk B b)) := by have := hR2.sl; rw [blk_length] at this; exact this
      have hr2 := ownsRow_fr HR.out hF2 (fun _ _ h => h)
      have hbl2 := blk_length B b
      have hsz2 := hF2.size
      go_wp2_with (at_builtin; refine append_lie el_u8 rfl _ _ rfl w1.heap.size (.slice a5 (64 * q) c5) (64 * q) (bys (contF B xs 0 (64 * q))) rfl hr2 rfl hsl (by rw [bys_len, hbl2]) (bys_one _) (by unfold maxLen; omega) (by omega) (by omega) ?_; intro v4 w4 hown4 hgrow4 hlie4)
      go_roundw
      case rel =>
        refine ⟨q + 1, by omega, by go_num, (HF.out.trans hF2).trans' ((Fr.refl (fun k => (Value.slice a5 (64 * q) c5).ownBlock = some k) w2).grown hgrow4 (fun k e _ => e)) (fun i hi e => by have := (hr2.lt i e).1; omega), ?_⟩
        rw [HB3.out, bys_app, show 64 * (q + 1) = 64 * q + 64 by omega]
        exact hown4
      case measure => simp [intOf]; omega
    · obtain rfl : q = yl := by omega
      have HR := Lib.hid hr
      have HF := Lib.hid hF
      clear hr hF
      go_wp2
      go_ret
      exact ⟨_, rfl, HF1.out.trans HF.out, ownsRow_base HR.out HF1.out.size⟩
end Go.Proofs.YtoajnmbbgbpbgaaGreat
