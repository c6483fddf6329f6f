/-
  Chapter 12, the reference: block, lay, head, Format.
-/
import Derived.Test.YtoajnmbbgbpbgaaGreatZH
import Derived.Test.YtoajnmbbgbpbgaaGreatZE
namespace Go.Proofs.YtoajnmbbgbpbgaaGreat
set_option linter.unusedVariables false
set_option linter.unusedSimpArgs false
open Go.RowKit Go.Shelf Go.Maps

theorem Rp.refl {w : World} {rb : Nat} {R : Nat → Prop} {F B : List Int} (h : RefAt w rb R F B) : Rp w rb R F B w R := ⟨h, Fr.refl _ _, Gr.refl _ _⟩
theorem Rp.trans {w w' w'' : World} {rb : Nat} {R R' R'' : Nat → Prop} {F B B' : List Int} (h : Rp w rb R F B w' R') (k : Rp w' rb R' F B' w'' R'') : Rp w rb R F B' w'' R'' :=
  ⟨k.1, h.2.1.thenG k.2.1 h.2.2, h.2.2.trans k.2.2 h.2.1.size⟩
theorem Rp.thenFr {w w' w'' : World} {rb : Nat} {R R' : Nat → Prop} {F B : List Int} (h : Rp w rb R F B w' R') (k : Fr No w' w'') : Rp w rb R F B w'' R' :=
  ⟨h.1.fr k (fun _ h => h.elim), h.2.1.trans k.no, h.2.2⟩
theorem RefAt.fr0 {w w' : World} {rb : Nat} {R : Nat → Prop} {F B : List Int} (h : RefAt w rb R F B) (hF : Fr No w w') : RefAt w' rb R F B := h.fr hF (fun _ h => h.elim)
theorem Rp.ahead {w w1 w' : World} {rb : Nat} {R R' : Nat → Prop} {F B : List Int} (hF : Fr No w w1) (h : Rp w1 rb R F B w' R') : Rp w rb R F B w' R' :=
  ⟨h.1, hF.no.trans h.2.1, fun j hj => (h.2.2 j hj).imp id (fun h => Nat.le_trans hF.size h)⟩
theorem RefAt.blen {w : World} {rb : Nat} {R : Nat → Prop} {F B : List Int} (h : RefAt w rb R F B) : B.length = 8192 := by
  obtain ⟨g, cap, gw, h⟩ := h.inn; exact h.blen
theorem RefAt.brange {w : World} {rb : Nat} {R : Nat → Prop} {F B : List Int} (h : RefAt w rb R F B) : ∀ b ∈ B, 0 ≤ b ∧ b < 256 := by
  obtain ⟨g, cap, gw, h⟩ := h.inn; exact h.brange

set_option maxHeartbeats 400000 in
set_option maxRecDepth 1000000 in
theorem rblock_calls {w : World} {rb : Nat} {R : Nat → Prop} {F B : List Int} (h : RefAt w rb R F B) (n : Nat) (hn : n ≤ 1000) :
    Calls Tryz.prog 123 #[.pointer (some ⟨rb, 0, none⟩), .int .i64 (n : Int)] w fun e w' => ∃ b, e = .returned (.slice (some ⟨b, 0, none⟩) 64 64) ∧ Fr No w w' ∧ Row w' b 5 (blk B n) ∧ w.heap.size ≤ b := by
  have HL := Lib.hid (rload_calls h (6144 + (n : Int) * 64) 64 64 (by decide) (by omega))
  clear h
  go_enter Tryz.func123, Tryz.ntmps123
  go_wp2_with fail
  refine HL.out.mono ?_
  rintro e w1 ⟨b, rfl, hF, hR, hb⟩
  go_wp2
  go_ret
  exact ⟨b, rfl, hF, by rw [blk, Int.mul_comm]; exact hR, hb⟩

set_option maxHeartbeats 400000 in
set_option maxRecDepth 1000000 in
theorem rlayb_calls {w : World} {rb : Nat} {R : Nat → Prop} {F B : List Int} (h : RefAt w rb R F B) (n : Int) (hn : 0 ≤ n ∧ n ≤ 1000) (v : Value) (l : List Int) (hv : Sl w v l.length (bys l)) (hvR : ∀ k, v.ownBlock = some k → l ≠ [] → ¬ R k) (h0 : ∀ b ∈ l, 0 ≤ b ∧ b < 256) (hlen : l.length ≤ 9223372036854775807) :
    Calls Tryz.prog 44 #[.pointer (some ⟨rb, 0, none⟩), .int .i64 n, v] w fun e w' => e = .returned (.tuple #[]) ∧ Rp w rb R F (layF B (6144 + 64 * n) l) w' R := by
  have HL := Lib.hid (rlay_calls h (6144 + n * 64) v l hv hvR h0 hlen (by omega))
  rw [Int.mul_comm 64 n]
  clear h hv hvR h0 hlen
  go_enter Tryz.func44, Tryz.ntmps44
  go_wp2_with fail
  refine HL.out.mono ?_
  rintro e w1 ⟨rfl, hp⟩
  go_wp2
  go_end0
  exact ⟨rfl, hp⟩

set_option maxHeartbeats 400000 in
set_option maxRecDepth 1000000 in
theorem rhead_calls (u : Nat) (hu : u < 2 ^ 32) (w : World) : Calls Tryz.prog 45 #[.int .u32 (u : Int)] w fun e w' => ∃ r, e = .returned r ∧ Fr No w w' ∧ w'.ownsRow w.heap.size 5 1 r 64 (bys (headF u)) := by
  have hmk : ∀ w : World, (Instr.makeSlice 22 (.int .i64 64) (.int .i64 64)).run Tryz.prog w = .ok (.slice (some ⟨w.heap.size, 0, none⟩) 64 64) (w.alloc (.cells (bys (zs 64)).toArray 5)) := fun w => mk_bytes w 64 (by omega)
  have HZ := Lib.hid (zs_length 64)
  have HS := Lib.hid (fun (w1 : World) => (by have := (Row.new w1 5 (zs 64)).sl; rw [zs_length] at this; exact this : Sl (w1.alloc (.cells (bys (zs 64)).toArray 5)) (.slice (some ⟨w1.heap.size, 0, none⟩) 64 64) 64 (bys (zs 64))))
  have HP1 := Lib.hid (fun (w1 : World) (v : Value) (hv : Sl w1 v 64 (bys (zs 64))) => (by
    have := rput_calls v (zs 64) 0 4 1398362950 w1 (by omega) (by rw [zs_length]; omega) (by rw [zs_length]; omega) (by omega) (by rw [zs_length]; omega) (by rw [zs_length]; exact hv)
    rw [zs_length] at this; exact this :
    Calls Tryz.prog 92 #[v, .int .i64 0, .int .i64 4, .int .u64 1398362950] w1 fun e w' => ∃ r, e = .returned r ∧ Fr No w1 w' ∧ w'.ownsRow w1.heap.size 5 1 r 64 (bys (putL (zs 64) 0 1398362950 4))))
  have HP2 := Lib.hid (fun (w1 : World) (v : Value) (hv : Sl w1 v 64 (bys (putL (zs 64) 0 1398362950 4))) => (by
    have hl : (putL (zs 64) 0 1398362950 4).length = 64 := by rw [putL_length, zs_length]
    have := rput_calls v (putL (zs 64) 0 1398362950 4) 4 4 (u : Int) w1 (by omega) (by rw [hl]; omega) (by rw [hl]; omega) (by omega) (by rw [hl]; omega) (by rw [hl]; exact hv)
    rw [hl] at this; exact this :
    Calls Tryz.prog 92 #[v, .int .i64 4, .int .i64 4, .int .u64 (u : Int)] w1 fun e w' => ∃ r, e = .returned r ∧ Fr No w1 w' ∧ w'.ownsRow w1.heap.size 5 1 r 64 (bys (headF u))))
  generalize headF u = hd at *
  generalize putL (zs 64) 0 1398362950 4 = p1 at *
  obtain ⟨cs, hcs⟩ : ∃ cs, (bys (zs 64)).toArray = cs := ⟨_, rfl⟩
  rw [hcs] at HS hmk
  clear hcs
  generalize zs 64 = z at *
  go_enter Tryz.func45, Tryz.ntmps45
  go_wp2_with fail
  refine (HP1.out _ _ (HS.out _)).mono ?_
  rintro e w1 ⟨r1, rfl, hF1, hr1⟩
  have hF01 := ((Fr.refl No w).alloc _).trans hF1
  go_wp2_with fail
  refine (HP2.out _ _ (Sl.of_owns hr1)).mono ?_
  rintro e w2 ⟨r2, rfl, hF2, hr2⟩
  go_wp2
  go_ret
  exact ⟨r2, rfl, hF01.trans hF2, ownsRow_base hr2 hF01.size⟩

theorem zs_getD (n k : Nat) : (zs n).getD k 0 = 0 := by
  simp only [zs, List.getD_eq_getElem?_getD, List.getElem?_replicate]; split <;> rfl
/-- Noughts laid block by block. -/
theorem lay_zeros (B : List Int) (hB : B.length = 8192) (a : Int) (i : Nat) (h0 : 0 ≤ a) : layF (layF B a (zs (64 * i))) (a + 64 * (i : Int)) (zs 64) = layF B a (zs (64 * (i + 1))) := by
  refine ext_getD (by simp only [layF_length]) (fun j hj => ?_)
  rw [layF_length, layF_length, hB] at hj
  rw [layF_get _ (by rw [layF_length, hB]) _ _ _ hj, layF_get _ hB _ _ _ hj, layF_get _ hB _ _ _ hj]
  simp only [zs_length]
  by_cases h1 : a + 64 * (i : Int) ≤ j ∧ (j : Int) < a + 64 * (i : Int) + (64 : Nat)
  · rw [if_pos h1, if_pos (by omega)]
    rw [zs_getD, zs_getD]
  · rw [if_neg h1]
    by_cases h2 : a ≤ j ∧ (j : Int) < a + ((64 * i : Nat) : Int)
    · rw [if_pos h2, if_pos (by omega)]
      rw [zs_getD, zs_getD]
    · rw [if_neg h2, if_neg (by omega)]

set_option maxHeartbeats 400000 in
set_option maxRecDepth 1000000 in
theorem rformat_calls {w : World} {rb : Nat} {R : Nat → Prop} {F B : List Int} (h : RefAt w rb R F B) :
    Calls Tryz.prog 14 #[.pointer (some ⟨rb, 0, none⟩)] w fun e w' => e = .returned (.tuple #[]) ∧ Rp w rb R F (formatF B) w' R := by
  have HM := Lib.hid h
  have HH : RowKit.Hid (∀ w1, Calls Tryz.prog 45 #[.int .u32 0] w1 fun e w' => ∃ r, e = .returned r ∧ Fr No w1 w' ∧ w'.ownsRow w1.heap.size 5 1 r 64 (bys (headF 0))) := Lib.hid (fun w1 => rhead_calls 0 (by decide) w1)
  have hmk : ∀ w : World, (Instr.makeSlice 22 (.int .i64 64) (.int .i64 64)).run Tryz.prog w = .ok (.slice (some ⟨w.heap.size, 0, none⟩) 64 64) (w.alloc (.cells (bys (zs 64)).toArray 5)) := fun w => mk_bytes w 64 (by omega)
  have HZ := Lib.hid (zs_length 64)
  have HZR := Lib.hid (zs_range 64)
  have HB := Lib.hid h.blen
  have HFB : RowKit.Hid (layF (layF B 6144 (headF 0)) 6208 (zs (64 * 8)) = formatF B) := Lib.hid rfl
  have HH0 := Lib.hid (headF_length 0)
  have HHR := Lib.hid (headF_range 0)
  clear h
  generalize headF 0 = hd at *
  go_enter Tryz.func14, Tryz.ntmps14
  go_wp2_with fail
  refine (HH.out _).mono ?_
  rintro e w1 ⟨r, rfl, hF1, hr1⟩
  have HL1 := Lib.hid (rlayb_calls (HM.out.fr0 hF1) 0 (by omega) r hd (by rw [HH0.out]; exact Sl.of_owns hr1) (fun k e _ hA => by have := (hr1.lt k e).1; have := HM.out.low k hA; omega) HHR.out (by rw [HH0.out]; omega))
  rw [show (6144 : Int) + 64 * 0 = 6144 by omega] at HL1
  clear hr1
  go_wp2_with fail
  refine HL1.out.mono ?_
  rintro e w2 ⟨rfl, hp2⟩
  have HP2 := Lib.hid (((Rp.refl HM.out).thenFr hF1).trans hp2)
  clear hp2 HL1
  go_wp2_with fail
  go_loopw [2] (fun i wr => ∃ j : Nat, j ≤ 8 ∧ i = .int .i64 ((j + 1 : Nat) : Int) ∧ Rp w rb R F (layF (layF B 6144 hd) 6208 (zs (64 * j))) wr R) (fun i _ => 9 - (intOf i).toNat)
  case atStart => exact ⟨0, Nat.zero_le _, rfl, by rw [show zs (64 * 0) = [] from rfl, layF_nil]; exact HP2.out⟩
  case round =>
    obtain ⟨j, hj, rfl, hp⟩ := hrel
    by_cases hlt : j < 8
    · have hle : ((j + 1 : Nat) : Int) ≤ 8 := by omega
      have HP := Lib.hid hp
      have HLJ := Lib.hid (fun (w3 : World) (b : Nat) (hF : Fr No wr w3) (hb : wr.heap.size ≤ b) (hR : Row w3 b 5 (zs 64)) => (by
        have := rlayb_calls (hp.1.fr0 hF) ((j + 1 : Nat) : Int) (by omega) (.slice (some ⟨b, 0, none⟩) (zs 64).length (zs 64).length) (zs 64) hR.sl (fun k e _ hA => by cases e; exact Nat.lt_irrefl _ (Nat.lt_of_lt_of_le (hp.1.low _ hA) hb)) HZR.out (by rw [HZ.out]; omega)
        rw [show 6144 + 64 * ((j + 1 : Nat) : Int) = 6208 + 64 * (j : Int) by omega, lay_zeros _ (by rw [layF_length]; exact HB.out) _ _ (by omega), HZ.out] at this
        exact this :
        Calls Tryz.prog 44 #[.pointer (some ⟨rb, 0, none⟩), .int .i64 ((j + 1 : Nat) : Int), .slice (some ⟨b, 0, none⟩) 64 64] w3 fun e w' => e = .returned (.tuple #[]) ∧ Rp w3 rb R F (layF (layF B 6144 hd) 6208 (zs (64 * (j + 1)))) w' R))
      have hmk' := hmk
      have HNW := Lib.hid (fun (w1 : World) => Row.new w1 5 (zs 64))
      clear hp
      obtain ⟨jj, hjj⟩ : ∃ jj : Int, ((j + 1 : Nat) : Int) = jj := ⟨_, rfl⟩
      have HJJ := Lib.hid hjj
      rw [hjj] at HLJ hle ⊢
      have hjb : 0 ≤ jj := by omega
      clear hjj
      generalize zs 64 = z at *
      go_wp2_with fail
      refine (HLJ.out _ _ ((Fr.refl _ _).alloc _) (Nat.le_refl _) (HNW.out _)).mono ?_
      rintro e w3 ⟨rfl, hp3⟩
      go_wp2
      go_roundw
      case rel =>
        refine ⟨j + 1, by omega, by have := HJJ.out; go_num, ?_⟩
        exact HP.out.trans (Rp.ahead ((Fr.refl _ _).alloc _) hp3)
      case measure => have := HJJ.out; simp [intOf]; omega
    · obtain rfl : j = 8 := by omega
      have HP := Lib.hid hp
      clear hp
      go_wp2
      go_end0
      exact ⟨rfl, by rw [← HFB.out]; exact HP.out⟩
end Go.Proofs.YtoajnmbbgbpbgaaGreat
