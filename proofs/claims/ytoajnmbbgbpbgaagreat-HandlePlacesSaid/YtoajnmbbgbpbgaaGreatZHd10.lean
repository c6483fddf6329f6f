/-
  Chapter 13: its example.
-/
import Derived.Test.YtoajnmbbgbpbgaaGreatZHd9
import Derived.Test.YtoajnmbbgbpbgaaGreatZB
import Derived.Lib.SlBytesConst
namespace Go.Proofs.YtoajnmbbgbpbgaaGreat
set_option linter.unusedVariables false
set_option linter.unusedSimpArgs false
open Go.RowKit Go.Shelf Go.Maps

theorem flat0_get (i : Nat) : (flatF []).getD i 0 = 0 := by
  have e : flatF [] = zs 8192 := by
    rw [flatF, List.take_nil, spl]; simp
  rw [e]; exact zs_get _ _
theorem getF_flat0 (c : Int) : getF (flatF []) c = 0 := by
  have : loadF (flatF []) c 8 = zs 8 := ext_getD (by rw [loadF_length, zs_length]) (fun j hj => by
    rw [loadF_length] at hj
    rw [loadF_get _ _ _ _ hj, zs_get, byteAt]
    split
    · exact flat0_get _
    · rfl)
  rw [getF, this]; decide +kernel
theorem awake13_pure : ∃ B1 B2 B3 B4, createHR (formatF (flatF [])) aName = (B1, 1, 0) ∧ openHR B1 aName = (B2, 2, 0) ∧ hwriteR B2 1 [120, 121] = (B3, 0) ∧ hreadR B3 2 9 = (B4, [120, 121], 0) ∧ hplaceR B4 2 = (2, 0) := by
  obtain ⟨B1, B2, h1, h2, hs⟩ := hs_start (flatF_length []) (getF_flat0 64) (getF_flat0 80) nameF_a
  obtain ⟨B3, h3, hs3⟩ := hs.write [120, 121] (by simp)
  obtain ⟨B4, h4, hs4⟩ := hs3.read 9 (by omega)
  exact ⟨B1, B2, B3, B4, h1, h2, h3, h4, hs4.place2⟩

theorem sl_mark (w : World) (t : TypeId) (fr : Nat × Nat) : Sl (w.alloc (Obj.cells #[.int .u8 120, .int .u8 121] t fr)) (.slice (some ⟨w.heap.size, 0, none⟩) 2 2) 2 (bys [120, 121]) := by
  refine ⟨_, _, rfl, ⟨by simp, Nat.le_refl _⟩, fun _ => ⟨_, _, rfl⟩, ?_⟩
  rintro b off j u ⟨rfl, rfl⟩ hj
  rw [Nat.zero_add]
  exact heap_cell (heap_new _ _) (by simpa [bys] using hj)

set_option maxHeartbeats 2000000 in
set_option maxRecDepth 1000000 in
theorem awake13_calls (w : World) : Calls Tryz.prog 5 #[] w fun e w' => e = .returned (.bool true) ∧ Fr No w w' := by
  have HFl := Lib.hid (flat_calls (.slice none 0 0) [] w (by simp) (Sl.nil w))
  obtain ⟨B1, B2, B3, B4, h1, h2, h3, h4, h5⟩ := awake13_pure
  generalize flatF [] = F at *
  have C0 := Lib.hid (fun (w1 : World) (mb : Nat) (A : Nat → Prop) (h : MemAt w1 mb A F F) => fformat_calls h)
  generalize formatF F = B0 at *
  have C1 := Lib.hid (fun (w1 : World) (mb : Nat) (A : Nat → Prop) (h : MemAt w1 mb A F B0) => (by have := hcreate_calls h aName (by decide); rw [h1] at this; exact this :
    Calls Tryz.prog 17 #[.pointer (some ⟨mb, 0, none⟩), .string ⟨#[97]⟩] w1 (FsP w1 mb A F B1 (.tuple #[.int .i64 1, .int .i64 0]))))
  have C2 := Lib.hid (fun (w1 : World) (mb : Nat) (A : Nat → Prop) (h : MemAt w1 mb A F B1) => (by have := hopen_calls h aName (by decide); rw [h2] at this; exact this :
    Calls Tryz.prog 18 #[.pointer (some ⟨mb, 0, none⟩), .string ⟨#[97]⟩] w1 (FsP w1 mb A F B2 (.tuple #[.int .i64 2, .int .i64 0]))))
  have C3 := Lib.hid (fun (w1 : World) (mb b : Nat) (A : Nat → Prop) (h : MemAt w1 mb A F B2) (hb : ¬ A b) (hr : Sl w1 (.slice (some ⟨b, 0, none⟩) 2 2) 2 (bys [120, 121])) => (by
      have := hwrite_calls h 1 (some ⟨b, 0, none⟩) 2 [120, 121] hr (fun k e _ => by cases e; exact hb) (by intro b hb; simp at hb; omega) (by simp)
      rw [h3] at this; exact this :
    Calls Tryz.prog 19 #[.pointer (some ⟨mb, 0, none⟩), .int .i64 1, .slice (some ⟨b, 0, none⟩) 2 2] w1 (FsP w1 mb A F B3 (.int .i64 0))))
  have C4 := Lib.hid (fun (w1 : World) (mb : Nat) (A : Nat → Prop) (h : MemAt w1 mb A F B3) => (by have := hread_calls h 2 9 (by omega); rw [h4] at this; exact this :
    Calls Tryz.prog 20 #[.pointer (some ⟨mb, 0, none⟩), .int .i64 2, .int .i64 9] w1 (HdB w1 mb A F (B4, [120, 121], 0))))
  have C5 := Lib.hid (fun (w1 : World) (mb : Nat) (A : Nat → Prop) (h : MemAt w1 mb A F B4) => (by have := hplace_calls h 2; rw [h5] at this; exact this :
    Calls Tryz.prog 11 #[.pointer (some ⟨mb, 0, none⟩), .int .i64 2] w1 (FsP w1 mb A F B4 (.tuple #[.int .i64 2, .int .i64 0]))))
  have hcv : ∀ (w : World), (convert 22 22 (.slice (some ⟨w.heap.size, 0, none⟩) 2 2)).run Tryz.prog (w.alloc (Obj.cells #[.int .u8 120, .int .u8 121] 5)) = .ok (.slice (some ⟨w.heap.size, 0, none⟩) 2 2) (w.alloc (Obj.cells #[.int .u8 120, .int .u8 121] 5 (2, 3))) := fun w =>
    Lib.run_convert_bytes_const w 22 5 #[.int .u8 120, .int .u8 121] 2 2 Tryz.underlying22 Tryz.underlying5
  clear h1 h2 h3 h4 h5
  go_enter Tryz.func5, Tryz.ntmps5
  go_wp2_with fail
  refine HFl.out.mono ?_
  rintro e w1 ⟨mb, A1, rfl, hM1, hF1, hA1⟩
  go_wp2_with fail
  refine (C0.out _ _ _ hM1).mono ?_
  rintro e w2 ⟨A2, rfl, hp2⟩
  obtain ⟨hF2, hA2⟩ := hp2.step hF1 hA1
  have HM2 : RowKit.Hid (MemAt w2 mb A2 F B0) := Lib.hid hp2.1
  clear hM1 hp2
  go_wp2_with fail
  refine (C1.out _ _ _ HM2.out).mono ?_
  rintro e w3 ⟨A3, rfl, hp3⟩
  obtain ⟨hF3, hA3⟩ := hp3.step hF2 hA2
  have HM3 : RowKit.Hid (MemAt w3 mb A3 F B1) := Lib.hid hp3.1
  clear hp3
  go_wp2_with fail
  refine (C2.out _ _ _ HM3.out).mono ?_
  rintro e w4 ⟨A4, rfl, hp4⟩
  obtain ⟨hF4, hA4⟩ := hp4.step hF3 hA3
  have HM4 : RowKit.Hid (MemAt w4 mb A4 F B2) := Lib.hid hp4.1
  have HF4 := Lib.hid hF4
  have HA4 := Lib.hid hA4
  clear hp4 hF1 hF2 hF3 hF4 hA1 hA2 hA3 hA4
  go_wp2_with fail
  refine (C3.out _ _ _ _ (HM4.out.fr0 ((Fr.refl No _).alloc _)) (fun h => Nat.lt_irrefl _ (HM4.out.low _ h)) (sl_mark _ _ _)).mono ?_
  rintro e w5 ⟨A5, rfl, hp5⟩
  obtain ⟨hF5, hA5⟩ := hp5.step (HF4.out.alloc _) HA4.out
  have HM5 : RowKit.Hid (MemAt w5 mb A5 F B3) := Lib.hid hp5.1
  have HF5 := Lib.hid hF5
  have HA5 := Lib.hid hA5
  clear hp5 hF5 hA5
  go_wp2_with fail
  refine (C4.out _ _ _ HM5.out).mono ?_
  rintro e w6 ⟨A6, r, rfl, hp6, hr6, hout⟩
  obtain ⟨hF6, hA6⟩ := hp6.step HF5.out HA5.out
  have HM6 : RowKit.Hid (MemAt w6 mb A6 F B4) := Lib.hid hp6.1
  have HF6 := Lib.hid hF6
  have HA6 := Lib.hid hA6
  obtain ⟨ar, cr, rfl⟩ := (Sl.of_owns hr6).form
  have HR6 := Lib.hid hr6
  have HO6 := Lib.hid hout
  clear hp6 hF6 hA6 hr6 hout
  dsimp only at HR6 ⊢
  go_wp2_with fail
  refine (C5.out _ _ _ HM6.out).mono ?_
  rintro e w7 ⟨A7, rfl, hp7⟩
  have z1 : (convert 22 9 (.slice ar 2 cr)).run Tryz.prog w7 = .ok (.string ⟨#[120, 121]⟩) w7 := conv_sl (l := [120, 121]) (Sl.of_owns (ownsRow_fr HR6.out hp7.2.1 HO6.out))
  obtain ⟨hF7, hA7⟩ := hp7.step HF6.out HA6.out
  have HF7 := Lib.hid hF7
  clear hp7 hF7 hA7
  go_wp2
  go_ret
  exact ⟨rfl, HF7.out⟩
end Go.Proofs.YtoajnmbbgbpbgaaGreat
