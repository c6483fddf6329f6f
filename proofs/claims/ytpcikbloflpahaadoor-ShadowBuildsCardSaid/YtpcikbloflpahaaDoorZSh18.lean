/-
  Chapter 7: the example.
-/
import Derived.Test.YtpcikbloflpahaaDoorZSh17
import Derived.Test.YtpcikbloflpahaaDoorZSh3
namespace Go.Proofs.YtpcikbloflpahaaDoor
set_option linter.unusedVariables false
set_option linter.unusedSimpArgs false
open Go.RowKit Go.Shelf Go.Maps

theorem sp0 {w : World} {mb cb fb : Nat} (h : SpIn w mb cb fb (List.replicate 10 0) 1020) : SpIn w mb cb fb lcs0 1020 := h
attribute [local irreducible] nd0 lfA lfB tnA tnB lcs0 lcs1 lcs2 lcs3
set_option maxHeartbeats 4000000 in
set_option maxRecDepth 1000000 in
theorem awake7_calls {w : World} (hT : Tab7 w) : Calls Tryd.prog 8 #[] w fun e w' => e = .returned (.bool true) ∧ Fr No w w' := by
  have hmk : ∀ w : World, (Instr.makeSlice 30 (.int .i64 64) (.int .i64 64)).run Tryd.prog w = .ok (.slice (some ⟨w.heap.size, 0, none⟩) 64 64) (w.alloc (.cells (bys (zs 64)).toArray 5)) := fun w => mk_bytes w 64 (by omega)
  have hb := heap_new w (.cells (bys (zs 64)).toArray 5)
  have k5 := heap_cell (o := 5) hb rfl
  have f5 := heap_frozen (o := 5) hb
  have HB := Lib.hid hb
  have HT := Lib.hid hT
  clear hb hT
  go_enter Tryd.func8, Tryd.ntmps8
  go_wp2_with fail
  generalize hW : ((w.alloc (Obj.cells ((bys (zs 64)).set 5 (.int .u8 9)).toArray 5)).alloc (Obj.cells #[.int .i64 3, .slice (some ⟨w.heap.size, 0, none⟩) 64 64] 32)) = W1
  have hF1 : Fr No w W1 := by rw [← hW]; exact ((Fr.refl No w).alloc _).alloc _
  have hs1 : W1.heap.size = w.heap.size + 2 := by rw [← hW]; simp
  have hb1 : W1.heap[w.heap.size + 1]? = some (.cells [.int .i64 3, .slice (some ⟨w.heap.size, 0, none⟩) 64 64].toArray 32 (0, 0)) := by rw [← hW]; exact heap_new2_7 w _ _
  have hb0 : W1.heap[w.heap.size]? = some (.cells ((bys (zs 64)).set 5 (.int .u8 9)).toArray 5 (0, 0)) := by rw [← hW]; exact heap_alloc _ (heap_new _ _)
  have ha0 : W1.cell? ⟨w.heap.size + 1, 0, none⟩ = some (.int .i64 3) := heap_cell (o := 0) hb1 rfl
  have ha1 : W1.cell? ⟨w.heap.size + 1, 1, none⟩ = some (.slice (some ⟨w.heap.size, 0, none⟩) 64 64) := heap_cell (o := 1) hb1 rfl
  have hr : W1.rangeAt w.heap.size 0 (bys data1) := fun j v hj => by
    rw [Nat.zero_add]
    refine heap_cell hb0 ?_
    rw [show (bys (zs 64)).set 5 (Value.int .u8 9) = bys data1 from by kernel_rfl]
    simpa using hj
  have HF1 := Lib.hid hF1
  have HA := Lib.hid (And.intro ha0 (And.intro ha1 hr))
  have HS1 := Lib.hid hs1
  clear hW hF1 hs1 hb1 hb0 ha0 ha1 hr
  refine (dnew_calls W1).mono ?_
  rintro e w2 ⟨db, A, rfl, hd, hF2, hA⟩
  have HD := Lib.hid hd
  have HF2 := Lib.hid hF2
  have HLA := Lib.hid hA
  clear hd hF2 hA k5 f5
  go_wp2_with fail
  refine (scost_calls HD.out (HF2.out.cell HA.out.1 (fun h => h)) (HF2.out.cell HA.out.2.1 (fun h => h)) (fun j v hj => HF2.out.cell (HA.out.2.2 j v hj) (fun h => h))).mono ?_
  rintro e w3 ⟨rfl, hF3⟩
  have HF3 := Lib.hid hF3
  clear hF3
  go_wp2_with fail
  refine (spnew_calls w3).mono ?_
  rintro e w4 ⟨mb, cb, fb, rfl, hs, hF4, l1, l2, l3⟩
  have HSP := Lib.hid (sp0 hs)
  have HF4 := Lib.hid hF4
  have HL := Lib.hid (And.intro l1 (And.intro l2 l3))
  clear hs hF4 l1 l2 l3
  go_wp2_with fail
  have hF24 := HF3.out.trans HF4.out
  have hF14 := HF2.out.trans hF24
  have hlow := (HD.out.fr0 HF3.out).low
  obtain ⟨l1, l2, l3⟩ := HL.out
  have hs1 := HS1.out
  have e3 := (HF2.out.trans HF3.out).size
  refine (sbuild_calls ⟨HD.out.fr0 hF24, HSP.out, HT.out.fr (HF1.out.trans hF14) (fun h => h), fun e => by have := hlow _ e; omega, fun e => by have := hlow _ e; omega, fun e => by have := hlow _ e; omega, fun e => by have := HLA.out _ e; omega, by omega, by omega⟩ (by omega) (hF14.cell HA.out.1 (fun h => h)) (hF14.cell HA.out.2.1 (fun h => h)) (fun j v hj => hF14.cell (HA.out.2.2 j v hj) (fun h => h))).mono ?_
  rintro e w5 ⟨rfl, hF5⟩
  have HF5 := Lib.hid ((HF1.out.trans hF14).trans' hF5 (fun i hi e => by
    rcases e with e | e | e
    · have := HLA.out _ e; omega
    · omega
    · omega))
  clear hF5 hF14 hF24 hlow l1 l2 l3 hs1 e3
  go_wp2_with fail
  go_ret
  exact ⟨rfl, HF5.out⟩
end Go.Proofs.YtpcikbloflpahaaDoor
