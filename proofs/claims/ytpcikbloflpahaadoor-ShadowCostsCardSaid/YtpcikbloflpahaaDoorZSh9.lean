/-
  Chapter 7: free sectors: New, Take, Free.
-/
import Derived.Test.YtpcikbloflpahaaDoorZSh8
namespace Go.Proofs.YtpcikbloflpahaaDoor
set_option linter.unusedVariables false
set_option linter.unusedSimpArgs false
open Go.RowKit Go.Shelf Go.Maps

/-- A map of ten sectors: counts l, free ones x. -/
structure SpIn (w : World) (mb cb fb : Nat) (l : List Int) (x : Int) : Prop where
  box : w.heap[mb]? = some (.cells [.slice (some ⟨cb, 0, none⟩) 10 10, .slice (some ⟨fb, 0, none⟩) 1 1, .bool true].toArray 114 (0, 0))
  cnt : w.heap[cb]? = some (.cells (nds l).toArray 3 (0, 0))
  fre : w.heap[fb]? = some (.cells [.int .u64 x].toArray 69 (0, 0))
  len : l.length = 10

theorem mk_int10 (w : World) : (Instr.makeSlice 43 (.int .i64 10) (.int .i64 10)).run Tryd.prog w = .ok (.slice (some ⟨w.heap.size, 0, none⟩) 10 10) (w.alloc (.cells (nds (List.replicate 10 0)).toArray 3)) := by
  have hE : (Tryd.prog.info? 3).map (fun i => (i.zero, i.size, i.bytes)) = some (some (.int .i64 0), 1, 8) := by kernel_rfl
  cases hi : Tryd.prog.info? 3 with
  | none => rw [hi] at hE; simp at hE
  | some i =>
    rw [hi] at hE
    simp only [Option.map_some, Option.some.injEq, Prod.mk.injEq] at hE
    obtain ⟨h1, h2, h3⟩ := hE
    have := run_make (P := Tryd.prog) w 43 3 i _ Tryd.underlying43 hi h1 .i64 .i64 10 10 (by omega) (by omega) (by rw [h3]; omega) (by omega)
    rw [this, h2]
    have e : madeCells (Value.int .i64 0).cells (Int.toNat 10 * 1) = (nds (List.replicate 10 0)).toArray := by kernel_rfl
    rw [e]; rfl
theorem mk_u64_1 (w : World) : (Instr.makeSlice 112 (.int .i64 1) (.int .i64 1)).run Tryd.prog w = .ok (.slice (some ⟨w.heap.size, 0, none⟩) 1 1) (w.alloc (.cells [.int .u64 0].toArray 69)) := by
  have hE : (Tryd.prog.info? 69).map (fun i => (i.zero, i.size, i.bytes)) = some (some (.int .u64 0), 1, 8) := by kernel_rfl
  cases hi : Tryd.prog.info? 69 with
  | none => rw [hi] at hE; simp at hE
  | some i =>
    rw [hi] at hE
    simp only [Option.map_some, Option.some.injEq, Prod.mk.injEq] at hE
    obtain ⟨h1, h2, h3⟩ := hE
    have := run_make (P := Tryd.prog) w 112 69 i _ Tryd.underlying112 hi h1 .i64 .i64 1 1 (by omega) (by omega) (by rw [h3]; omega) (by omega)
    rw [this, h2]
    have e : madeCells (Value.int .u64 0).cells (Int.toNat 1 * 1) = [Value.int .u64 0].toArray := by kernel_rfl
    rw [e]; rfl

set_option maxHeartbeats 4000000 in
set_option maxRecDepth 1000000 in
theorem spnew_calls (w : World) : Calls Tryd.prog 32 #[.int .i64 10] w fun e w' => ∃ mb cb fb, e = .returned (.pointer (some ⟨mb, 0, none⟩)) ∧ SpIn w' mb cb fb (List.replicate 10 0) 1020 ∧ Fr No w w' ∧ w.heap.size ≤ mb ∧ w.heap.size ≤ cb ∧ w.heap.size ≤ fb := by
  have hmk := mk_int10
  have hmu := mk_u64_1
  go_enter Tryd.func32, Tryd.ntmps32
  go_upto_block 0 with fail
  generalize hW : (((w.alloc (Obj.cells (nds [0, 0, 0, 0, 0, 0, 0, 0, 0, 0]).toArray 3)).alloc (Obj.cells #[.slice (some ⟨w.heap.size, 0, none⟩) 10 10, .slice (some ⟨w.heap.size + 1 + 1, 0, none⟩) 1 1, .bool true] 114)).alloc (Obj.cells #[.int .u64 0] 69)) = W
  have HFW : RowKit.Hid (Fr No w W) := Lib.hid (by rw [← hW]; exact (((Fr.refl No w).alloc _).alloc _).alloc _)
  have HS : RowKit.Hid (W.heap.size = w.heap.size + 3) := Lib.hid (by rw [← hW]; simp)
  have HI : RowKit.Hid (SpIn W (w.heap.size + 1) w.heap.size (w.heap.size + 2) (List.replicate 10 0) 0) := Lib.hid (by
    rw [← hW]
    refine ⟨heap_alloc _ ?_, heap_alloc _ (heap_alloc _ (heap_new _ _)), ?_, rfl⟩
    · have := heap_new (w.alloc (Obj.cells (nds [0, 0, 0, 0, 0, 0, 0, 0, 0, 0]).toArray 3)) (Obj.cells #[.slice (some ⟨w.heap.size, 0, none⟩) 10 10, .slice (some ⟨w.heap.size + 1 + 1, 0, none⟩) 1 1, .bool true] 114)
      simpa using this
    · have := heap_new ((w.alloc (Obj.cells (nds [0, 0, 0, 0, 0, 0, 0, 0, 0, 0]).toArray 3)).alloc (Obj.cells #[.slice (some ⟨w.heap.size, 0, none⟩) 10 10, .slice (some ⟨w.heap.size + 1 + 1, 0, none⟩) 1 1, .bool true] 114)) (Obj.cells #[.int .u64 0] 69)
      simpa using this)
  clear hW hmk hmu
  generalize hmb : w.heap.size + 1 = mb at *
  generalize hcb : w.heap.size = cb at *
  generalize hfb : mb + 1 = fb at *
  obtain rfl : cb + 2 = fb := by omega
  go_wp2_with fail
  go_loopw [4] (fun i wr => ∃ n : Nat, 2 ≤ n ∧ n ≤ 10 ∧ i = .int .i64 (n : Int) ∧ SpIn wr mb cb (cb + 2) (List.replicate 10 0) ((2 ^ n - 4 : Nat) : Int) ∧ Fr (fun k => k = cb + 2) W wr) (fun i _ => 10 - (intOf i).toNat)
  case atStart => exact ⟨2, by omega, by omega, rfl, HI.out, Fr.refl _ _⟩
  case round =>
    obtain ⟨n, h2, hn, rfl, hI, hF⟩ := hrel
    have k0 : wr.cell? ⟨mb, 0, none⟩ = some (.slice (some ⟨cb, 0, none⟩) 10 10) := heap_cell (o := 0) hI.box rfl
    have k1 : wr.cell? ⟨mb, 1, none⟩ = some (.slice (some ⟨cb + 2, 0, none⟩) 1 1) := heap_cell (o := 1) hI.box rfl
    have kf : wr.cell? ⟨cb + 2, 0, none⟩ = some (.int .u64 ((2 ^ n - 4 : Nat) : Int)) := heap_cell (o := 0) hI.fre rfl
    have k1' : wr.drew.cell? ⟨mb, 1, none⟩ = some (.slice (some ⟨cb + 2, 0, none⟩) 1 1) := k1
    have kf' : wr.drew.cell? ⟨cb + 2, 0, none⟩ = some (.int .u64 ((2 ^ n - 4 : Nat) : Int)) := kf
    have ff : wr.drew.frozen? ⟨cb + 2, 0, none⟩ = false := heap_frozen (w := wr) hI.fre
    have HI2 := Lib.hid hI
    have HF2 := Lib.hid hF
    clear hI hF
    by_cases hlt : n < 10
    · have hd : decide ((n : Int) < 10) = true := decide_eq_true (by omega)
      have hq : n = 2 ∨ n = 3 ∨ n = 4 ∨ n = 5 ∨ n = 6 ∨ n = 7 ∨ n = 8 ∨ n = 9 := by omega
      rcases hq with rfl | rfl | rfl | rfl | rfl | rfl | rfl | rfl
      · go_upto_region 6 with fail
        go_region
        go_wp2_with fail
        go_roundw
        case rel =>
          refine ⟨3, by omega, by omega, by go_num, ⟨?_, ?_, ?_, rfl⟩, ?_⟩
          · exact ((Fr.refl (fun k => k = cb + 2) wr).setCell (p := ⟨cb + 2, 0, none⟩) (fun _ => rfl) _).drew.heap HI2.out.box (fun e => by omega)
          · exact ((Fr.refl (fun k => k = cb + 2) wr).setCell (p := ⟨cb + 2, 0, none⟩) (fun _ => rfl) _).drew.heap HI2.out.cnt (fun e => by omega)
          · have := heap_setAt7 HI2.out.fre 0 (.int .u64 (bits BinOp.or .u64 0 4))
            exact this
          · exact (HF2.out.setCell (p := ⟨cb + 2, 0, none⟩) (fun _ => rfl) _).drew
        case measure => decide
      · go_upto_region 6 with fail
        go_region
        go_wp2_with fail
        go_roundw
        case rel =>
          refine ⟨4, by omega, by omega, by go_num, ⟨?_, ?_, ?_, rfl⟩, ?_⟩
          · exact ((Fr.refl (fun k => k = cb + 2) wr).setCell (p := ⟨cb + 2, 0, none⟩) (fun _ => rfl) _).drew.heap HI2.out.box (fun e => by omega)
          · exact ((Fr.refl (fun k => k = cb + 2) wr).setCell (p := ⟨cb + 2, 0, none⟩) (fun _ => rfl) _).drew.heap HI2.out.cnt (fun e => by omega)
          · have := heap_setAt7 HI2.out.fre 0 (.int .u64 (bits BinOp.or .u64 4 8))
            exact this
          · exact (HF2.out.setCell (p := ⟨cb + 2, 0, none⟩) (fun _ => rfl) _).drew
        case measure => decide
      · go_upto_region 6 with fail
        go_region
        go_wp2_with fail
        go_roundw
        case rel =>
          refine ⟨5, by omega, by omega, by go_num, ⟨?_, ?_, ?_, rfl⟩, ?_⟩
          · exact ((Fr.refl (fun k => k = cb + 2) wr).setCell (p := ⟨cb + 2, 0, none⟩) (fun _ => rfl) _).drew.heap HI2.out.box (fun e => by omega)
          · exact ((Fr.refl (fun k => k = cb + 2) wr).setCell (p := ⟨cb + 2, 0, none⟩) (fun _ => rfl) _).drew.heap HI2.out.cnt (fun e => by omega)
          · have := heap_setAt7 HI2.out.fre 0 (.int .u64 (bits BinOp.or .u64 12 16))
            exact this
          · exact (HF2.out.setCell (p := ⟨cb + 2, 0, none⟩) (fun _ => rfl) _).drew
        case measure => decide
      · go_upto_region 6 with fail
        go_region
        go_wp2_with fail
        go_roundw
        case rel =>
          refine ⟨6, by omega, by omega, by go_num, ⟨?_, ?_, ?_, rfl⟩, ?_⟩
          · exact ((Fr.refl (fun k => k = cb + 2) wr).setCell (p := ⟨cb + 2, 0, none⟩) (fun _ => rfl) _).drew.heap HI2.out.box (fun e => by omega)
          · exact ((Fr.refl (fun k => k = cb + 2) wr).setCell (p := ⟨cb + 2, 0, none⟩) (fun _ => rfl) _).drew.heap HI2.out.cnt (fun e => by omega)
          · have := heap_setAt7 HI2.out.fre 0 (.int .u64 (bits BinOp.or .u64 28 32))
            exact this
          · exact (HF2.out.setCell (p := ⟨cb + 2, 0, none⟩) (fun _ => rfl) _).drew
        case measure => decide
      · go_upto_region 6 with fail
        go_region
        go_wp2_with fail
        go_roundw
        case rel =>
          refine ⟨7, by omega, by omega, by go_num, ⟨?_, ?_, ?_, rfl⟩, ?_⟩
          · exact ((Fr.refl (fun k => k = cb + 2) wr).setCell (p := ⟨cb + 2, 0, none⟩) (fun _ => rfl) _).drew.heap HI2.out.box (fun e => by omega)
          · exact ((Fr.refl (fun k => k = cb + 2) wr).setCell (p := ⟨cb + 2, 0, none⟩) (fun _ => rfl) _).drew.heap HI2.out.cnt (fun e => by omega)
          · have := heap_setAt7 HI2.out.fre 0 (.int .u64 (bits BinOp.or .u64 60 64))
            exact this
          · exact (HF2.out.setCell (p := ⟨cb + 2, 0, none⟩) (fun _ => rfl) _).drew
        case measure => decide
      · go_upto_region 6 with fail
        go_region
        go_wp2_with fail
        go_roundw
        case rel =>
          refine ⟨8, by omega, by omega, by go_num, ⟨?_, ?_, ?_, rfl⟩, ?_⟩
          · exact ((Fr.refl (fun k => k = cb + 2) wr).setCell (p := ⟨cb + 2, 0, none⟩) (fun _ => rfl) _).drew.heap HI2.out.box (fun e => by omega)
          · exact ((Fr.refl (fun k => k = cb + 2) wr).setCell (p := ⟨cb + 2, 0, none⟩) (fun _ => rfl) _).drew.heap HI2.out.cnt (fun e => by omega)
          · have := heap_setAt7 HI2.out.fre 0 (.int .u64 (bits BinOp.or .u64 124 128))
            exact this
          · exact (HF2.out.setCell (p := ⟨cb + 2, 0, none⟩) (fun _ => rfl) _).drew
        case measure => decide
      · go_upto_region 6 with fail
        go_region
        go_wp2_with fail
        go_roundw
        case rel =>
          refine ⟨9, by omega, by omega, by go_num, ⟨?_, ?_, ?_, rfl⟩, ?_⟩
          · exact ((Fr.refl (fun k => k = cb + 2) wr).setCell (p := ⟨cb + 2, 0, none⟩) (fun _ => rfl) _).drew.heap HI2.out.box (fun e => by omega)
          · exact ((Fr.refl (fun k => k = cb + 2) wr).setCell (p := ⟨cb + 2, 0, none⟩) (fun _ => rfl) _).drew.heap HI2.out.cnt (fun e => by omega)
          · have := heap_setAt7 HI2.out.fre 0 (.int .u64 (bits BinOp.or .u64 252 256))
            exact this
          · exact (HF2.out.setCell (p := ⟨cb + 2, 0, none⟩) (fun _ => rfl) _).drew
        case measure => decide
      · go_upto_region 6 with fail
        go_region
        go_wp2_with fail
        go_roundw
        case rel =>
          refine ⟨10, by omega, by omega, by go_num, ⟨?_, ?_, ?_, rfl⟩, ?_⟩
          · exact ((Fr.refl (fun k => k = cb + 2) wr).setCell (p := ⟨cb + 2, 0, none⟩) (fun _ => rfl) _).drew.heap HI2.out.box (fun e => by omega)
          · exact ((Fr.refl (fun k => k = cb + 2) wr).setCell (p := ⟨cb + 2, 0, none⟩) (fun _ => rfl) _).drew.heap HI2.out.cnt (fun e => by omega)
          · have := heap_setAt7 HI2.out.fre 0 (.int .u64 (bits BinOp.or .u64 508 512))
            exact this
          · exact (HF2.out.setCell (p := ⟨cb + 2, 0, none⟩) (fun _ => rfl) _).drew
        case measure => decide
    · obtain rfl : n = 10 := by omega
      go_wp2_with fail
      go_ret
      have := HI2.out
      have e : ((2 ^ 10 - 4 : Nat) : Int) = 1020 := by decide
      rw [e] at this
      exact ⟨mb, cb, cb + 2, rfl, this, HFW.out.trans' HF2.out (fun i hi e => by omega), by omega, by omega, by omega⟩

set_option maxHeartbeats 4000000 in
set_option maxRecDepth 1000000 in
theorem spchange_calls {w : World} {mb cb fb : Nat} {l : List Int} {x : Int} (h : SpIn w mb cb fb l x) (n : Nat) (hn : n = 2 ∧ x = 1020 ∨ n = 3 ∧ x = 1016 ∨ n = 4 ∧ x = 1008) (hc : l[n]? = some 0) :
    Calls Tryd.prog 65 #[.pointer (some ⟨mb, 0, none⟩), .int .i64 (n : Int), .int .i64 1] w fun e w' => e = .returned (.tuple #[]) ∧ SpIn w' mb cb fb (l.set n 1) (x - (2 ^ n : Nat)) ∧ Fr (fun k => k = cb ∨ k = fb) w w' := by
  have H := Lib.hid h
  have k0 : w.cell? ⟨mb, 0, none⟩ = some (.slice (some ⟨cb, 0, none⟩) 10 10) := heap_cell (o := 0) h.box rfl
  have k1 : w.cell? ⟨mb, 1, none⟩ = some (.slice (some ⟨fb, 0, none⟩) 1 1) := heap_cell (o := 1) h.box rfl
  have kf : w.cell? ⟨fb, 0, none⟩ = some (.int .u64 x) := heap_cell (o := 0) h.fre rfl
  have ff := heap_frozen (o := 0) h.fre
  have kc : w.cell? ⟨cb, 0 + n, none⟩ = some (.int .i64 0) := by
    exact heap_cell h.cnt (by simp [nds, hc])
  have fc := heap_frozen (o := 0 + n) h.cnt
  have n1 : mb ≠ cb := fun e => by have a := h.box; have b := h.cnt; rw [e, b] at a; injection a with a; injection a with _ a; exact absurd a (by decide)
  have n2 : mb ≠ fb := fun e => by have a := h.box; have b := h.fre; rw [e, b] at a; injection a with a; injection a with _ a; exact absurd a (by decide)
  have n3 : cb ≠ fb := fun e => by have a := h.cnt; have b := h.fre; rw [e, b] at a; injection a with a; injection a with _ a; exact absurd a (by decide)
  have m1 := n1.symm
  have m2 := n2.symm
  have m3 := n3.symm
  have HC := Lib.hid hc
  clear h hc
  rcases hn with ⟨rfl, rfl⟩ | ⟨rfl, rfl⟩ | ⟨rfl, rfl⟩
  all_goals (
    go_enter Tryd.func65, Tryd.ntmps65
    go_wp2
    go_end0
    refine ⟨rfl, ⟨?_, ?_, ?_, by rw [List.length_set]; exact H.out.len⟩, ?_⟩
    · exact (((Fr.refl (fun k => k = cb ∨ k = fb) w).setCell (p := ⟨cb, _, none⟩) (fun _ => .inl rfl) _).setCell (p := ⟨fb, _, none⟩) (fun _ => .inr rfl) _).heap H.out.box (fun e => e.elim n1 n2)
    · rw [← nds_set]
      exact ((Fr.refl (fun k => k = fb) _).setCell (p := ⟨fb, _, none⟩) (fun _ => rfl) _).heap (heap_setAt7 H.out.cnt _ _) n3
    · exact heap_setAt7 (((Fr.refl (fun k => k = cb) w).setCell (p := ⟨cb, _, none⟩) (fun _ => rfl) _).heap H.out.fre m3) 0 _
    · exact ((Fr.refl (fun k => k = cb ∨ k = fb) w).setCell (p := ⟨cb, _, none⟩) (fun _ => .inl rfl) _).setCell (p := ⟨fb, _, none⟩) (fun _ => .inr rfl) _)
end Go.Proofs.YtpcikbloflpahaaDoor
