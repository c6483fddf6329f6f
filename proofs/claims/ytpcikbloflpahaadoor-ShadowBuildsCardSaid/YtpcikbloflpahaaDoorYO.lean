/-
  Chapter 7: free sectors: New, Take, Free.
-/
import Derived.Test.YtpcikbloflpahaaDoorZSh8
import Derived.Scope
import Derived.Defers
import Derived.Recover
import Derived.Maps.RangeWalk
namespace Go.Proofs.YtpcikbloflpahaaDoor
set_option linter.unusedVariables false
set_option linter.unusedSimpArgs false
open Go.RowKit Go.Shelf Go.Maps

/-- A map of ten sectors: counts l, free ones x. -/
structure SpIn (w : World) (mb cb fb : Nat) (l : List Int) (x : Int) : Prop where
  box : w.heap[mb]? = some (.cells [.slice (some ⟨cb, 0, none⟩) 10 10, .slice (some ⟨fb, 0, none⟩) 1 1, .bool true].toArray 114 (0, 0))
  cnt : w.heap[cb]? = some (.cells (nds l).toArray 3 (0, 0))
  fre : w.heap[fb]? = some (.cells [.int .u64 x].toArray 69 (0, 0))
  len : l.length = 10

theorem mk_int10 (w : World) : (Instr.makeSlice 43 (.int .i64 10) (.int .i64 10)).run Tryd.prog w = .ok (.slice (some ⟨w.heap.size, 0, none⟩) 10 10) (w.alloc (.cells (nds (List.replicate 10 0)).toArray 3)) := by
  have hE : (Tryd.prog.info? 3).map (fun i => (i.zero, i.size, i.bytes)) = some (some (.int .i64 0), 1, 8) := by kernel_rfl
  cases hi : Tryd.prog.info? 3 with
  | none => rw [hi] at hE; simp at hE
  | some i =>
    rw [hi] at hE
    simp only [Option.map_some, Option.some.injEq, Prod.mk.injEq] at hE
    obtain ⟨h1, h2, h3⟩ := hE
    have := run_make (P := Tryd.prog) w 43 3 i _ Tryd.underlying43 hi h1 .i64 .i64 10 10 (by omega) (by omega) (by rw [h3]; omega) (by omega)
    rw [this, h2]
    have e : madeCells (Value.int .i64 0).cells (Int.toNat 10 * 1) = (nds (List.replicate 10 0)).toArray := by kernel_rfl
    rw [e]; rfl
theorem mk_u64_1 (w : World) : (Instr.makeSlice 112 (.int .i64 1) (.int .i64 1)).run Tryd.prog w = .ok (.slice (some ⟨w.heap.size, 0, none⟩) 1 1) (w.alloc (.cells [.int .u64 0].toArray 69)) := by
  have hE : (Tryd.prog.info? 69).map (fun i => (i.zero, i.size, i.bytes)) = some (some (.int .u64 0), 1, 8) := by kernel_rfl
  cases hi : Tryd.prog.info? 69 with
  | none => rw [hi] at hE; simp at hE
  | some i =>
    rw [hi] at hE
    simp only [Option.map_some, Option.some.injEq, Prod.mk.injEq] at hE
    obtain ⟨h1, h2, h3⟩ := hE
    have := run_make (P := Tryd.prog) w 112 69 i _ Tryd.underlying112 hi h1 .i64 .i64 1 1 (by omega) (by omega) (by rw [h3]; omega) (by omega)
    rw [this, h2]
    have e : madeCells (Value.int .u64 0).cells (Int.toNat 1 * 1) = [Value.int .u64 0].toArray := by kernel_rfl
    rw [e]; rfl

set_option maxHeartbeats 4000000 in
set_option maxRecDepth 1000000 in
theorem spnew_calls (w : World) : Calls Tryd.prog 32 #[.int .i64 10] w fun e w' => ∃ mb cb fb, e = .returned (.pointer (some ⟨mb, 0, none⟩)) ∧ SpIn w' mb cb fb (List.replicate 10 0) 1020 ∧ Fr No w w' ∧ w.heap.size ≤ mb ∧ w.heap.size ≤ cb ∧ w.heap.size ≤ fb := by
  have hmk := mk_int10
  have hmu := mk_u64_1
  go_enter Tryd.func32, Tryd.ntmps32
  go_upto_block 0 with fail
  generalize hW : (((w.alloc (Obj.cells (nds [0, 0, 0, 0, 0, 0, 0, 0, 0, 0]).toArray 3)).alloc (Obj.cells #[.slice (some ⟨w.heap.size, 0, none⟩) 10 10, .slice (some ⟨w.heap.size + 1 + 1, 0, none⟩) 1 1, .bool true] 114)).alloc (Obj.cells #[.int .u64 0] 69)) = W
  have HFW : RowKit.Hid (Fr No w W) := Lib.hid (by rw [← hW]; exact (((Fr.refl No w).alloc _).alloc _).alloc _)
  have HS : RowKit.Hid (W.heap.size = w.heap.size + 3) := Lib.hid (by rw [← hW]; simp)
  have HI : RowKit.Hid (SpIn W (w.heap.size + 1) w.heap.size (w.heap.size + 2) (List.replicate 10 0) 0) := Lib.hid (by
    rw [← hW]
    refine ⟨heap_alloc _ ?_, heap_alloc _ (heap_alloc _ (heap_new _ _)), ?_, rfl⟩
    · have := heap_new (w.alloc (Obj.cells (nds [0, 0, 0, 0, 0, 0, 0, 0, 0, 0]).toArray 3)) (Obj.cells #[.slice (some ⟨w.heap.size, 0, none⟩) 10 10, .slice (some ⟨w.heap.size + 1 + 1, 0, none⟩) 1 1, .bool true] 114)
      simpa using this
    · have := heap_new ((w.alloc (Obj.cells (nds [0, 0, 0, 0, 0, 0, 0, 0, 0, 0]).toArray 3)).alloc (Obj.cells #[.slice (some ⟨w.heap.size, 0, none⟩) 10 10, .slice (some ⟨w.heap.size + 1 + 1, 0, none⟩) 1 1, .bool true] 114)) (Obj.cells #[.int .u64 0] 69)
      simpa using this)
  clear hW hmk hmu
  generalize hmb : w.heap.size + 1 = mb at *
  generalize hcb : w.heap.size = cb at *
  generalize hfb : mb + 1 = fb at *
  obtain rfl : cb + 2 = fb := by omega
  go_wp2_with fail
  go_loopw [4] (fun i wr => ∃ n : Nat, 2 ≤ n ∧ n ≤ 10 ∧ i = .int .i64 (n : Int) ∧ SpIn wr mb cb (cb + 2) (List.replicate 10 0) ((2 ^ n - 4 : Nat) : Int) ∧ Fr (fun k => k = cb + 2) W wr) (fun i _ => 10 - (intOf i).toNat)
  case atStart => exact ⟨2, by omega, by omega, rfl, HI.out, Fr.refl _ _⟩
  case round =>
    obtain ⟨n, h2, hn, rfl, hI, hF⟩ := hrel
    have k0 : wr.cell? ⟨mb, 0, none⟩ = some (.slice (some ⟨cb, 0, none⟩) 10 10) := heap_cell (o := 0) hI.box rfl
    have k1 : wr.cell? ⟨mb, 1, none⟩ = some (.slice (some ⟨cb + 2, 0, none⟩) 1 1) := heap_cell (o := 1) hI.box rfl
    have kf : wr.cell? ⟨cb + 2, 0, none⟩ = some (.int .u64 ((2 ^ n - 4 : Nat) : Int)) := heap_cell (o := 0) hI.fre rfl
    have k1' : wr.drew.cell? ⟨mb, 1, none⟩ = some (.slice (some ⟨cb + 2, 0, none⟩) 1 1) := k1
    have kf' : wr.drew.cell? ⟨cb + 2, 0, none⟩ = some (.int .u64 ((2 ^ n - 4 : Nat) : Int)) := kf
    have ff : wr.drew.frozen? ⟨cb + 2, 0, none⟩ = false := heap_frozen (w := wr) hI.fre
    have HI2 := Lib.hid hI
    have HF2 := Lib.hid hF
    clear hI hF
    by_cases hlt : n < 10
    · have hd : decide ((n : Int) < 10) = true := decide_eq_true (by omega)
      have hq : n = 2 ∨ n = 3 ∨ n = 4 ∨ n = 5 ∨ n = 6 ∨ n = 7 ∨ n = 8 ∨ n = 9 := by omega
      rcases hq with rfl | rfl | rfl | rfl | rfl | rfl | rfl | rfl
      · go_upto_region 6 with fail
        go_region
        go_wp2_with fail
        go_roundw
        case rel =>
          refine ⟨3, by omega, by omega, by go_num, ⟨?_, ?_, ?_, rfl⟩, ?_⟩
          · exact ((Fr.refl (fun k => k = cb + 2) wr).setCell (p := ⟨cb + 2, 0, none⟩) (fun _ => rfl) _).drew.heap HI2.out.box (fun e => by omega)
          · exact ((Fr.refl (fun k => k = cb + 2) wr).setCell (p := ⟨cb + 2, 0, none⟩) (fun _ => rfl) _).drew.heap HI2.out.cnt (fun e => by omega)
          · have := heap_setAt7 HI2.out.fre 0 (.int .u64 (bits BinOp.or .u64 0 4))
            exact this
          · exact (HF2.out.setCell (p := ⟨cb + 2, 0, none⟩) (fun _ => rfl) _).drew
        case measure => decide
      · go_upto_region 6 with fail
        go_region
        go_wp2_with fail
        go_roundw
        case rel =>
          refine ⟨4, by omega, by omega, by go_num, ⟨?_, ?_, ?_, rfl⟩, ?_⟩
          · exact ((Fr.refl (fun k => k = cb + 2) wr).setCell (p := ⟨cb + 2, 0, none⟩) (fun _ => rfl) _).drew.heap HI2.out.box (fun e => by omega)
          · exact ((Fr.refl (fun k => k = cb + 2) wr).setCell (p := ⟨cb + 2, 0, none⟩) (fun _ => rfl) _).drew.heap HI2.out.cnt (fun e => by omega)
          · have := heap_setAt7 HI2.out.fre 0 (.int .u64 (bits BinOp.or .u64 4 8))
            exact this
          · exact (HF2.out.setCell (p := ⟨cb + 2, 0, none⟩) (fun _ => rfl) _).drew
        case measure => decide
      · go_upto_region 6 with fail
        go_region
        go_wp2_with fail
        go_roundw
        case rel =>
          refine ⟨5, by omega, by omega, by go_num, ⟨?_, ?_, ?_, rfl⟩, ?_⟩
          · exact ((Fr.refl (fun k => k = cb + 2) wr).setCell (p := ⟨cb + 2, 0, none⟩) (fun _ => rfl) _).drew.heap HI2.out.box (fun e => by omega)
          · exact ((Fr.refl (fun k => k = cb + 2) wr).setCell (p := ⟨cb + 2, 0, none⟩) (fun _ => rfl) _).drew.heap HI2.out.cnt (fun e => by omega)
          · have := heap_setAt7 HI2.out.fre 0 (.int .u64 (bits BinOp.or .u64 12 16))
            exact this
          · exact (HF2.out.setCell (p := ⟨cb + 2, 0, none⟩) (fun _ => rfl) _).drew
        case measure => decide
      · go_upto_region 6 with fail
        go_region
        go_wp2_with fail
        go_roundw
        case rel =>
          refine ⟨6, by omega, by omega, by go_num, ⟨?_, ?_, ?_, rfl⟩, ?_⟩
          · exact ((Fr.refl (fun k => k = cb + 2) wr).setCell (p := ⟨cb + 2, 0, none⟩) (fun _ => rfl) _).drew.heap HI2.out.box (fun e => by omega)
          · exact ((Fr.refl (fun k => k = cb + 2) wr).setCell (p := ⟨cb + 2, 0, none⟩) (fun _ => rfl) _).drew.heap HI2.out.cnt (fun e => by omega)
          · have := heap_setAt7 HI2.out.fre 0 (.int .u64 (bits BinOp.or .u64 28 32))
            exact this
          · exact (HF2.out.setCell (p := ⟨cb + 2, 0, none⟩) (fun _ => rfl) _).drew
        case measure => decide
      · go_upto_region 6 with fail
        go_region
        go_wp2_with fail
        go_roundw
        case rel =>
          refine ⟨7, by omega, by omega, by go_num, ⟨?_, ?_, ?_, rfl⟩, ?_⟩
          · exact ((Fr.refl (fun k => k = cb + 2) wr).setCell (p := ⟨cb + 2, 0, none⟩) (fun _ => rfl) _).drew.heap HI2.out.box (fun e => by omega)
          · exact ((Fr.refl (fun k => k = cb + 2) wr).setCell (p := ⟨cb + 2, 0, none⟩) (fun _ => rfl) _).drew.heap HI2.out.cnt (fun e => by omega)
          · have := heap_setAt7 HI2.out.fre 0 (.int .u64 (bits BinOp.or .u64 60 64))
            exact this
          · exact (HF2.out.setCell (p := ⟨cb + 2, 0, none⟩) (fun _ => rfl) _).drew
        case measure => decide
      · go_upto_region 6 with fail
        go_region
        go_wp2_with fail
        go_roundw
        case rel =>
          refine ⟨8, by omega, by omega, by go_num, ⟨?_, ?_, ?_, rfl⟩, ?_⟩
          · exact ((Fr.refl (fun k => k = cb + 2) wr).setCell (p := ⟨cb + 2, 0, none⟩) (fun _ => rfl) _).drew.heap HI2.out.box (fun e => by omega)
          · exact ((Fr.refl (fun k => k = cb + 2) wr).setCell (p := ⟨cb + 2, 0, none⟩) (fun _ => rfl) _).drew.heap HI2.out.cnt (fun e => by omega)
          · have := heap_setAt7 HI2.out.fre 0 (.int .u64 (bits BinOp.or .u64 124 128))
            exact this
          · exact (HF2.out.setCell (p := ⟨cb + 2, 0, none⟩) (fun _ => rfl) _).drew
        case measure => decide
      · go_upto_region 6 with fail
        go_region
        go_wp2_with fail
        go_roundw
        case rel =>
          refine ⟨9, by omega, by omega, by go_num, ⟨?_, ?_, ?_, rfl⟩, ?_⟩
          · exact ((Fr.refl (fun k => k = cb + 2) wr).setCell (p := ⟨cb + 2, 0, none⟩) (fun _ => rfl) _).drew.heap HI2.out.box (fun e => by omega)
          · exact ((Fr.refl (fun k => k = cb + 2) wr).setCell (p := ⟨cb + 2, 0, none⟩) (fun _ => rfl) _).drew.heap HI2.out.cnt (fun e => by omega)
          · have := heap_setAt7 HI2.out.fre 0 (.int .u64 (bits BinOp.or .u64 252 256))
            exact this
          · exact (HF2.out.setCell (p := ⟨cb + 2, 0, none⟩) (fun _ => rfl) _).drew
        case measure => decide
      · go_upto_region 6 with fail
        go_region
        go_wp2_with fail
        go_roundw
        case rel =>
          refine ⟨10, by omega, by omega, by go_num, ⟨?_, ?_, ?_, rfl⟩, ?_⟩
          · exact ((Fr.refl (fun k => k = cb + 2) wr).setCell (p := ⟨cb + 2, 0, none⟩) (fun _ => rfl) _).drew.heap HI2.out.box (fun e => by omega)
          · exact ((Fr.refl (fun k => k = cb + 2) wr).setCell (p := ⟨cb + 2, 0, none⟩) (fun _ => rfl) _).drew.heap HI2.out.cnt (fun e => by omega)
          · have := heap_setAt7 HI2.out.fre 0 (.int .u64 (bits BinOp.or .u64 508 512))
            exact this
          · exact (HF2.out.setCell (p := ⟨cb + 2, 0, none⟩) (fun _ => rfl) _).drew
        case measure => decide
    · obtain rfl : n = 10 := by omega
      go_wp2_with fail
      go_ret
      have := HI2.out
      have e : ((2 ^ 10 - 4 : Nat) : Int) = 1020 := by decide
      rw [e] at this
      exact ⟨mb, cb, cb + 2, rfl, this, HFW.out.trans' HF2.out (fun i hi e => by omega), by omega, by omega, by omega⟩

set_option maxHeartbeats 4000000 in
set_option maxRecDepth 1000000 in
theorem spchange_calls {w : World} {mb cb fb : Nat} {l : List Int} {x : Int} (h : SpIn w mb cb fb l x) (n : Nat) (hn : n = 2 ∧ x = 1020 ∨ n = 3 ∧ x = 1016 ∨ n = 4 ∧ x = 1008) (hc : l[n]? = some 0) :
    Calls Tryd.prog 65 #[.pointer (some ⟨mb, 0, none⟩), .int .i64 (n : Int), .int .i64 1] w fun e w' => e = .returned (.tuple #[]) ∧ SpIn w' mb cb fb (l.set n 1) (x - (2 ^ n : Nat)) ∧ Fr (fun k => k = cb ∨ k = fb) w w' := by
  have H := Lib.hid h
  have k0 : w.cell? ⟨mb, 0, none⟩ = some (.slice (some ⟨cb, 0, none⟩) 10 10) := heap_cell (o := 0) h.box rfl
  have k1 : w.cell? ⟨mb, 1, none⟩ = some (.slice (some ⟨fb, 0, none⟩) 1 1) := heap_cell (o := 1) h.box rfl
  have kf : w.cell? ⟨fb, 0, none⟩ = some (.int .u64 x) := heap_cell (o := 0) h.fre rfl
  have ff := heap_frozen (o := 0) h.fre
  have kc : w.cell? ⟨cb, 0 + n, none⟩ = some (.int .i64 0) := by
    exact heap_cell h.cnt (by simp [nds, hc])
  have fc := heap_frozen (o := 0 + n) h.cnt
  have n1 : mb ≠ cb := fun e => by have a := h.box; have b := h.cnt; rw [e, b] at a; injection a with a; injection a with _ a; exact absurd a (by decide)
  have n2 : mb ≠ fb := fun e => by have a := h.box; have b := h.fre; rw [e, b] at a; injection a with a; injection a with _ a; exact absurd a (by decide)
  have n3 : cb ≠ fb := fun e => by have a := h.cnt; have b := h.fre; rw [e, b] at a; injection a with a; injection a with _ a; exact absurd a (by decide)
  have m1 := n1.symm
  have m2 := n2.symm
  have m3 := n3.symm
  have HC := Lib.hid hc
  clear h hc
  rcases hn with ⟨rfl, rfl⟩ | ⟨rfl, rfl⟩ | ⟨rfl, rfl⟩
  all_goals (
    go_enter Tryd.func65, Tryd.ntmps65
    go_wp2
    go_end0
    refine ⟨rfl, ⟨?_, ?_, ?_, by rw [List.length_set]; exact H.out.len⟩, ?_⟩
    · exact (((Fr.refl (fun k => k = cb ∨ k = fb) w).setCell (p := ⟨cb, _, none⟩) (fun _ => .inl rfl) _).setCell (p := ⟨fb, _, none⟩) (fun _ => .inr rfl) _).heap H.out.box (fun e => e.elim n1 n2)
    · rw [← nds_set]
      exact ((Fr.refl (fun k => k = fb) _).setCell (p := ⟨fb, _, none⟩) (fun _ => rfl) _).heap (heap_setAt7 H.out.cnt _ _) n3
    · exact heap_setAt7 (((Fr.refl (fun k => k = cb) w).setCell (p := ⟨cb, _, none⟩) (fun _ => rfl) _).heap H.out.fre m3) 0 _
    · exact ((Fr.refl (fun k => k = cb ∨ k = fb) w).setCell (p := ⟨cb, _, none⟩) (fun _ => .inl rfl) _).setCell (p := ⟨fb, _, none⟩) (fun _ => .inr rfl) _)
end Go.Proofs.YtpcikbloflpahaaDoor
namespace Go.Proofs.YtpcikbloflpahaaDoor
set_option linter.unusedVariables false
set_option linter.unusedSimpArgs false
open Go.RowKit Go.Shelf Go.Maps

/-- The library's table, where it is read. -/
structure Tab7 (w : World) : Prop where
  c2 : w.cell? ⟨0, 3, none⟩ = some (.int .u8 2)
  c3 : w.cell? ⟨0, 7, none⟩ = some (.int .u8 3)
  c4 : w.cell? ⟨0, 15, none⟩ = some (.int .u8 4)
theorem Tab7.fr {S : Nat → Prop} {w w' : World} (h : Tab7 w) (hF : Fr S w w') (hn : ¬ S 0) : Tab7 w' := ⟨hF.cell h.c2 hn, hF.cell h.c3 hn, hF.cell h.c4 hn⟩
theorem Tab7.pos {w : World} (h : Tab7 w) : 0 < w.heap.size := by
  have := h.c2
  simp only [World.cell?] at this
  by_cases h0 : 0 < w.heap.size
  · exact h0
  · have e : w.heap.size = 0 := by omega
    have e2 : w.heap[0]? = none := Array.getElem?_eq_none (xs := w.heap) (i := 0) (by rw [e]; exact Nat.le_refl 0)
    simp [e2] at this

set_option maxHeartbeats 1000000 in
set_option maxRecDepth 1000000 in
theorem ones_calls (w : World) : Calls Tryd.prog 50 #[.int .u64 1020] w fun e w' => e = .returned (.int .i64 8) ∧ w' = w := by
  have b0 : bits BinOp.and IntKind.u64 510 6148914691236517205 = 340 := by kernel_rfl
  have b1 : bits BinOp.and IntKind.u64 1020 6148914691236517205 = 340 := by kernel_rfl
  have b2 : bits BinOp.and IntKind.u64 170 3689348814741910323 = 34 := by kernel_rfl
  have b3 : bits BinOp.and IntKind.u64 680 3689348814741910323 = 544 := by kernel_rfl
  have b4 : bits BinOp.and IntKind.u64 614 1085102592571150095 = 518 := by kernel_rfl
  have b9 : bits BinOp.and IntKind.i64 520 127 = 8 := by kernel_rfl
  go_enter Tryd.func50, Tryd.ntmps50
  go_wp2
  go_ret
  exact ⟨by first | rfl | kernel_rfl, rfl⟩

set_option maxHeartbeats 1000000 in
set_option maxRecDepth 1000000 in
theorem tz_calls {w : World} (hT : Tab7 w) (k : Nat) (x : Int) (hk : k = 2 ∧ x = 1020 ∨ k = 3 ∧ x = 1016 ∨ k = 4 ∧ x = 1008) : Calls Tryd.prog 88 #[.int .u64 x] w fun e w' => e = .returned (.int .i64 (k : Int)) ∧ w' = w := by
  obtain ⟨c2, c3, c4⟩ := hT
  rcases hk with ⟨rfl, rfl⟩ | ⟨rfl, rfl⟩ | ⟨rfl, rfl⟩
  · have key : IntKind.u64.wrap (bits BinOp.and IntKind.u64 1020 (IntKind.u64.wrap (-1020)) * 285870213051353865) / 288230376151711744 = 3 := by kernel_rfl
    have b0 : bits BinOp.and IntKind.u64 1020 18446744073709550596 = 4 := by kernel_rfl
    go_enter Tryd.func88, Tryd.ntmps88
    go_wp2_with (simp only [key])
    go_ret
    exact ⟨rfl, rfl⟩
  · have key : IntKind.u64.wrap (bits BinOp.and IntKind.u64 1016 (IntKind.u64.wrap (-1016)) * 285870213051353865) / 288230376151711744 = 7 := by kernel_rfl
    have b0 : bits BinOp.and IntKind.u64 1016 18446744073709550600 = 8 := by kernel_rfl
    go_enter Tryd.func88, Tryd.ntmps88
    go_wp2_with (simp only [key])
    go_ret
    exact ⟨rfl, rfl⟩
  · have key : IntKind.u64.wrap (bits BinOp.and IntKind.u64 1008 (IntKind.u64.wrap (-1008)) * 285870213051353865) / 288230376151711744 = 15 := by kernel_rfl
    have b0 : bits BinOp.and IntKind.u64 1008 18446744073709550608 = 16 := by kernel_rfl
    go_enter Tryd.func88, Tryd.ntmps88
    go_wp2_with (simp only [key])
    go_ret
    exact ⟨rfl, rfl⟩

set_option maxHeartbeats 2000000 in
set_option maxRecDepth 1000000 in
theorem spfree_calls {w : World} {mb cb fb : Nat} {l : List Int} (h : SpIn w mb cb fb l 1020) : Calls Tryd.prog 24 #[.pointer (some ⟨mb, 0, none⟩)] w fun e w' => e = .returned (.int .i64 8) ∧ w' = w := by
  have k1 : w.cell? ⟨mb, 1, none⟩ = some (.slice (some ⟨fb, 0, none⟩) 1 1) := heap_cell (o := 1) h.box rfl
  have kf : w.cell? ⟨fb, 0, none⟩ = some (.int .u64 1020) := heap_cell (o := 0) h.fre rfl
  have HO := Lib.hid (ones_calls w)
  clear h
  go_enter Tryd.func24, Tryd.ntmps24
  go_wp2_with fail
  go_loopw [3, 13] (fun a i wr => (a = .int .i64 0 ∧ i = .int .i64 0 ∨ a = .int .i64 8 ∧ i = .int .i64 1) ∧ wr = w) (fun _ i _ => 1 - (intOf i).toNat)
  case atStart => exact ⟨.inl ⟨rfl, rfl⟩, rfl⟩
  case round =>
    obtain ⟨h1 | h1, rfl⟩ := hrel
    · obtain ⟨rfl, rfl⟩ := h1
      go_wp2_with fail
      refine HO.out.mono ?_
      rintro e w1 ⟨rfl, rfl⟩
      go_wp2_with fail
      go_roundw
      case rel => exact ⟨.inr ⟨rfl, rfl⟩, by first | rfl | trivial⟩
      case measure => decide
    · obtain ⟨rfl, rfl⟩ := h1
      go_wp2_with fail
      go_ret
      exact ⟨rfl, rfl⟩

set_option maxHeartbeats 2000000 in
set_option maxRecDepth 1000000 in
theorem sptake_calls {w : World} {mb cb fb : Nat} {l : List Int} {x : Int} (h : SpIn w mb cb fb l x) (hT : Tab7 w) (n : Nat) (hn : n = 2 ∧ x = 1020 ∨ n = 3 ∧ x = 1016 ∨ n = 4 ∧ x = 1008) (hc : l[n]? = some 0) :
    Calls Tryd.prog 77 #[.pointer (some ⟨mb, 0, none⟩)] w fun e w' => e = .returned (.tuple #[.int .i64 (n : Int), .int .i64 0]) ∧ SpIn w' mb cb fb (l.set n 1) (x - (2 ^ n : Nat)) ∧ Fr (fun k => k = cb ∨ k = fb) w w' := by
  have k1 : w.cell? ⟨mb, 1, none⟩ = some (.slice (some ⟨fb, 0, none⟩) 1 1) := heap_cell (o := 1) h.box rfl
  have kf : w.cell? ⟨fb, 0, none⟩ = some (.int .u64 x) := heap_cell (o := 0) h.fre rfl
  have HZ := Lib.hid (tz_calls hT n x hn)
  have HC := Lib.hid (spchange_calls h n hn hc)
  have hx0 : (x == 0) = false := by rcases hn with ⟨-, rfl⟩ | ⟨-, rfl⟩ | ⟨-, rfl⟩ <;> rfl
  have hw : IntKind.i64.wrap (n : Int) = (n : Int) := IntWalk.i64_in _ (by omega)
  have hd : decide ((n : Int) < 0) = false := decide_eq_false (by omega)
  clear h hT hn hc
  go_enter Tryd.func77, Tryd.ntmps77
  go_wp2_with fail
  refine wp_scope_straight ?_
  go_wp2_with fail
  refine wp_label ?_
  go_wp2_with fail
  go_loopw [14] (fun i wr => i = .int .i64 0 ∧ wr = w) (fun i _ => 0)
  case atStart => exact ⟨rfl, rfl⟩
  case round =>
    obtain ⟨rfl, rfl⟩ := hrel
    go_wp2_with fail
    refine HZ.out.mono ?_
    rintro e w1 ⟨rfl, rfl⟩
    go_wp2_with fail
    refine HC.out.mono ?_
    rintro e w2 ⟨rfl, hp⟩
    have HP := Lib.hid hp
    clear hp
    go_wp2_with fail
    dsimp only [Exit.noGoto]
    go_ret2
    exact ⟨rfl, HP.out⟩
end Go.Proofs.YtpcikbloflpahaaDoor
namespace Go.Proofs.YtpcikbloflpahaaDoor
set_option linter.unusedVariables false
set_option linter.unusedSimpArgs false
open Go.RowKit Go.Shelf Go.Maps

theorem wmust_calls (e : Value) (w : World) : Calls Tryd.prog 81 #[.bool true, e] w fun e w' => e = .returned (.tuple #[]) ∧ w' = w := by
  go_enter Tryd.func81, Tryd.ntmps81
  go_wp2
  go_end0
  exact ⟨rfl, rfl⟩
set_option maxHeartbeats 1000000 in
set_option maxRecDepth 1000000 in
theorem each0_calls {w : World} {db : Nat} {A : Nat → Prop} {acts : Nat} (h : DkAt w db A acts) (fn : Fn) (fi cap : Array Value) : Calls Tryd.prog 72 #[.pointer (some ⟨db, 0, none⟩), .int .i64 0, .func fn fi cap] w fun e w' => e = .returned (.tuple #[]) ∧ Fr No w w' := by
  have hF : Fr No w ((w.alloc (Obj.cells #[.pointer (some ⟨db, 0, none⟩)] 36)).alloc (Obj.cells #[.func fn fi cap] 138)) := ((Fr.refl No w).alloc _).alloc _
  have HD := Lib.hid (ddown_calls (h.fr0 hF))
  have HM := Lib.hid wmust_calls
  have HF := Lib.hid hF
  clear h hF
  go_enter Tryd.func72, Tryd.ntmps72
  go_wp2_with fail
  refine HD.out.mono ?_
  rintro e w1 ⟨rfl, rfl⟩
  go_wp2_with fail
  refine (HM.out _ _).mono ?_
  rintro e w1 ⟨rfl, rfl⟩
  go_wp2_with fail
  refine bodyPost_ret (results_none rfl _ _ _) rfl ?_
  exact ⟨rfl, HF.out⟩
theorem wcatch_idle (p : Addr) (w : World) :
    CallsD Tryd.prog 80 #[.pointer (some p)] .returning w fun e u' w' => e = .returned (.tuple #[]) ∧ u' = .returning ∧ w' = w := by
  refine callsD_of_wpS Tryd.func80 rfl fun c₀ cs hu => ?_
  apply wpS_seq
  apply wpS_region
  simp [wpOpsS, go_sem, recoverD, hu, Tryd.ntmps80, Exit.thenS]
  apply wpS_seq
  apply wpS_region
  simp [wpOpsS, go_sem, recoverD, hu, Exit.thenS, Act.put, Act.eval]
  refine wpS_cond (t := false) (by simp [Act.eval, Array.replicate]) ?_
  simp only [Bool.false_eq_true, if_false]
  refine wpS_of_wp (wp_skip ?_)
  cases c₀
  simp_all [bodyPostS, results, Tryd.results80]

set_option maxHeartbeats 1000000 in
set_option maxRecDepth 1000000 in
theorem wguard_calls {w : World} (cap : Array Value) {S : Nat → Prop} {R : World → Prop} (hS : ¬ S w.heap.size) (h : Calls Tryd.prog 71 cap (w.alloc (Obj.cells #[.int .i64 0] 25)) fun e w' => e = .returned (.tuple #[]) ∧ Fr S (w.alloc (Obj.cells #[.int .i64 0] 25)) w' ∧ R w') :
    Calls Tryd.prog 70 #[.func (.func 71) #[] cap] w fun e w' => e = .returned (.int .i64 0) ∧ ∃ w1, R w1 ∧ Fr S (w.alloc (Obj.cells #[.int .i64 0] 25)) w1 ∧ w' = w1.setCell ⟨w.heap.size, 0, none⟩ (.int .i64 0) := by
  have hmf : ∀ (fn : Fn) (first cap : Array Value) (w : World), (Instr.makeFunc fn first cap).run Tryd.prog w = .ok (.func fn first cap) w := fun _ _ _ _ => rfl
  have H := Lib.hid h
  have HN := Lib.hid hS
  clear h hS
  go_enter_defers Tryd.func70, Tryd.ntmps70
  go_wp2_with fail
  refine H.out.mono ?_
  rintro e w1 ⟨rfl, hF, hR⟩
  have hb := hF.heap (heap_new w (Obj.cells #[.int .i64 0] 25)) HN.out
  have k0 := heap_cell (o := 0) hb rfl
  have f0 := heap_frozen (o := 0) hb
  have HF := Lib.hid hF
  have HR := Lib.hid hR
  have HK := Lib.hid (heap_cell (o := 0) (heap_setAt7 (cs := [.int .i64 0]) hb 0 (.int .i64 0)) rfl)
  clear hF hR hb
  go_wp2_with fail
  refine leaves_cons (f := 80) (args := #[.pointer (some ⟨w.heap.size, 0, none⟩)]) (by simp) (by simp [go_sem]) ?_
  refine (wcatch_idle ⟨w.heap.size, 0, none⟩ _).mono ?_
  rintro e u' w'' ⟨rfl, rfl, rfl⟩
  simp [Leaves, settle, results, Tryd.results70, go_sem]
  exact ⟨.int .i64 0, by rw [HK.out]; rfl, rfl, w1, HR.out, HF.out, rfl⟩
theorem scatch_idle (p : Addr) (w : World) :
    CallsD Tryd.prog 56 #[.pointer (some p)] .returning w fun e u' w' => e = .returned (.tuple #[]) ∧ u' = .returning ∧ w' = w := by
  refine callsD_of_wpS Tryd.func56 rfl fun c₀ cs hu => ?_
  apply wpS_seq
  apply wpS_region
  simp [wpOpsS, go_sem, recoverD, hu, Tryd.ntmps56, Exit.thenS]
  apply wpS_seq
  apply wpS_region
  simp [wpOpsS, go_sem, recoverD, hu, Exit.thenS, Act.put, Act.eval]
  refine wpS_cond (t := false) (by simp [Act.eval, Array.replicate]) ?_
  simp only [Bool.false_eq_true, if_false]
  refine wpS_of_wp (wp_skip ?_)
  cases c₀
  simp_all [bodyPostS, results, Tryd.results56]

set_option maxHeartbeats 1000000 in
set_option maxRecDepth 1000000 in
theorem sguardc_calls {w : World} (cap : Array Value) {S : Nat → Prop} {R : World → Prop} (hS : ¬ S w.heap.size) (h : Calls Tryd.prog 35 cap (w.alloc (Obj.cells #[.int .i64 0] 25)) fun e w' => e = .returned (.tuple #[]) ∧ Fr S (w.alloc (Obj.cells #[.int .i64 0] 25)) w' ∧ R w') :
    Calls Tryd.prog 34 #[.func (.func 35) #[] cap] w fun e w' => e = .returned (.int .i64 0) ∧ ∃ w1, R w1 ∧ Fr S (w.alloc (Obj.cells #[.int .i64 0] 25)) w1 ∧ w' = w1.setCell ⟨w.heap.size, 0, none⟩ (.int .i64 0) := by
  have hmf : ∀ (fn : Fn) (first cap : Array Value) (w : World), (Instr.makeFunc fn first cap).run Tryd.prog w = .ok (.func fn first cap) w := fun _ _ _ _ => rfl
  have H := Lib.hid h
  have HN := Lib.hid hS
  clear h hS
  go_enter_defers Tryd.func34, Tryd.ntmps34
  go_wp2_with fail
  refine H.out.mono ?_
  rintro e w1 ⟨rfl, hF, hR⟩
  have hb := hF.heap (heap_new w (Obj.cells #[.int .i64 0] 25)) HN.out
  have k0 := heap_cell (o := 0) hb rfl
  have f0 := heap_frozen (o := 0) hb
  have HF := Lib.hid hF
  have HR := Lib.hid hR
  have HK := Lib.hid (heap_cell (o := 0) (heap_setAt7 (cs := [.int .i64 0]) hb 0 (.int .i64 0)) rfl)
  clear hF hR hb
  go_wp2_with fail
  refine leaves_cons (f := 56) (args := #[.pointer (some ⟨w.heap.size, 0, none⟩)]) (by simp) (by simp [go_sem]) ?_
  refine (scatch_idle ⟨w.heap.size, 0, none⟩ _).mono ?_
  rintro e u' w'' ⟨rfl, rfl, rfl⟩
  simp [Leaves, settle, results, Tryd.results34, go_sem]
  exact ⟨.int .i64 0, by rw [HK.out]; rfl, rfl, w1, HR.out, HF.out, rfl⟩
set_option maxHeartbeats 1000000 in
set_option maxRecDepth 1000000 in
theorem sguardb_calls {w : World} (cap : Array Value) {S : Nat → Prop} {R : World → Prop} (hS : ¬ S w.heap.size) (h : Calls Tryd.prog 46 cap (w.alloc (Obj.cells #[.int .i64 0] 25)) fun e w' => e = .returned (.tuple #[]) ∧ Fr S (w.alloc (Obj.cells #[.int .i64 0] 25)) w' ∧ R w') :
    Calls Tryd.prog 34 #[.func (.func 46) #[] cap] w fun e w' => e = .returned (.int .i64 0) ∧ ∃ w1, R w1 ∧ Fr S (w.alloc (Obj.cells #[.int .i64 0] 25)) w1 ∧ w' = w1.setCell ⟨w.heap.size, 0, none⟩ (.int .i64 0) := by
  have hmf : ∀ (fn : Fn) (first cap : Array Value) (w : World), (Instr.makeFunc fn first cap).run Tryd.prog w = .ok (.func fn first cap) w := fun _ _ _ _ => rfl
  have H := Lib.hid h
  have HN := Lib.hid hS
  clear h hS
  go_enter_defers Tryd.func34, Tryd.ntmps34
  go_wp2_with fail
  refine H.out.mono ?_
  rintro e w1 ⟨rfl, hF, hR⟩
  have hb := hF.heap (heap_new w (Obj.cells #[.int .i64 0] 25)) HN.out
  have k0 := heap_cell (o := 0) hb rfl
  have f0 := heap_frozen (o := 0) hb
  have HF := Lib.hid hF
  have HR := Lib.hid hR
  have HK := Lib.hid (heap_cell (o := 0) (heap_setAt7 (cs := [.int .i64 0]) hb 0 (.int .i64 0)) rfl)
  clear hF hR hb
  go_wp2_with fail
  refine leaves_cons (f := 56) (args := #[.pointer (some ⟨w.heap.size, 0, none⟩)]) (by simp) (by simp [go_sem]) ?_
  refine (scatch_idle ⟨w.heap.size, 0, none⟩ _).mono ?_
  rintro e u' w'' ⟨rfl, rfl, rfl⟩
  simp [Leaves, settle, results, Tryd.results34, go_sem]
  exact ⟨.int .i64 0, by rw [HK.out]; rfl, rfl, w1, HR.out, HF.out, rfl⟩

set_option maxHeartbeats 1000000 in
set_option maxRecDepth 1000000 in
theorem reach1_calls {w : World} {db p0 p1 p2 : Nat} {A : Nat → Prop} {acts : Nat} (h : DkAt w db A acts) (h0 : w.cell? ⟨p0, 0, none⟩ = some (.pointer (some ⟨db, 0, none⟩))) (h1 : w.cell? ⟨p1, 0, none⟩ = some (.int .i64 0)) :
    Calls Tryd.prog 71 #[.pointer (some ⟨p0, 0, none⟩), .pointer (some ⟨p1, 0, none⟩), .pointer (some ⟨p2, 0, none⟩)] w fun e w' => e = .returned (.tuple #[]) ∧ Fr No w w' := by
  have hmf : ∀ (fn : Fn) (first cap : Array Value) (w : World), (Instr.makeFunc fn first cap).run Tryd.prog w = .ok (.func fn first cap) w := fun _ _ _ _ => rfl
  have HE := Lib.hid (each0_calls h)
  clear h
  go_enter Tryd.func71, Tryd.ntmps71
  go_wp2_with fail
  refine (HE.out _ _ _).mono ?_
  rintro e w1 ⟨rfl, hF⟩
  go_wp2_with fail
  go_end0
  exact ⟨rfl, hF⟩
set_option maxHeartbeats 1000000 in
set_option maxRecDepth 1000000 in
theorem reach0_calls {w : World} {db : Nat} {A : Nat → Prop} {acts : Nat} (h : DkAt w db A acts) : Calls Tryd.prog 57 #[.pointer (some ⟨db, 0, none⟩), .int .i64 0] w fun e w' => e = .returned (.tuple #[.slice none 0 0, .int .i64 0]) ∧ Fr No w w' := by
  have hmf : ∀ (fn : Fn) (first cap : Array Value) (w : World), (Instr.makeFunc fn first cap).run Tryd.prog w = .ok (.func fn first cap) w := fun _ _ _ _ => rfl
  have H := Lib.hid h
  clear h
  go_enter Tryd.func57, Tryd.ntmps57
  go_wp2_with fail
  generalize hW : (((w.alloc (Obj.cells #[.pointer (some ⟨db, 0, none⟩)] 36)).alloc (Obj.cells #[.int .i64 0] 3)).alloc (Obj.cells #[.slice none 0 0] 43)) = W
  have hF : Fr No w W := by rw [← hW]; exact (((Fr.refl No w).alloc _).alloc _).alloc _
  have hs : W.heap.size = w.heap.size + 3 := by rw [← hW]; simp
  have hb0 : W.heap[w.heap.size]? = some (.cells [.pointer (some ⟨db, 0, none⟩)].toArray 36 (0, 0)) := by rw [← hW]; exact heap_alloc _ (heap_alloc _ (heap_new _ _))
  have hb1 : W.heap[w.heap.size + 1]? = some (.cells [.int .i64 0].toArray 3 (0, 0)) := by rw [← hW]; exact heap_alloc _ (heap_new2_7 w _ _)
  have hb2 : W.heap[w.heap.size + 1 + 1]? = some (.cells [.slice none 0 0].toArray 43 (0, 0)) := by
    rw [← hW]
    have := heap_new ((w.alloc (Obj.cells #[.pointer (some ⟨db, 0, none⟩)] 36)).alloc (Obj.cells #[.int .i64 0] 3)) (Obj.cells #[.slice none 0 0] 43)
    simpa using this
  have hFA : Fr No W (W.alloc (Obj.cells #[.int .i64 0] 25)) := (Fr.refl No W).alloc _
  refine (wguard_calls (S := No) (R := fun _ => True) _ (fun h => h) ((reach1_calls ((H.out.fr0 hF).fr0 hFA) (heap_cell (o := 0) (heap_alloc _ hb0) rfl) (heap_cell (o := 0) (heap_alloc _ hb1) rfl)).mono ?_)).mono ?_
  · rintro e w1 ⟨rfl, h⟩
    exact ⟨rfl, h, trivial⟩
  rintro e w2 ⟨rfl, w1, -, hF1, rfl⟩
  have hFW1 : Fr No W w1 := hFA.trans hF1
  have hF2 : Fr No W (w1.setCell ⟨W.heap.size, 0, none⟩ (.int .i64 0)) := hFW1.setCell (p := ⟨W.heap.size, 0, none⟩) (fun h => absurd h (by simp)) _
  have k2 := heap_cell (o := 0) (hF2.heap hb2 (fun h => h)) rfl
  have HF2 := Lib.hid (hF.trans hF2)
  generalize w1.setCell ⟨W.heap.size, 0, none⟩ (.int .i64 0) = W2 at *
  clear hW hF hs hb0 hb1 hb2 hFA hF1 hFW1 hF2
  go_wp2_with fail
  go_ret2
  exact ⟨rfl, HF2.out⟩
end Go.Proofs.YtpcikbloflpahaaDoor
namespace Go.Proofs.YtpcikbloflpahaaDoor
set_option linter.unusedVariables false
set_option linter.unusedSimpArgs false
open Go.RowKit Go.Shelf Go.Maps

/-- A writer: its disk, its map of sectors. -/
structure WrIn (w : World) (db mb cb fb wb : Nat) (A : Nat → Prop) (acts : Nat) (l : List Int) (x : Int) : Prop where
  dk : DkAt w db A acts
  sp : SpIn w mb cb fb l x
  tab : Tab7 w
  box : w.heap[wb]? = some (.cells [.pointer (some ⟨db, 0, none⟩), .pointer (some ⟨mb, 0, none⟩)].toArray 108 (0, 0))
  a1 : ¬ A mb
  a2 : ¬ A cb
  a3 : ¬ A fb
  a4 : ¬ A wb
  a5 : ¬ A 0
  b1 : cb ≠ 0
  b2 : fb ≠ 0
def WrS (A : Nat → Prop) (cb fb : Nat) : Nat → Prop := fun k => A k ∨ k = cb ∨ k = fb
theorem WrIn.fr {S : Nat → Prop} {w w' : World} {db mb cb fb wb : Nat} {A : Nat → Prop} {acts : Nat} {l : List Int} {x : Int} (h : WrIn w db mb cb fb wb A acts l x) (hF : Fr S w w') (hn : ∀ k, S k → ¬ A k ∧ k ≠ mb ∧ k ≠ cb ∧ k ≠ fb ∧ k ≠ wb ∧ k ≠ 0) : WrIn w' db mb cb fb wb A acts l x :=
  ⟨h.dk.fr hF (fun k hk hs => (hn k hs).1 hk), ⟨hF.heap h.sp.box (fun e => (hn _ e).2.1 rfl), hF.heap h.sp.cnt (fun e => (hn _ e).2.2.1 rfl), hF.heap h.sp.fre (fun e => (hn _ e).2.2.2.1 rfl), h.sp.len⟩, h.tab.fr hF (fun e => (hn _ e).2.2.2.2.2 rfl), hF.heap h.box (fun e => (hn _ e).2.2.2.2.1 rfl), h.a1, h.a2, h.a3, h.a4, h.a5, h.b1, h.b2⟩
theorem WrIn.fr0 {w w' : World} {db mb cb fb wb : Nat} {A : Nat → Prop} {acts : Nat} {l : List Int} {x : Int} (h : WrIn w db mb cb fb wb A acts l x) (hF : Fr No w w') : WrIn w' db mb cb fb wb A acts l x := h.fr hF (fun _ h => h.elim)
theorem WrIn.wc {w : World} {db mb cb fb wb : Nat} {A : Nat → Prop} {acts : Nat} {l : List Int} {x : Int} (h : WrIn w db mb cb fb wb A acts l x) : wb ≠ cb ∧ wb ≠ fb ∧ mb ≠ cb ∧ mb ≠ fb ∧ cb ≠ fb := by
  refine ⟨fun e => ?_, fun e => ?_, fun e => ?_, fun e => ?_, fun e => ?_⟩
  · have a := h.box; have b := h.sp.cnt; rw [e, b] at a; injection a with a; injection a with _ a; exact absurd a (by decide)
  · have a := h.box; have b := h.sp.fre; rw [e, b] at a; injection a with a; injection a with _ a; exact absurd a (by decide)
  · have a := h.sp.box; have b := h.sp.cnt; rw [e, b] at a; injection a with a; injection a with _ a; exact absurd a (by decide)
  · have a := h.sp.box; have b := h.sp.fre; rw [e, b] at a; injection a with a; injection a with _ a; exact absurd a (by decide)
  · have a := h.sp.cnt; have b := h.sp.fre; rw [e, b] at a; injection a with a; injection a with _ a; exact absurd a (by decide)
/-- A sector taken. -/
theorem WrIn.took {w w' : World} {db mb cb fb wb : Nat} {A : Nat → Prop} {acts : Nat} {l l' : List Int} {x x' : Int} (h : WrIn w db mb cb fb wb A acts l x) (h1 : SpIn w' mb cb fb l' x') (hF : Fr (fun k => k = cb ∨ k = fb) w w') : WrIn w' db mb cb fb wb A acts l' x' :=
  ⟨h.dk.fr hF (fun k hk hs => hs.elim (fun e => h.a2 (e ▸ hk)) (fun e => h.a3 (e ▸ hk))), h1, h.tab.fr hF (fun hs => hs.elim (fun e => h.b1 e.symm) (fun e => h.b2 e.symm)), hF.heap h.box (fun hs => hs.elim h.wc.1 h.wc.2.1), h.a1, h.a2, h.a3, h.a4, h.a5, h.b1, h.b2⟩
theorem heap_lt7 {w : World} {b : Nat} {o : Obj} (h : w.heap[b]? = some o) : b < w.heap.size := by
  by_cases hb : b < w.heap.size
  · exact hb
  · rw [Array.getElem?_eq_none (by omega)] at h; cases h
/-- A sector written. -/
theorem WrIn.wrote {w w' : World} {db mb cb fb wb : Nat} {A A' : Nat → Prop} {acts acts' : Nat} {l : List Int} {x : Int} (h : WrIn w db mb cb fb wb A acts l x) (h1 : DkAt w' db A' acts') (hF : Fr A w w') (hG : Gr7 w A A') : WrIn w' db mb cb fb wb A' acts' l x := by
  have hg : ∀ b, ¬ A b → b < w.heap.size → ¬ A' b := fun b h1 h2 h3 => (hG b h3).elim h1 (fun h => by omega)
  exact ⟨h1, ⟨hF.heap h.sp.box h.a1, hF.heap h.sp.cnt h.a2, hF.heap h.sp.fre h.a3, h.sp.len⟩, h.tab.fr hF h.a5, hF.heap h.box h.a4, hg _ h.a1 (heap_lt7 h.sp.box), hg _ h.a2 (heap_lt7 h.sp.cnt), hg _ h.a3 (heap_lt7 h.sp.fre), hg _ h.a4 (heap_lt7 h.box), hg _ h.a5 h.tab.pos, h.b1, h.b2⟩

set_option maxHeartbeats 1000000 in
set_option maxRecDepth 1000000 in
theorem enc1_calls (v : Value) (w : World) : Calls Tryd.prog 67 #[v] w fun e w' => e = .returned (.tuple #[v, .int .i64 0]) ∧ w = w' := by
  go_enter Tryd.func67, Tryd.ntmps67
  go_wp2
  go_ret2
  exact ⟨rfl, rfl⟩

set_option maxHeartbeats 2000000 in
set_option maxRecDepth 1000000 in
theorem writeb_calls {w : World} {db mb cb fb wb : Nat} {A : Nat → Prop} {acts : Nat} {l : List Int} {x : Int} (h : WrIn w db mb cb fb wb A acts l x) (ha : acts < 10) (n : Nat) (hn : n = 2 ∧ x = 1020 ∨ n = 3 ∧ x = 1016 ∨ n = 4 ∧ x = 1008) (hc : l[n]? = some 0) (b off cap : Nat) (bs : List Int) (hl : (bys bs).length = 64) (hsl : ∀ w', Fr (WrS A cb fb) w w' → w'.rangeAt b off (bys bs)) :
    Calls Tryd.prog 66 #[.pointer (some ⟨wb, 0, none⟩), .slice (some ⟨b, off, none⟩) 64 cap, .func (.func 67) #[] #[]] w fun e w' => e = .returned (.int .i64 (n : Int)) ∧ ∃ A', WrIn w' db mb cb fb wb A' (acts + 1) (l.set n 1) (x - (2 ^ n : Nat)) ∧ Fr (WrS A cb fb) w w' ∧ Gr7 w A A' := by
  have HE := Lib.hid enc1_calls
  have HM := Lib.hid must_calls
  have HT := Lib.hid (sptake_calls h.sp h.tab n hn hc)
  have HSL := Lib.hid hsl
  have HL := Lib.hid hl
  have H := Lib.hid h
  have k0 : w.cell? ⟨wb, 0, none⟩ = some (.pointer (some ⟨db, 0, none⟩)) := heap_cell (o := 0) h.box rfl
  have k1 : w.cell? ⟨wb, 1, none⟩ = some (.pointer (some ⟨mb, 0, none⟩)) := heap_cell (o := 1) h.box rfl
  have hn10 : n < 10 := by omega
  clear h hsl hl hn hc
  go_enter Tryd.func66, Tryd.ntmps66
  go_wp2_with fail
  refine (HE.out _ _).mono ?_
  rintro e w1 ⟨rfl, rfl⟩
  go_wp2_with fail
  refine (HM.out _).mono ?_
  rintro e w1 ⟨rfl, rfl⟩
  go_wp2_with fail
  refine HT.out.mono ?_
  rintro e w1 ⟨rfl, h1, hF1⟩
  have H1 := Lib.hid (H.out.took h1 hF1)
  have HF1 := Lib.hid (hF1.mono (T := WrS A cb fb) (fun k _ hk => .inr hk))
  have k0 : w1.cell? ⟨wb, 0, none⟩ = some (.pointer (some ⟨db, 0, none⟩)) := heap_cell (o := 0) H1.out.box rfl
  clear h1 hF1
  go_wp2_with fail
  refine (HM.out _).mono ?_
  rintro e w2 ⟨rfl, rfl⟩
  go_wp2_with fail
  refine (dwrite_calls H1.out.dk ha n hn10 b off cap bs HL.out (fun w' hF => HSL.out _ (HF1.out.trans (hF.mono (fun k _ hk => .inl hk))))).mono ?_
  rintro e w2 ⟨rfl, A', h2, hF2, hG2⟩
  have H2 := Lib.hid (H1.out.wrote h2 hF2 hG2)
  have HF2 := Lib.hid (HF1.out.trans (hF2.mono (fun k _ hk => .inl hk)))
  have HG2 : RowKit.Hid (Gr7 w A A') := Lib.hid (fun j hj => (hG2 j hj).imp id (fun h => Nat.le_trans HF1.out.size h))
  clear h2 hF2 hG2
  go_wp2_with fail
  refine (HM.out _).mono ?_
  rintro e w3 ⟨rfl, rfl⟩
  go_wp2_with fail
  go_ret
  exact ⟨rfl, A', H2.out, HF2.out, HG2.out⟩

theorem row_range7 {w : World} {B n : Nat} {r : Value} {cs : List Value} {t : TypeId} (h : w.ownsRow B t 1 r n cs) (hne : cs ≠ []) : ∃ b off cap, r = .slice (some ⟨b, off, none⟩) n cap ∧ B ≤ b ∧ b < w.heap.size ∧ w.rangeAt b off cs := by
  obtain ⟨a, c, h1, h2, h3, h4⟩ := Sl.of_owns h
  obtain ⟨b, off, rfl⟩ := h3 hne
  have := h.lt b (by rw [h1]; rfl)
  exact ⟨b, off, c, h1, this.1, this.2, fun j v hj => h4 b off j v rfl hj⟩
set_option maxHeartbeats 2000000 in
set_option maxRecDepth 1000000 in
theorem writen_calls {w : World} {db mb cb fb wb : Nat} {A : Nat → Prop} {acts : Nat} {l : List Int} {x : Int} (h : WrIn w db mb cb fb wb A acts l x) (ha : acts < 10) (n : Nat) (hn : n = 2 ∧ x = 1020 ∨ n = 3 ∧ x = 1016 ∨ n = 4 ∧ x = 1008) (hc : l[n]? = some 0) (nl : List Int) (hnl : nl.length = 32) (hnr : ∀ x ∈ nl, 0 ≤ x ∧ x ≤ 65535) :
    Calls Tryd.prog 68 #[.pointer (some ⟨wb, 0, none⟩), .agg (nds nl).toArray, .func (.func 69) #[] #[]] w fun e w' => e = .returned (.int .i64 (n : Int)) ∧ ∃ A', WrIn w' db mb cb fb wb A' (acts + 1) (l.set n 1) (x - (2 ^ n : Nat)) ∧ Fr (WrS A cb fb) w w' ∧ Gr7 w A A' := by
  have hFA : Fr No w (w.alloc (Obj.cells (nds nl).toArray 99)) := (Fr.refl No w).alloc _
  have HN := Lib.hid (heap_nd (heap_new w (Obj.cells (nds nl).toArray 99)) hnl)
  have HE := Lib.hid (nencode_calls nl hnl hnr (w.alloc (Obj.cells (nds nl).toArray 99)))
  have HM := Lib.hid must_calls
  have HT := Lib.hid (fun (w1 : World) (hF : Fr No w w1) => sptake_calls (h.fr0 hF).sp (h.fr0 hF).tab n hn hc)
  have H := Lib.hid h
  have HFA := Lib.hid hFA
  have hn10 : n < 10 := by omega
  clear h hn hc hnl hnr hFA
  go_enter Tryd.func68, Tryd.ntmps68
  go_wp2_with (first
    | (refine load_nd rfl _ rfl w.heap.size 0 nl rfl HN.out ?_)
    | fail "arm")
  refine HE.out.mono ?_
  rintro e w1 ⟨r, bs, rfl, hF1, hlen, -, hown⟩
  obtain ⟨b, off, cap, rfl, hb1, hb2, hr⟩ := row_range7 hown (by intro e; have := congrArg List.length e; simp [bys, hlen] at this)
  have hF01 := HFA.out.trans hF1
  have HF01 := Lib.hid hF01
  have HR := Lib.hid hr
  have HL : RowKit.Hid ((bys bs).length = 64) := Lib.hid (by simp [bys, hlen])
  have hbw : w.heap.size ≤ b := Nat.le_trans HFA.out.size hb1
  have HBW := Lib.hid hbw
  have H1 := Lib.hid (H.out.fr0 hF01)
  have k0 : w1.cell? ⟨wb, 0, none⟩ = some (.pointer (some ⟨db, 0, none⟩)) := heap_cell (o := 0) H1.out.box rfl
  have k1 : w1.cell? ⟨wb, 1, none⟩ = some (.pointer (some ⟨mb, 0, none⟩)) := heap_cell (o := 1) H1.out.box rfl
  clear hF1 hlen hown hr hF01 hbw hb1
  go_wp2_with fail
  refine (HM.out _).mono ?_
  rintro e w2 ⟨rfl, rfl⟩
  go_wp2_with fail
  refine (HT.out w1 HF01.out).mono ?_
  rintro e w2 ⟨rfl, h1, hF1⟩
  have H2 := Lib.hid (H1.out.took h1 hF1)
  have HF12 := Lib.hid (hF1.mono (T := WrS A cb fb) (fun k _ hk => .inr hk))
  have k0 : w2.cell? ⟨wb, 0, none⟩ = some (.pointer (some ⟨db, 0, none⟩)) := heap_cell (o := 0) H2.out.box rfl
  clear h1 hF1 k1
  go_wp2_with fail
  refine (HM.out _).mono ?_
  rintro e w3 ⟨rfl, rfl⟩
  go_wp2_with fail
  refine (dwrite_calls H2.out.dk ha n hn10 b off cap bs HL.out (fun w' hF => ?_)).mono ?_
  · have hFt := HF12.out.trans (hF.mono (fun k _ hk => .inl hk))
    refine fun j v hj => hFt.cell (HR.out j v hj) (fun e => ?_)
    have := HBW.out
    have s1 := heap_lt7 H.out.sp.cnt
    have s2 := heap_lt7 H.out.sp.fre
    rcases e with e | e | e
    · have := H.out.dk.low _ e; omega
    · omega
    · omega
  rintro e w3 ⟨rfl, A', h2, hF2, hG2⟩
  have H3 := Lib.hid (H2.out.wrote h2 hF2 hG2)
  have HF2 := Lib.hid (HF01.out.no.trans (HF12.out.trans (hF2.mono (fun k _ hk => .inl hk))))
  have HG2 : RowKit.Hid (Gr7 w A A') := Lib.hid (fun j hj => (hG2 j hj).imp id (fun h => Nat.le_trans (Nat.le_trans HF01.out.size HF12.out.size) h))
  clear h2 hF2 hG2
  go_wp2_with fail
  refine (HM.out _).mono ?_
  rintro e w4 ⟨rfl, rfl⟩
  go_wp2_with fail
  go_ret
  exact ⟨rfl, A', H3.out, HF2.out, HG2.out⟩
end Go.Proofs.YtpcikbloflpahaaDoor
namespace Go.Proofs.YtpcikbloflpahaaDoor
set_option linter.unusedVariables false
set_option linter.unusedSimpArgs false
open Go.RowKit Go.Shelf Go.Maps

/-- Block r is an iterator over the map f at block b; left: which keys are still to come. -/
def RgAt (P : Program) (k : TypeId) (w : World) (b r : Nat) (f : Int → Option Value) (left : Int → Bool) (cnt : Nat) : Prop :=
  ∃ n D L, w.ranges P k Rv b r n D L cnt ∧ n = Maps.size D ∧ Agr D f ∧ ∀ i, L (kI i) = left i
section
variable {P : Program} {k : TypeId} {w : World} {b r c : Nat} {f : Int → Option Value} {left : Int → Bool} {cnt : Nat}
theorem RgAt.left_eq (h : RgAt P k w b r f left cnt) : w.rangeLeft b r = cnt := by obtain ⟨n, D, L, h, -⟩ := h; exact h.left_eq
theorem RgAt.map (h : RgAt P k w b r f left cnt) : ∃ c, MapAt P k w b c f := by obtain ⟨n, D, L, h, hn, ha, -⟩ := h; exact ⟨n, D, h.owns, hn.symm, ha⟩
theorem RgAt.fr {S : Nat → Prop} {w' : World} (h : RgAt P k w b r f left cnt) (hF : Fr S w w') (hb : ¬ S b) (hr : ¬ S r) : RgAt P k w' b r f left cnt := by
  obtain ⟨n, D, L, h, h2⟩ := h
  refine ⟨n, D, L, ?_, h2⟩
  obtain ⟨es, clock, since, seen, c0, q1, q2, q3, q4, q5, q6⟩ := h
  exact ⟨es, clock, since, seen, c0, hF.heap q1 hb, q2, q3, q4, hF.heap q5 hr, q6⟩
theorem RgAt.ne (h : RgAt P k w b r f left cnt) : r ≠ b := by obtain ⟨n, D, L, h, -⟩ := h; exact h.ne
theorem RgAt.lt (h : RgAt P k w b r f left cnt) : r < w.heap.size := by obtain ⟨n, D, L, h, -⟩ := h; exact h.lt
theorem MapAt.rng {t e : TypeId} (h : MapAt P k w b c f) (hk : P.underlying k = some (.int .i64)) (ht : P.underlying t = some (.map k e)) :
    ∃ w', (Instr.range t (.map (some b))).run P w = .ok (.pointer (some ⟨w.heap.size, 0, none⟩)) w' ∧ RgAt P k w' b w.heap.size f (fun i => (f i).isSome) c ∧ Fr No w w' ∧ w'.heap.size = w.heap.size + 1 := by
  obtain ⟨D, h, hc, ha⟩ := h
  obtain ⟨w', h1, h2, h3, h4⟩ := h.range (int_keyed hk) ht
  exact ⟨w', h1, ⟨c, D, _, hc ▸ h2, hc.symm, ha, fun i => (ha i).1⟩, (Fr.refl No w).grown h3 (fun k e => by cases e), h4⟩
theorem RgAt.nxt (h : RgAt P k w b r f left cnt) (hk : P.underlying k = some (.int .i64)) (ty : TypeId) :
    (cnt = 0 ∧ (∀ i, left i = false) ∧ (Instr.next (.pointer (some ⟨r, 0, none⟩)) false ty).run P w = .ok (.tuple #[.bool false]) w) ∨
    ∃ i v w' cnt', left i = true ∧ f i = some v ∧ (Instr.next (.pointer (some ⟨r, 0, none⟩)) false ty).run P w = .ok (.tuple #[.bool true, .int .i64 i, v]) w' ∧
      RgAt P k w' b r f (fun j => left j && !decide (j = i)) cnt' ∧ cnt' < cnt ∧ Fr (fun j => j = r) w w' ∧ w'.heap.size = w.heap.size ∧ (Instr.entry (.pointer (some ⟨r, 0, none⟩))).run P w' = .ok (.tuple #[.int .i64 i, v]) w' := by
  obtain ⟨n, D, L, h, hn, ha, hl⟩ := h
  rcases h.next (int_keyed hk) ty with ⟨h0, h1, hrun⟩ | ⟨key, v, kl, y, w', cnt', hkey, hlk, hv, hat, hrun, hrg, hlt, hgr, hsz, hen⟩
  · exact .inl ⟨h0, fun i => by rw [← hl]; exact h1 _, hrun⟩
  · obtain ⟨i, rfl, rfl, hwf⟩ := Maps.keyOf_int_inv hk hkey
    have hf : f i = some v := by
      have h2 := (ha i).2
      unfold Rv at hv
      injection hv with hv
      subst hv
      have e1 : ∀ zd : DataW Value, (match f i with | some v => DataW.held v | none => zd) = .held v := fun zd => (h2 zd).symm.trans (hat zd)
      cases hq : f i with
      | none =>
        rw [hq] at e1
        exact absurd (e1 (.lit (.int .i64 0))) (by simp)
      | some u =>
        rw [hq] at e1
        have := e1 (.lit (.int .i64 0))
        simp at this
        rw [this]
    refine .inr ⟨i, v, w', cnt', by rw [← hl]; exact hlk, hf, hrun, ⟨n, D, _, hrg, hn, ha, fun j => ?_⟩, hlt, (Fr.refl _ w).grown hgr (fun q e _ => by injection e with e; exact e.symm), hsz, hen⟩
    show (L (kI j) && !(kI j).sameKey (.int .i64 i)) = _
    rw [hl]
    congr 2
    by_cases e : j = i
    · subst e
      rw [decide_eq_true rfl]
      exact WideAt.sameKey_self (kI_key j)
    · rw [decide_eq_false e]
      cases hs : (kI j).sameKey (.int .i64 i)
      · rfl
      · exact absurd (WideAt.sameKey_eq hs) (kI_ne e)
end
theorem rg_range {P : Program} {w : World} {ops : Array Oper} {rest : List Oper} {o : Oper} {a : Act} {Q : Exit → Act → World → Prop} (hg : o.guard = none) (m : Operand) (t : TypeId) (hop : o.op = Op.range t m)
    {k e : TypeId} {b c : Nat} {f : Int → Option Value} (hm : a.eval m = .map (some b)) (h : MapAt P k w b c f) (hk : P.underlying k = some (.int .i64)) (ht : P.underlying t = some (.map k e))
    (hK : ∀ w', RgAt P k w' b w.heap.size f (fun i => (f i).isSome) c → Fr No w w' → w'.heap.size = w.heap.size + 1 → wpList P ops Q rest (a.put o.dst (.pointer (some ⟨w.heap.size, 0, none⟩))) w') : wpList P ops Q (o :: rest) a w := by
  refine wpList_plain hg fun K' hK' => ?_
  obtain ⟨w', hrun, r1, r2, r3⟩ := h.rng hk ht
  unfold Oper.wp
  simp [execOp, hop, hm, hrun, Result.andThen]
  exact hK' _ _ (hK w' r1 r2 r3)
theorem rg_next {P : Program} {w : World} {ops : Array Oper} {rest : List Oper} {o : Oper} {a : Act} {Q : Exit → Act → World → Prop} (hg : o.guard = none) (it : Operand) (hop : o.op = Op.next it false)
    {k : TypeId} {b r cnt : Nat} {f : Int → Option Value} {left : Int → Bool} (hit : a.eval it = .pointer (some ⟨r, 0, none⟩)) (h : RgAt P k w b r f left cnt) (hk : P.underlying k = some (.int .i64))
    (hDone : cnt = 0 → (∀ i, left i = false) → wpList P ops Q rest (a.put o.dst (.tuple #[.bool false])) w)
    (hMore : ∀ i v w' cnt', left i = true → f i = some v → RgAt P k w' b r f (fun j => left j && !decide (j = i)) cnt' → cnt' < cnt → Fr (fun j => j = r) w w' → w'.heap.size = w.heap.size → (Instr.entry (.pointer (some ⟨r, 0, none⟩))).run P w' = .ok (.tuple #[.int .i64 i, v]) w' →
      wpList P ops Q rest (a.put o.dst (.tuple #[.bool true, .int .i64 i, v])) w') : wpList P ops Q (o :: rest) a w := by
  refine wpList_plain hg fun K' hK' => ?_
  unfold Oper.wp
  rcases h.nxt hk o.type with ⟨h0, hl, hrun⟩ | ⟨i, v, w', cnt', h1, h2, hrun, h3, h4, h5, h6, h7⟩
  · simp [execOp, hop, hit, hrun, Result.andThen]
    exact hK' _ _ (hDone h0 hl)
  · simp [execOp, hop, hit, hrun, Result.andThen]
    exact hK' _ _ (hMore i v w' cnt' h1 h2 h3 h4 h5 h6 h7)
end Go.Proofs.YtpcikbloflpahaaDoor
