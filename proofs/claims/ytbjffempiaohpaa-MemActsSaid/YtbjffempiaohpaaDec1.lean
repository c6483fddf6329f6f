/-
  Bytes read as an inode: the program's Decode.
-/
import Derived.Test.YtbjffempiaohpaaPure1
import Derived.Stop.BytesEq
import Derived.Test.YtbjffempiaohpaaRow2
namespace Go.Proofs.Ytbjffempiaohpaa
set_option linter.unusedVariables false
set_option linter.unusedSimpArgs false
open Go.RowKit Go.Shelf
open Extern.Stop (cell)

theorem heap_set3 {w : World} {b : Nat} {a0 a1 a2 : Value} {t : TypeId} (x0 x1 x2 : Value) (h : w.heap[b]? = some (.cells #[a0, a1, a2] t (0, 0))) :
    (((w.setCell ⟨b, 0, none⟩ x0).setCell ⟨b, 1, none⟩ x1).setCell ⟨b, 2, none⟩ x2).heap[b]? = some (.cells #[x0, x1, x2] t (0, 0)) := by
  simp [World.setCell, Array.getElem?_modify, h]
set_option maxHeartbeats 1000000 in
set_option maxRecDepth 1000000 in
theorem dec_bad (v : Value) (l : List Int) (w : World) (hlen : l.length ≤ 1000) (h0 : ∀ b ∈ l, 0 ≤ b ∧ b < 256) (hv : Sl w v l.length (bys l)) (hb : l.length ≠ 64 ∨ (l.length = 64 ∧ 15 < l.getD 0 0)) :
    Calls Try.prog 10 #[v] w fun e w' => e = .returned (.tuple #[.agg #[.string .empty, .int .i64 0, .slice none 0 0], .bool false, .int .i64 110]) ∧ Fr No w w' := by
  obtain ⟨a, cap, rfl⟩ := hv.form
  rcases hb with hb | ⟨hl, hb⟩
  · go_enter Try.func10, Try.ntmps10
    go_wp2
    refine bodyPost_ret (v := .tuple #[.agg #[.string .empty, .int .i64 0, .slice none 0 0], .bool false, .int .i64 110]) (by simp [results, Try.results10, go_sem]; rfl) rfl ⟨rfl, (Fr.refl _ _).alloc _⟩
  · have hx : (0 : Nat) < l.length := by omega
    obtain ⟨b, off, rfl, hbb, hc⟩ := hv.at (bys_ne _ _ hx)
    have c1 := hc _ _ (bys_get _ _ hx)
    have hg : l.getD 0 0 = l[0] := by simp [List.getD, hx]
    rw [hg] at hb
    have hr := h0 _ (List.getElem_mem hx)
    obtain ⟨hr0, hr1⟩ := hr
    rw [Nat.add_zero] at c1
    revert hb c1 hr0 hr1
    generalize l[0] = y
    intro hb c1 hr0 hr1
    have hF0 : Fr No w (w.alloc (Obj.cells #[.string .empty, .int .i64 0, .slice none 0 0] 26)) := (Fr.refl _ _).alloc _
    have c2 := hF0.cell c1 (fun h => h)
    clear hv hc h0 hg
    go_enter Try.func10, Try.ntmps10
    go_wp2
    refine bodyPost_ret (v := .tuple #[.agg #[.string .empty, .int .i64 0, .slice none 0 0], .bool false, .int .i64 110]) (by simp [results, Try.results10, go_sem]; rfl) rfl ⟨rfl, (Fr.refl _ _).alloc _⟩
theorem bys_cells (l : List Int) (h : ∀ b ∈ l, 0 ≤ b ∧ b < 256) : bys l = (l.map fun x => UInt8.ofNat x.toNat).map cell := by
  induction l with
  | nil => rfl
  | cons x l ih =>
    have hx := h x (by simp)
    have := ih (fun b hb => h b (by simp [hb]))
    simp only [bys, List.map_cons] at this ⊢
    rw [this]
    congr 1
    simp only [cell, UInt8.toNat_ofNat']
    have h3 : x.toNat % 2 ^ 8 = x.toNat := Nat.mod_eq_of_lt (by omega)
    rw [h3]
    exact congrArg (Value.int .u8) (Int.toNat_of_nonneg hx.1).symm
theorem size_u8 (w : World) : (Go.sizeOf 5).run Try.prog w = .ok 1 w := by
  have h := el_u8.info
  cases hi : Try.prog.info? 5 with
  | none => rw [hi] at h; cases h
  | some i =>
    rw [hi] at h
    simp only [Option.map_some, Option.some.injEq, Prod.mk.injEq] at h
    simp [Go.sizeOf, typeInfo, hi, h.2.1]
theorem u8s_inj {l m : List Int} (hl : ∀ b ∈ l, 0 ≤ b ∧ b < 256) (hm : ∀ b ∈ m, 0 ≤ b ∧ b < 256) (h : (l.map fun x => UInt8.ofNat x.toNat) = m.map fun x => UInt8.ofNat x.toNat) : l = m := by
  have := strOfNums_inj (l := l) (m := m) hl hm (by simp only [strOfNums, h])
  exact this
theorem eqA_bys (w : World) (l m : List Int) (hl : l.length = 64) (hm : m.length = 64) (hlr : ∀ b ∈ l, 0 ≤ b ∧ b < 256) (hmr : ∀ b ∈ m, 0 ≤ b ∧ b < 256) :
    (Op.equalIn 10000 77 (.agg (bys l).toArray) (.agg (bys m).toArray)).run Try.prog w = .ok (decide (l = m)) w := by
  rw [bys_cells l hlr, bys_cells m hmr]
  rw [run_equalIn_bytes w 9998 77 5 64 (by kernel_rfl) Try.underlying5 size_u8 _ _ (by simpa using hl) (by simpa using hm)]
  congr 1
  rw [Bool.eq_iff_iff]
  simp only [beq_iff_eq, decide_eq_true_eq]
  exact ⟨u8s_inj hlr hmr, fun h => by rw [h]⟩
theorem zs64 : bys (zs 64) = [.int .u8 0, .int .u8 0, .int .u8 0, .int .u8 0, .int .u8 0, .int .u8 0, .int .u8 0, .int .u8 0, .int .u8 0, .int .u8 0, .int .u8 0, .int .u8 0, .int .u8 0, .int .u8 0, .int .u8 0, .int .u8 0, .int .u8 0, .int .u8 0, .int .u8 0, .int .u8 0, .int .u8 0, .int .u8 0, .int .u8 0, .int .u8 0, .int .u8 0, .int .u8 0, .int .u8 0, .int .u8 0, .int .u8 0, .int .u8 0, .int .u8 0, .int .u8 0, .int .u8 0, .int .u8 0, .int .u8 0, .int .u8 0, .int .u8 0, .int .u8 0, .int .u8 0, .int .u8 0, .int .u8 0, .int .u8 0, .int .u8 0, .int .u8 0, .int .u8 0, .int .u8 0, .int .u8 0, .int .u8 0, .int .u8 0, .int .u8 0, .int .u8 0, .int .u8 0, .int .u8 0, .int .u8 0, .int .u8 0, .int .u8 0, .int .u8 0, .int .u8 0, .int .u8 0, .int .u8 0, .int .u8 0, .int .u8 0, .int .u8 0, .int .u8 0] := rfl
theorem zs_range (k : Nat) : ∀ b ∈ zs k, 0 ≤ b ∧ b < 256 := fun b hb => by simp only [zs, List.mem_replicate] at hb; omega
theorem spl_all (l m : List Int) (h : m.length = l.length) : spl l 0 m = m := by simp [spl, List.drop_of_length_le (Nat.le_of_eq h.symm)]

set_option maxHeartbeats 1000000 in
set_option maxRecDepth 1000000 in
theorem dec_zero (v : Value) (l : List Int) (w : World) (hl : l.length = 64) (h0 : ∀ b ∈ l, 0 ≤ b ∧ b < 256) (hv : Sl w v l.length (bys l)) (hb : decide (15 < l.getD 0 0) = false) (hz : l = zs 64) :
    Calls Try.prog 10 #[v] w fun e w' => e = .returned (.tuple #[.agg #[.string .empty, .int .i64 0, .slice none 0 0], .bool false, .int .i64 0]) ∧ Fr No w w' := by
  have HZ0 := Lib.hid hz
  clear hz
  obtain ⟨a, cap, rfl⟩ := hv.form
  have hx : (0 : Nat) < l.length := by omega
  obtain ⟨b, off, rfl, hbb, hc⟩ := hv.at (bys_ne _ _ hx)
  have c1 := hc _ _ (bys_get _ _ hx)
  have hg : l.getD 0 0 = l[0] := by simp [List.getD, hx]
  rw [hg] at hb
  rw [Nat.add_zero] at c1
  revert hb c1
  generalize l[0] = y
  intro hb c1
  have hF0 : Fr No w (w.alloc (Obj.cells #[.string ⟨#[]⟩, .int .i64 0, .slice none 0 0] 26)) := (Fr.refl _ _).alloc _
  have c2 := hF0.cell c1 (fun h => h)
  go_enter Try.func10, Try.ntmps10
  go_wp2
  have hat : ∀ w : World, (Instr.arrayAt 77 (.slice (some ⟨b, off, none⟩) 64 cap)).run Try.prog w = .ok (.pointer (some ⟨b, off, none⟩)) w := fun w => by
    simp [Instr.arrayAt, run_underlying (show Try.prog.underlying 77 = some (.array 64 5) by kernel_rfl)]
  have HRG := Lib.hid (show (w.alloc (Obj.cells #[.string ⟨#[]⟩, .int .i64 0, .slice none 0 0] 26)).rangeAt b off (bys l) from fun j v hj => hF0.cell (hc j v hj) (fun h => h))
  have HSZ := Lib.hid (show (Try.prog.info? 77).map (·.size) = some (bys l).length from by rw [bys_len, hl]; kernel_rfl)
  have h0' := h0
  clear hc hv h0 hF0 c2
  rw [hat]
  simp only [Result.andThen_ok]
  have hRN : Row ((w.alloc (Obj.cells #[.string ⟨#[]⟩, .int .i64 0, .slice none 0 0] 26)).alloc (Obj.cells (bys (zs 64)).toArray 77)) (w.heap.size + 1) 77 (zs 64) := by simpa using Row.new (w.alloc (Obj.cells #[.string ⟨#[]⟩, .int .i64 0, .slice none 0 0] 26)) 77 (zs 64)
  have hST : ((w.alloc (Obj.cells #[.string ⟨#[]⟩, .int .i64 0, .slice none 0 0] 26)).alloc (Obj.cells (bys (zs 64)).toArray 77)).there (w.heap.size + 1) 0 (bys l).toArray.size := fun j hj => by
    have hj' : j < (zs 64).length := by rw [zs_length]; simpa [bys, hl] using hj
    exact ⟨by rw [Nat.zero_add, hRN.cell hj']; rfl, by rw [Nat.zero_add]; exact hRN.frozen j⟩
  have HST := Lib.hid hST
  have HSZ2 := Lib.hid (show (Try.prog.info? 77).map (·.size) = some (bys l).toArray.size from by rw [List.size_toArray]; exact HSZ.out)
  have H1C := Lib.hid (all_oneCell_toArray (bys_one l))
  have HRN := Lib.hid hRN
  have HB2 := Lib.hid (heap_alloc (Obj.cells (bys (zs 64)).toArray 77) (heap_new w (Obj.cells #[.string ⟨#[]⟩, .int .i64 0, .slice none 0 0] 26)))
  have heq : ∀ W : World, _ := fun W => eqA_bys W l (zs 64) hl (zs_length 64) h0' (zs_range 64)
  rw [zs64, decide_eq_true HZ0.out] at heq
  clear hST hRN
  have HZ := Lib.hid zs64
  go_wp2_with (first | (refine wpList_load_mid rfl 77 _ rfl b off rfl (bys l) (.array 64 5) HRG.out (by kernel_rfl) rfl HSZ.out ?_) | (refine wpList_store_mid rfl 77 _ _ rfl (w.heap.size + 1) 0 (bys l).toArray rfl rfl HST.out HSZ2.out H1C.out ?_; obtain ⟨hRS, hFS⟩ := HRN.out.setAll l 0 (by rw [zs_length]; omega); rw [spl_all _ _ (by rw [zs_length]; exact hl)] at hRS; have hB5 := hFS.heap HB2.out (by omega); have k0 := heap_cell (o := 0) hB5 rfl; have k1 := heap_cell (o := 1) hB5 rfl; have k2 := heap_cell (o := 2) hB5 rfl; have f0 := heap_frozen (o := 0) hB5; have f1 := heap_frozen (o := 1) hB5; have f2 := heap_frozen (o := 2) hB5; have HB5 := Lib.hid hB5; clear hB5; rw [show (bys l).toArray.toList = bys l from rfl, ← HZ.out]; generalize World.setCells _ (w.heap.size + 1) 0 (bys l) = W5 at *; have HRS := Lib.hid hRS; clear hRS) | (refine wpList_load_mid rfl 77 _ rfl (w.heap.size + 1) 0 rfl (bys l) (.array 64 5) (fun j v hj => by rw [Nat.zero_add]; exact heap_cell HRS.out (by simpa using hj)) (by kernel_rfl) rfl HSZ.out ?_))
  have q := heap_set3 (.string ⟨#[]⟩) (.int .i64 0) (.slice none 0 0) HB5.out
  have q0 := heap_cell (o := 0) q rfl
  have q1 := heap_cell (o := 1) q rfl
  have q2 := heap_cell (o := 2) q rfl
  refine bodyPost_ret (v := .tuple #[.agg #[.string ⟨#[]⟩, .int .i64 0, .slice none 0 0], .bool false, .int .i64 0]) (by simp [results, Try.results10, go_sem, q0, q1, q2]) rfl ⟨rfl, ?_⟩
  exact (((((((Fr.refl No w).alloc _).alloc _).trans' hFS (fun i hi e => by omega)).setCell (fun h => by simp at h) _).setCell (fun h => by simp at h) _).setCell (fun h => by simp at h) _)
end Go.Proofs.Ytbjffempiaohpaa
