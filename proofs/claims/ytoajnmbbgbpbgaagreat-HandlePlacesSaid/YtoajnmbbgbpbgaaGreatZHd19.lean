/-
  Chapter 13: a call on both memories. (Printed by wip/tools/hd17.py.)
-/
import Derived.Test.YtoajnmbbgbpbgaaGreatZHd16
import Derived.Test.YtoajnmbbgbpbgaaGreatZFs57
import Derived.Test.YtoajnmbbgbpbgaaGreatZFs45
namespace Go.Proofs.YtoajnmbbgbpbgaaGreat
set_option linter.unusedVariables false
set_option linter.unusedSimpArgs false
open Go.RowKit Go.Shelf Go.Maps

set_option maxHeartbeats 4000000 in
set_option maxRecDepth 1000000 in
theorem hactk3_calls {mb rb : Nat} {A R : Nat → Prop} {F B : List Int} {d : Int} {nm tn : ByteArray} {q n : Int} {ab : Option Addr} {cb : Nat} {l : List Int} {w : World} (hT : Two w mb A rb R F B B) (hnm : nm.size ≤ 140737488355328) (hto : tn.size ≤ 140737488355328) (hn : -9223372036854775808 ≤ n ∧ n ≤ 9223372036854775807)
    (hu : Sl w (.slice ab l.length cb) l.length (bys l)) (huA : ∀ k, (Value.slice ab l.length cb).ownBlock = some k → l ≠ [] → ¬ A k ∧ ¬ R k) (h0 : ∀ b ∈ l, 0 ≤ b ∧ b < 256) (hlen : l.length ≤ 140737488355328) (hd : d = 3) :
    Calls Tryz.prog 9 #[.pointer (some ⟨mb, 0, none⟩), .pointer (some ⟨rb, 0, none⟩), .agg #[.int .i64 d, .string nm, .string tn, .int .i64 q, .int .i64 n, .slice ab l.length cb]] w fun e w' => e = .returned (.bool true) ∧ Tz w mb A rb R F (hreadR B q n).1 w' := by
  have hF0 : Fr No w (w.alloc (Obj.cells #[.int .i64 d, .string nm, .string tn, .int .i64 q, .int .i64 n, .slice ab l.length cb] 31)) := (Fr.refl _ _).alloc _
  have hb0 := heap_new w (Obj.cells #[.int .i64 d, .string nm, .string tn, .int .i64 q, .int .i64 n, .slice ab l.length cb] 31)
  have hbA : ∀ k, A k ∨ R k → k < w.heap.size := fun k hk => hk.elim (hT.1.low k) (hT.2.1.low k)
  have HT0 := Lib.hid (hT.fr0 hF0)
  have HBA : RowKit.Hid (¬ A w.heap.size ∧ ¬ R w.heap.size) := Lib.hid ⟨fun h => Nat.lt_irrefl _ (hbA _ (.inl h)), fun h => Nat.lt_irrefl _ (hbA _ (.inr h))⟩
  have HF0 := Lib.hid hF0
  have HB0 := Lib.hid hb0
  have HNM := Lib.hid hnm
  have HTO := Lib.hid hto
  have HN := Lib.hid hn
  have HU := Lib.hid (hu.fr0 hF0)
  have HUA := Lib.hid huA
  have HL0 := Lib.hid h0
  have HLEN := Lib.hid hlen
  clear hF0 hb0 hbA hT hnm hto hn hu huA h0 hlen
  have hd0 : (d == 0) = false := by simp; omega
  have hd1 : (d == 1) = false := by simp; omega
  have hd2 : (d == 2) = false := by simp; omega
  have hd3 : (d == 3) = true := by simp; omega
  clear hd
  have HM : RowKit.Hid (MemAt (w.alloc (Obj.cells #[.int .i64 d, .string nm, .string tn, .int .i64 q, .int .i64 n, .slice ab l.length cb] 31)) mb A F B) := Lib.hid HT0.out.1
  have HC := Lib.hid (hread_calls HM.out q n HN.out)
  have HC2 := Lib.hid (fun (w1 : World) (h : RefAt w1 rb R F B) => rread13_calls h q n HN.out)
  generalize hreadR B q n = p at *
  obtain ⟨B2, bs, x⟩ := p
  dsimp only at HC HC2 ⊢
  have c3 : (w.alloc (Obj.cells #[.int .i64 d, .string nm, .string tn, .int .i64 q, .int .i64 n, .slice ab l.length cb] 31)).cell? ⟨w.heap.size, 3, none⟩ = some (.int .i64 q) := heap_cell HB0.out rfl
  have c4 : (w.alloc (Obj.cells #[.int .i64 d, .string nm, .string tn, .int .i64 q, .int .i64 n, .slice ab l.length cb] 31)).cell? ⟨w.heap.size, 4, none⟩ = some (.int .i64 n) := heap_cell HB0.out rfl
  go_enter Tryz.func9, Tryz.ntmps9
  go_wp2_with fail
  refine HC.out.mono ?_
  rintro e w1 ⟨A1, r, rfl, hp, hr, hno⟩
  have HP := Lib.hid hp
  have HT1 := Lib.hid (HT0.out.mem hp)
  have HR1 : RowKit.Hid (RefAt w1 rb R F B) := Lib.hid (HT0.out.mem hp).2.1
  have HB1 := Lib.hid (hp.2.1.heap HB0.out (fun h => HBA.out.1 h))
  have f3 : w1.cell? ⟨w.heap.size, 3, none⟩ = some (.int .i64 q) := heap_cell HB1.out rfl
  have f4 : w1.cell? ⟨w.heap.size, 4, none⟩ = some (.int .i64 n) := heap_cell HB1.out rfl
  obtain ⟨ar, cr, rfl⟩ := (Sl.of_owns hr).form
  have HSR := Lib.hid (Sl.of_owns hr)
  have HNR : RowKit.Hid (∀ k, (Value.slice ar bs.length cr).ownBlock = some k → ¬ R k) := Lib.hid (fun k e hR => by have := (hr.lt k e).1; have := HT0.out.2.1.low k hR; omega)
  clear hp hr hno c3 c4
  dsimp only at HSR HNR ⊢
  go_wp2_with fail
  refine (HC2.out _ HR1.out).mono ?_
  rintro e w2 ⟨R2, r2, rfl, hq, hr2, -⟩
  obtain ⟨ar2, cr2, rfl⟩ := hr2.form
  have z1 := conv_sl (HSR.out.fr hq.2.1 (fun k e _ => HNR.out k e))
  have z2 := conv_sl hr2
  dsimp only at z1 z2
  generalize strOfNums bs = st at *
  have HQ := Lib.hid hq
  clear hq hr2 f3 f4
  go_wp2
  go_ret
  exact ⟨rfl, (Tz.of HT0.out HP.out HQ.out).ahead HF0.out⟩

set_option maxHeartbeats 4000000 in
set_option maxRecDepth 1000000 in
theorem hactk5_calls {mb rb : Nat} {A R : Nat → Prop} {F B : List Int} {d : Int} {nm tn : ByteArray} {q n : Int} {ab : Option Addr} {cb : Nat} {l : List Int} {w : World} (hT : Two w mb A rb R F B B) (hnm : nm.size ≤ 140737488355328) (hto : tn.size ≤ 140737488355328) (hn : -9223372036854775808 ≤ n ∧ n ≤ 9223372036854775807)
    (hu : Sl w (.slice ab l.length cb) l.length (bys l)) (huA : ∀ k, (Value.slice ab l.length cb).ownBlock = some k → l ≠ [] → ¬ A k ∧ ¬ R k) (h0 : ∀ b ∈ l, 0 ≤ b ∧ b < 256) (hlen : l.length ≤ 140737488355328) (hd : d = 5) :
    Calls Tryz.prog 9 #[.pointer (some ⟨mb, 0, none⟩), .pointer (some ⟨rb, 0, none⟩), .agg #[.int .i64 d, .string nm, .string tn, .int .i64 q, .int .i64 n, .slice ab l.length cb]] w fun e w' => e = .returned (.bool true) ∧ Tz w mb A rb R F B w' := by
  have hF0 : Fr No w (w.alloc (Obj.cells #[.int .i64 d, .string nm, .string tn, .int .i64 q, .int .i64 n, .slice ab l.length cb] 31)) := (Fr.refl _ _).alloc _
  have hb0 := heap_new w (Obj.cells #[.int .i64 d, .string nm, .string tn, .int .i64 q, .int .i64 n, .slice ab l.length cb] 31)
  have hbA : ∀ k, A k ∨ R k → k < w.heap.size := fun k hk => hk.elim (hT.1.low k) (hT.2.1.low k)
  have HT0 := Lib.hid (hT.fr0 hF0)
  have HBA : RowKit.Hid (¬ A w.heap.size ∧ ¬ R w.heap.size) := Lib.hid ⟨fun h => Nat.lt_irrefl _ (hbA _ (.inl h)), fun h => Nat.lt_irrefl _ (hbA _ (.inr h))⟩
  have HF0 := Lib.hid hF0
  have HB0 := Lib.hid hb0
  have HNM := Lib.hid hnm
  have HTO := Lib.hid hto
  have HN := Lib.hid hn
  have HU := Lib.hid (hu.fr0 hF0)
  have HUA := Lib.hid huA
  have HL0 := Lib.hid h0
  have HLEN := Lib.hid hlen
  clear hF0 hb0 hbA hT hnm hto hn hu huA h0 hlen
  have hd0 : (d == 0) = false := by simp; omega
  have hd1 : (d == 1) = false := by simp; omega
  have hd2 : (d == 2) = false := by simp; omega
  have hd3 : (d == 3) = false := by simp; omega
  have hd4 : (d == 4) = false := by simp; omega
  have hd5 : (d == 5) = true := by simp; omega
  clear hd
  have HM : RowKit.Hid (MemAt (w.alloc (Obj.cells #[.int .i64 d, .string nm, .string tn, .int .i64 q, .int .i64 n, .slice ab l.length cb] 31)) mb A F B) := Lib.hid HT0.out.1
  have HC := Lib.hid (hsize_calls HM.out q)
  have HC2 := Lib.hid (fun (w1 : World) (h : RefAt w1 rb R F B) => rsize13_calls h q)
  generalize hsizeR B q = p at *
  obtain ⟨x, y⟩ := p
  dsimp only at HC HC2 ⊢
  have c1 : (w.alloc (Obj.cells #[.int .i64 d, .string nm, .string tn, .int .i64 q, .int .i64 n, .slice ab l.length cb] 31)).cell? ⟨w.heap.size, 1, none⟩ = some (.string nm) := heap_cell HB0.out rfl
  have c3 : (w.alloc (Obj.cells #[.int .i64 d, .string nm, .string tn, .int .i64 q, .int .i64 n, .slice ab l.length cb] 31)).cell? ⟨w.heap.size, 3, none⟩ = some (.int .i64 q) := heap_cell HB0.out rfl
  go_enter Tryz.func9, Tryz.ntmps9
  go_wp2_with fail
  refine HC.out.mono ?_
  rintro e w1 ⟨A1, rfl, hp⟩
  have HP := Lib.hid hp
  have HR1 : RowKit.Hid (RefAt w1 rb R F B) := Lib.hid (HT0.out.mem hp).2.1
  have HB1 := Lib.hid (hp.2.1.heap HB0.out (fun h => HBA.out.1 h))
  have f1 : w1.cell? ⟨w.heap.size, 1, none⟩ = some (.string nm) := heap_cell HB1.out rfl
  have f3 : w1.cell? ⟨w.heap.size, 3, none⟩ = some (.int .i64 q) := heap_cell HB1.out rfl
  clear hp c1 c3
  go_wp2_with fail
  refine (HC2.out _ HR1.out).mono ?_
  rintro e w2 ⟨rfl, hF2⟩
  have HQ : RowKit.Hid (Rp w1 rb R F B w2 R) := Lib.hid ⟨HR1.out.fr0 hF2, hF2.no, Gr.refl _ _⟩
  clear hF2
  go_wp2
  go_ret
  exact ⟨rfl, (Tz.of HT0.out HP.out HQ.out).ahead HF0.out⟩

set_option maxHeartbeats 4000000 in
set_option maxRecDepth 1000000 in
theorem hactk7_calls {mb rb : Nat} {A R : Nat → Prop} {F B : List Int} {d : Int} {nm tn : ByteArray} {q n : Int} {ab : Option Addr} {cb : Nat} {l : List Int} {w : World} (hT : Two w mb A rb R F B B) (hnm : nm.size ≤ 140737488355328) (hto : tn.size ≤ 140737488355328) (hn : -9223372036854775808 ≤ n ∧ n ≤ 9223372036854775807)
    (hu : Sl w (.slice ab l.length cb) l.length (bys l)) (huA : ∀ k, (Value.slice ab l.length cb).ownBlock = some k → l ≠ [] → ¬ A k ∧ ¬ R k) (h0 : ∀ b ∈ l, 0 ≤ b ∧ b < 256) (hlen : l.length ≤ 140737488355328) (hd : d = 7) :
    Calls Tryz.prog 9 #[.pointer (some ⟨mb, 0, none⟩), .pointer (some ⟨rb, 0, none⟩), .agg #[.int .i64 d, .string nm, .string tn, .int .i64 q, .int .i64 n, .slice ab l.length cb]] w fun e w' => e = .returned (.bool true) ∧ Tz w mb A rb R F B w' := by
  have hF0 : Fr No w (w.alloc (Obj.cells #[.int .i64 d, .string nm, .string tn, .int .i64 q, .int .i64 n, .slice ab l.length cb] 31)) := (Fr.refl _ _).alloc _
  have hb0 := heap_new w (Obj.cells #[.int .i64 d, .string nm, .string tn, .int .i64 q, .int .i64 n, .slice ab l.length cb] 31)
  have hbA : ∀ k, A k ∨ R k → k < w.heap.size := fun k hk => hk.elim (hT.1.low k) (hT.2.1.low k)
  have HT0 := Lib.hid (hT.fr0 hF0)
  have HBA : RowKit.Hid (¬ A w.heap.size ∧ ¬ R w.heap.size) := Lib.hid ⟨fun h => Nat.lt_irrefl _ (hbA _ (.inl h)), fun h => Nat.lt_irrefl _ (hbA _ (.inr h))⟩
  have HF0 := Lib.hid hF0
  have HB0 := Lib.hid hb0
  have HNM := Lib.hid hnm
  have HTO := Lib.hid hto
  have HN := Lib.hid hn
  have HU := Lib.hid (hu.fr0 hF0)
  have HUA := Lib.hid huA
  have HL0 := Lib.hid h0
  have HLEN := Lib.hid hlen
  clear hF0 hb0 hbA hT hnm hto hn hu huA h0 hlen
  have hd0 : (d == 0) = false := by simp; omega
  have hd1 : (d == 1) = false := by simp; omega
  have hd2 : (d == 2) = false := by simp; omega
  have hd3 : (d == 3) = false := by simp; omega
  have hd4 : (d == 4) = false := by simp; omega
  have hd5 : (d == 5) = false := by simp; omega
  have hd6 : (d == 6) = false := by simp; omega
  have hd7 : (d == 7) = true := by simp; omega
  clear hd
  have HM : RowKit.Hid (MemAt (w.alloc (Obj.cells #[.int .i64 d, .string nm, .string tn, .int .i64 q, .int .i64 n, .slice ab l.length cb] 31)) mb A F B) := Lib.hid HT0.out.1
  have HC := Lib.hid (hplace_calls HM.out q)
  have HC2 := Lib.hid (fun (w1 : World) (h : RefAt w1 rb R F B) => rplace13_calls h q)
  generalize hplaceR B q = p at *
  obtain ⟨x, y⟩ := p
  dsimp only at HC HC2 ⊢
  have c1 : (w.alloc (Obj.cells #[.int .i64 d, .string nm, .string tn, .int .i64 q, .int .i64 n, .slice ab l.length cb] 31)).cell? ⟨w.heap.size, 1, none⟩ = some (.string nm) := heap_cell HB0.out rfl
  have c3 : (w.alloc (Obj.cells #[.int .i64 d, .string nm, .string tn, .int .i64 q, .int .i64 n, .slice ab l.length cb] 31)).cell? ⟨w.heap.size, 3, none⟩ = some (.int .i64 q) := heap_cell HB0.out rfl
  go_enter Tryz.func9, Tryz.ntmps9
  go_wp2_with fail
  refine HC.out.mono ?_
  rintro e w1 ⟨A1, rfl, hp⟩
  have HP := Lib.hid hp
  have HR1 : RowKit.Hid (RefAt w1 rb R F B) := Lib.hid (HT0.out.mem hp).2.1
  have HB1 := Lib.hid (hp.2.1.heap HB0.out (fun h => HBA.out.1 h))
  have f1 : w1.cell? ⟨w.heap.size, 1, none⟩ = some (.string nm) := heap_cell HB1.out rfl
  have f3 : w1.cell? ⟨w.heap.size, 3, none⟩ = some (.int .i64 q) := heap_cell HB1.out rfl
  clear hp c1 c3
  go_wp2_with fail
  refine (HC2.out _ HR1.out).mono ?_
  rintro e w2 ⟨rfl, hF2⟩
  have HQ : RowKit.Hid (Rp w1 rb R F B w2 R) := Lib.hid ⟨HR1.out.fr0 hF2, hF2.no, Gr.refl _ _⟩
  clear hF2
  go_wp2
  go_ret
  exact ⟨rfl, (Tz.of HT0.out HP.out HQ.out).ahead HF0.out⟩

set_option maxHeartbeats 4000000 in
set_option maxRecDepth 1000000 in
theorem hactk10_calls {mb rb : Nat} {A R : Nat → Prop} {F B : List Int} {d : Int} {nm tn : ByteArray} {q n : Int} {ab : Option Addr} {cb : Nat} {l : List Int} {w : World} (hT : Two w mb A rb R F B B) (hnm : nm.size ≤ 140737488355328) (hto : tn.size ≤ 140737488355328) (hn : -9223372036854775808 ≤ n ∧ n ≤ 9223372036854775807)
    (hu : Sl w (.slice ab l.length cb) l.length (bys l)) (huA : ∀ k, (Value.slice ab l.length cb).ownBlock = some k → l ≠ [] → ¬ A k ∧ ¬ R k) (h0 : ∀ b ∈ l, 0 ≤ b ∧ b < 256) (hlen : l.length ≤ 140737488355328) (hd : d ≠ 0 ∧ d ≠ 1 ∧ d ≠ 2 ∧ d ≠ 3 ∧ d ≠ 4 ∧ d ≠ 5 ∧ d ≠ 6 ∧ d ≠ 7 ∧ d ≠ 8 ∧ d ≠ 9) :
    Calls Tryz.prog 9 #[.pointer (some ⟨mb, 0, none⟩), .pointer (some ⟨rb, 0, none⟩), .agg #[.int .i64 d, .string nm, .string tn, .int .i64 q, .int .i64 n, .slice ab l.length cb]] w fun e w' => e = .returned (.bool true) ∧ Tz w mb A rb R F (renameR B nm tn).1 w' := by
  have hF0 : Fr No w (w.alloc (Obj.cells #[.int .i64 d, .string nm, .string tn, .int .i64 q, .int .i64 n, .slice ab l.length cb] 31)) := (Fr.refl _ _).alloc _
  have hb0 := heap_new w (Obj.cells #[.int .i64 d, .string nm, .string tn, .int .i64 q, .int .i64 n, .slice ab l.length cb] 31)
  have hbA : ∀ k, A k ∨ R k → k < w.heap.size := fun k hk => hk.elim (hT.1.low k) (hT.2.1.low k)
  have HT0 := Lib.hid (hT.fr0 hF0)
  have HBA : RowKit.Hid (¬ A w.heap.size ∧ ¬ R w.heap.size) := Lib.hid ⟨fun h => Nat.lt_irrefl _ (hbA _ (.inl h)), fun h => Nat.lt_irrefl _ (hbA _ (.inr h))⟩
  have HF0 := Lib.hid hF0
  have HB0 := Lib.hid hb0
  have HNM := Lib.hid hnm
  have HTO := Lib.hid hto
  have HN := Lib.hid hn
  have HU := Lib.hid (hu.fr0 hF0)
  have HUA := Lib.hid huA
  have HL0 := Lib.hid h0
  have HLEN := Lib.hid hlen
  clear hF0 hb0 hbA hT hnm hto hn hu huA h0 hlen
  have hds : (d == 0) = false ∧ (d == 1) = false ∧ (d == 2) = false ∧ (d == 3) = false ∧ (d == 4) = false ∧ (d == 5) = false ∧ (d == 6) = false ∧ (d == 7) = false ∧ (d == 8) = false ∧ (d == 9) = false := by simp; omega
  obtain ⟨hd0, hd1, hd2, hd3, hd4, hd5, hd6, hd7, hd8, hd9⟩ := hds
  clear hd
  have HCF := Lib.hid (fun (w1 : World) (h : MemAt w1 mb A F B) => frename_calls h nm tn HNM.out HTO.out)
  have HC2 := Lib.hid (fun (w1 : World) (h : RefAt w1 rb R F B) => rrename_calls h nm tn HNM.out HTO.out)
  generalize renameR B nm tn = p at *
  obtain ⟨B2, x⟩ := p
  dsimp only at HCF HC2 ⊢
  go_enter Tryz.func9, Tryz.ntmps9
  go_upto_region 32 with fail
  generalize w.alloc (Obj.cells #[.int .i64 d, .string nm, .string tn, .int .i64 q, .int .i64 n, .slice ab l.length cb] 31) = W at *
  have HB : RowKit.Hid (W.drew.heap[w.heap.size]? = some (.cells #[.int .i64 d, .string nm, .string tn, .int .i64 q, .int .i64 n, .slice ab l.length cb] 31 (0, 0))) := Lib.hid HB0.out
  have HTd := Lib.hid (HT0.out.fr0 (Fr.refl No W).drew)
  have HUd := Lib.hid (HU.out.fr0 (Fr.refl No W).drew)
  have HM : RowKit.Hid (MemAt W.drew mb A F B) := Lib.hid HTd.out.1
  generalize w.heap.size = b0 at *
  have HC := Lib.hid (HCF.out _ HM.out)
  have c1 : W.drew.cell? ⟨b0, 1, none⟩ = some (.string nm) := heap_cell HB.out rfl
  have c2 : W.drew.cell? ⟨b0, 2, none⟩ = some (.string tn) := heap_cell HB.out rfl
  refine wp_region_held_drew (S := (fun w' => w'.cell? ⟨b0, 1, none⟩ = some (.string nm) ∧ w'.cell? ⟨b0, 2, none⟩ = some (.string tn))) (by kernel_rfl) ⟨c1, c2⟩ (fun hS0 => ?_)
  refine take_at (i := 0) (d := some 222) (v := ?_) rfl rfl (by kernel_rfl) (by kernel_rfl) (by kernel_rfl) (fun _ _ _ h => h) (Or.inl ⟨by rfl, ?_⟩) (by assumption) ?_
  rotate_left
  · intro w hSw; go_simp; try (with_reducible rfl)
  try simp only [Act.put, List.setIfInBounds_toArray, List.set_cons_zero, List.set_cons_succ]
  refine take_at (i := 1) (d := some 223) (v := ?_) rfl rfl (by kernel_rfl) (by kernel_rfl) (by kernel_rfl) (fun _ _ _ h => h) (Or.inl ⟨by rfl, ?_⟩) (by assumption) ?_
  rotate_left
  · intro w hSw; go_simp; try (with_reducible rfl)
  try simp only [Act.put, List.setIfInBounds_toArray, List.set_cons_zero, List.set_cons_succ]
  refine take_at (i := 2) (d := some 224) (v := ?_) rfl rfl (by kernel_rfl) (by kernel_rfl) (by kernel_rfl) (fun _ _ _ h => h) (Or.inl ⟨by rfl, ?_⟩) (by assumption) ?_
  rotate_left
  · intro w hSw; go_simp; try (with_reducible rfl)
  try simp only [Act.put, List.setIfInBounds_toArray, List.set_cons_zero, List.set_cons_succ]
  refine take_at (i := 3) (d := some 225) (v := ?_) rfl rfl (by kernel_rfl) (by kernel_rfl) (by kernel_rfl) (fun _ _ _ h => h) (Or.inl ⟨by rfl, ?_⟩) (by assumption) ?_
  rotate_left
  · intro w hSw; go_simp; try (with_reducible rfl)
  try simp only [Act.put, List.setIfInBounds_toArray, List.set_cons_zero, List.set_cons_succ]
  refine take_at (i := 4) (d := some 226) (v := ?_) rfl rfl (by kernel_rfl) (by kernel_rfl) (by kernel_rfl) (fun _ _ _ h => h) (Or.inl ⟨by rfl, ?_⟩) (by assumption) ?_
  rotate_left
  · intro w hSw; go_simp; try (with_reducible rfl)
  try simp only [Act.put, List.setIfInBounds_toArray, List.set_cons_zero, List.set_cons_succ]
  refine take_at (i := 6) (d := some 228) (v := ?_) rfl rfl (by kernel_rfl) (by kernel_rfl) (by kernel_rfl) (fun _ _ _ h => h) (Or.inl ⟨by rfl, ?_⟩) (by assumption) ?_
  rotate_left
  · intro w hSw; go_simp; try (with_reducible rfl)
  try simp only [Act.put, List.setIfInBounds_toArray, List.set_cons_zero, List.set_cons_succ]
  refine take_at (i := 7) (d := some 229) (v := ?_) rfl rfl (by kernel_rfl) (by kernel_rfl) (by kernel_rfl) (fun _ _ _ h => h) (Or.inl ⟨by rfl, ?_⟩) (by assumption) ?_
  rotate_left
  · intro w hSw; go_simp; try (with_reducible rfl)
  try simp only [Act.put, List.setIfInBounds_toArray, List.set_cons_zero, List.set_cons_succ]
  refine take_at (i := 8) (d := some 230) (v := ?_) rfl rfl (by kernel_rfl) (by kernel_rfl) (by kernel_rfl) (fun _ _ _ h => h) (Or.inl ⟨by rfl, ?_⟩) (by assumption) ?_
  rotate_left
  · intro w hSw; go_simp; try (with_reducible rfl)
  try simp only [Act.put, List.setIfInBounds_toArray, List.set_cons_zero, List.set_cons_succ]
  refine take_at (i := 9) (d := some 231) (v := ?_) rfl rfl (by kernel_rfl) (by kernel_rfl) (by kernel_rfl) (fun _ _ _ h => h) (Or.inl ⟨by rfl, ?_⟩) (by assumption) ?_
  rotate_left
  · intro w hSw; go_simp; try (with_reducible rfl)
  try simp only [Act.put, List.setIfInBounds_toArray, List.set_cons_zero, List.set_cons_succ]
  refine take_at (i := 10) (d := some 232) (v := ?_) rfl rfl (by kernel_rfl) (by kernel_rfl) (by kernel_rfl) (fun _ _ _ h => h) (Or.inl ⟨by rfl, ?_⟩) (by assumption) ?_
  rotate_left
  · intro w hSw; go_simp; try (with_reducible rfl)
  try simp only [Act.put, List.setIfInBounds_toArray, List.set_cons_zero, List.set_cons_succ]
  refine wpAnyH_ready (rs := [5]) (by kernel_rfl) (by simp) ?_
  refine AllReadyH.cons rfl (fun K hK => ?_) AllReadyH.nil
  go_simp
  go_wp2_with (go_at_call 35; ((with_reducible refine HC.out.mono ?_); rintro e w1 ⟨A1, rfl, hp⟩; have HP := Lib.hid hp; have HR1 : RowKit.Hid (RefAt w1 rb R F B) := Lib.hid (HTd.out.mem hp).2.1; have HB1 := Lib.hid (hp.2.1.heap HB.out (fun h => HBA.out.1 h)); have f1 : w1.cell? ⟨b0, 1, none⟩ = some (.string nm) := heap_cell HB1.out rfl; have f2 : w1.cell? ⟨b0, 2, none⟩ = some (.string tn) := heap_cell HB1.out rfl; clear hp))
  refine hK.out _ _ ⟨f1, f2⟩ (fun hHeld => ?_)
  clear hK K
  try simp only [Act.put, List.setIfInBounds_toArray, List.set_cons_zero, List.set_cons_succ]
  refine wpAnyH_ready (rs := [11]) (by kernel_rfl) (by simp) ?_
  refine AllReadyH.cons rfl (fun K hK => ?_) AllReadyH.nil
  go_simp
  go_wp2_with (go_at_call 36; ((with_reducible refine (HC2.out _ HR1.out).mono ?_); rintro e w2 ⟨R2, rfl, hq⟩; have HB2 := Lib.hid (hq.2.1.heap HB1.out (fun h => HBA.out.2 h)); have g1 : w2.cell? ⟨b0, 1, none⟩ = some (.string nm) := heap_cell HB2.out rfl; have g2 : w2.cell? ⟨b0, 2, none⟩ = some (.string tn) := heap_cell HB2.out rfl; skip))
  refine hK.out _ _ ⟨g1, g2⟩ (fun hHeld => ?_)
  clear hK K
  try simp only [Act.put, List.setIfInBounds_toArray, List.set_cons_zero, List.set_cons_succ]
  refine take_at (i := 12) (d := some 234) (v := ?_) rfl rfl (by kernel_rfl) (by kernel_rfl) (by kernel_rfl) (fun _ _ _ h => h) (Or.inl ⟨by rfl, ?_⟩) (by assumption) ?_
  rotate_left
  · intro w hSw; go_simp; try (with_reducible rfl)
  try simp only [Act.put, List.setIfInBounds_toArray, List.set_cons_zero, List.set_cons_succ]
  refine take_at (i := 13) (d := some 6) (v := ?_) rfl rfl (by kernel_rfl) (by kernel_rfl) (by kernel_rfl) (fun _ _ _ h => h) (Or.inl ⟨by rfl, ?_⟩) (by assumption) ?_
  rotate_left
  · intro w hSw; go_simp; try (with_reducible rfl)
  try simp only [Act.put, List.setIfInBounds_toArray, List.set_cons_zero, List.set_cons_succ]
  refine wpAnyH_done (by kernel_rfl) ?_ _
  go_wp2
  go_ret
  exact ⟨rfl, (Tz.of HTd.out HP.out hq).ahead (HF0.out.drew)⟩

end Go.Proofs.YtoajnmbbgbpbgaaGreat
