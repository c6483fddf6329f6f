/-
  Chapter 12: a call on both memories. (Printed by wip/tools/fs54.py.)
-/
import Derived.Test.YtoajnmbbgbpbgaaZFs57
namespace Go.Proofs.Ytoajnmbbgbpbgaa
set_option linter.unusedVariables false
set_option linter.unusedSimpArgs false
open Go.RowKit Go.Shelf Go.Maps

set_option maxHeartbeats 4000000 in
set_option maxRecDepth 1000000 in
theorem factk5_calls {mb rb : Nat} {A R : Nat → Prop} {F B : List Int} {d : Int} {nm tn : ByteArray} {nd at_ n : Int} {ab : Option Addr} {cb : Nat} {l : List Int} {w : World} (hT : Two w mb A rb R F B B) (hnm : nm.size ≤ 140737488355328) (hto : tn.size ≤ 140737488355328) (hat : -9223372036854775808 ≤ at_ ∧ at_ ≤ 9223372036854775807) (hn : -9223372036854775808 ≤ n ∧ n ≤ 9223372036854775807)
    (hu : Sl w (.slice ab l.length cb) l.length (bys l)) (huA : ∀ k, (Value.slice ab l.length cb).ownBlock = some k → l ≠ [] → ¬ A k ∧ ¬ R k) (h0 : ∀ b ∈ l, 0 ≤ b ∧ b < 256) (hlen : l.length ≤ 140737488355328) (hd : d = 5) :
    Calls Try.prog 30 #[.pointer (some ⟨mb, 0, none⟩), .pointer (some ⟨rb, 0, none⟩), .agg #[.int .i64 d, .string nm, .string tn, .int .i64 nd, .int .i64 at_, .int .i64 n, .slice ab l.length cb]] w fun e w' => e = .returned (.bool true) ∧ Tz w mb A rb R F B w' := by
  have hF0 : Fr No w (w.alloc (Obj.cells #[.int .i64 d, .string nm, .string tn, .int .i64 nd, .int .i64 at_, .int .i64 n, .slice ab l.length cb] 41)) := (Fr.refl _ _).alloc _
  have hb0 := heap_new w (Obj.cells #[.int .i64 d, .string nm, .string tn, .int .i64 nd, .int .i64 at_, .int .i64 n, .slice ab l.length cb] 41)
  have hbA : ∀ k, A k ∨ R k → k < w.heap.size := fun k hk => hk.elim (hT.1.low k) (hT.2.1.low k)
  have HT0 := Lib.hid (hT.fr0 hF0)
  have HBA : RowKit.Hid (¬ A w.heap.size ∧ ¬ R w.heap.size) := Lib.hid ⟨fun h => Nat.lt_irrefl _ (hbA _ (.inl h)), fun h => Nat.lt_irrefl _ (hbA _ (.inr h))⟩
  have HF0 := Lib.hid hF0
  have HB0 := Lib.hid hb0
  have HNM := Lib.hid hnm
  have HTO := Lib.hid hto
  have HAT := Lib.hid hat
  have HN := Lib.hid hn
  have HU := Lib.hid (hu.fr0 hF0)
  have HUA := Lib.hid huA
  have HL0 := Lib.hid h0
  have HLEN := Lib.hid hlen
  clear hF0 hb0 hbA hT hnm hto hat hn hu huA h0 hlen
  have hd0 : (d == 0) = false := by simp; omega
  have hd1 : (d == 1) = false := by simp; omega
  have hd2 : (d == 2) = false := by simp; omega
  have hd3 : (d == 3) = false := by simp; omega
  have hd4 : (d == 4) = false := by simp; omega
  have hd5 : (d == 5) = true := by simp; omega
  clear hd
  have HM : RowKit.Hid (MemAt (w.alloc (Obj.cells #[.int .i64 d, .string nm, .string tn, .int .i64 nd, .int .i64 at_, .int .i64 n, .slice ab l.length cb] 41)) mb A F B) := Lib.hid HT0.out.1
  have HC := Lib.hid (ffread_calls HM.out nd at_ n HAT.out HN.out)
  have HC2 := Lib.hid (fun (w1 : World) (h : RefAt w1 rb R F B) => rread_calls h nd at_ n HAT.out HN.out)
  generalize readR B nd at_ n = p at *
  obtain ⟨bs, x⟩ := p
  have c3 : (w.alloc (Obj.cells #[.int .i64 d, .string nm, .string tn, .int .i64 nd, .int .i64 at_, .int .i64 n, .slice ab l.length cb] 41)).cell? ⟨w.heap.size, 3, none⟩ = some (.int .i64 nd) := heap_cell HB0.out rfl
  have c4 : (w.alloc (Obj.cells #[.int .i64 d, .string nm, .string tn, .int .i64 nd, .int .i64 at_, .int .i64 n, .slice ab l.length cb] 41)).cell? ⟨w.heap.size, 4, none⟩ = some (.int .i64 at_) := heap_cell HB0.out rfl
  have c5 : (w.alloc (Obj.cells #[.int .i64 d, .string nm, .string tn, .int .i64 nd, .int .i64 at_, .int .i64 n, .slice ab l.length cb] 41)).cell? ⟨w.heap.size, 5, none⟩ = some (.int .i64 n) := heap_cell HB0.out rfl
  go_enter Try.func30, Try.ntmps30
  go_wp2_with fail
  refine HC.out.mono ?_
  rintro e w1 ⟨A1, r, rfl, hp, hr, -⟩
  have HP := Lib.hid hp
  have HR1 : RowKit.Hid (RefAt w1 rb R F B) := Lib.hid (HT0.out.mem hp).2.1
  have HB1 := Lib.hid (hp.2.1.heap HB0.out (fun h => HBA.out.1 h))
  have f3 : w1.cell? ⟨w.heap.size, 3, none⟩ = some (.int .i64 nd) := heap_cell HB1.out rfl
  have f4 : w1.cell? ⟨w.heap.size, 4, none⟩ = some (.int .i64 at_) := heap_cell HB1.out rfl
  have f5 : w1.cell? ⟨w.heap.size, 5, none⟩ = some (.int .i64 n) := heap_cell HB1.out rfl
  obtain ⟨ar, cr, rfl⟩ := (Sl.of_owns hr).form
  have HSR := Lib.hid (Sl.of_owns hr)
  clear hp hr c3 c4 c5
  dsimp only at HSR ⊢
  go_wp2_with fail
  refine (HC2.out _ HR1.out).mono ?_
  rintro e w2 ⟨r2, rfl, hF2, hr2⟩
  obtain ⟨ar2, cr2, rfl⟩ := hr2.form
  have z1 := conv_sl (HSR.out.fr0 hF2)
  have z2 := conv_sl hr2
  dsimp only at z1 z2
  generalize strOfNums bs = st at *
  have HQ : RowKit.Hid (Rp w1 rb R F B w2 R) := Lib.hid ⟨HR1.out.fr0 hF2, hF2.no, Gr.refl _ _⟩
  clear hF2 hr2 f3 f4 f5
  go_wp2
  go_ret
  exact ⟨rfl, (Tz.of HT0.out HP.out HQ.out).ahead HF0.out⟩

set_option maxHeartbeats 4000000 in
set_option maxRecDepth 1000000 in
theorem factk6_calls {mb rb : Nat} {A R : Nat → Prop} {F B : List Int} {d : Int} {nm tn : ByteArray} {nd at_ n : Int} {ab : Option Addr} {cb : Nat} {l : List Int} {w : World} (hT : Two w mb A rb R F B B) (hnm : nm.size ≤ 140737488355328) (hto : tn.size ≤ 140737488355328) (hat : -9223372036854775808 ≤ at_ ∧ at_ ≤ 9223372036854775807) (hn : -9223372036854775808 ≤ n ∧ n ≤ 9223372036854775807)
    (hu : Sl w (.slice ab l.length cb) l.length (bys l)) (huA : ∀ k, (Value.slice ab l.length cb).ownBlock = some k → l ≠ [] → ¬ A k ∧ ¬ R k) (h0 : ∀ b ∈ l, 0 ≤ b ∧ b < 256) (hlen : l.length ≤ 140737488355328) (hd : d = 6) :
    Calls Try.prog 30 #[.pointer (some ⟨mb, 0, none⟩), .pointer (some ⟨rb, 0, none⟩), .agg #[.int .i64 d, .string nm, .string tn, .int .i64 nd, .int .i64 at_, .int .i64 n, .slice ab l.length cb]] w fun e w' => e = .returned (.bool true) ∧ Tz w mb A rb R F B w' := by
  have hF0 : Fr No w (w.alloc (Obj.cells #[.int .i64 d, .string nm, .string tn, .int .i64 nd, .int .i64 at_, .int .i64 n, .slice ab l.length cb] 41)) := (Fr.refl _ _).alloc _
  have hb0 := heap_new w (Obj.cells #[.int .i64 d, .string nm, .string tn, .int .i64 nd, .int .i64 at_, .int .i64 n, .slice ab l.length cb] 41)
  have hbA : ∀ k, A k ∨ R k → k < w.heap.size := fun k hk => hk.elim (hT.1.low k) (hT.2.1.low k)
  have HT0 := Lib.hid (hT.fr0 hF0)
  have HBA : RowKit.Hid (¬ A w.heap.size ∧ ¬ R w.heap.size) := Lib.hid ⟨fun h => Nat.lt_irrefl _ (hbA _ (.inl h)), fun h => Nat.lt_irrefl _ (hbA _ (.inr h))⟩
  have HF0 := Lib.hid hF0
  have HB0 := Lib.hid hb0
  have HNM := Lib.hid hnm
  have HTO := Lib.hid hto
  have HAT := Lib.hid hat
  have HN := Lib.hid hn
  have HU := Lib.hid (hu.fr0 hF0)
  have HUA := Lib.hid huA
  have HL0 := Lib.hid h0
  have HLEN := Lib.hid hlen
  clear hF0 hb0 hbA hT hnm hto hat hn hu huA h0 hlen
  have hd0 : (d == 0) = false := by simp; omega
  have hd1 : (d == 1) = false := by simp; omega
  have hd2 : (d == 2) = false := by simp; omega
  have hd3 : (d == 3) = false := by simp; omega
  have hd4 : (d == 4) = false := by simp; omega
  have hd5 : (d == 5) = false := by simp; omega
  have hd6 : (d == 6) = true := by simp; omega
  clear hd
  have HM : RowKit.Hid (MemAt (w.alloc (Obj.cells #[.int .i64 d, .string nm, .string tn, .int .i64 nd, .int .i64 at_, .int .i64 n, .slice ab l.length cb] 41)) mb A F B) := Lib.hid HT0.out.1
  have HC := Lib.hid (ffind_calls HM.out nm HNM.out)
  have HC2 := Lib.hid (fun (w1 : World) (h : RefAt w1 rb R F B) => rfind12_calls h nm HNM.out)
  generalize findR B nm = p at *
  obtain ⟨x, y⟩ := p
  dsimp only at HC HC2 ⊢
  have c1 : (w.alloc (Obj.cells #[.int .i64 d, .string nm, .string tn, .int .i64 nd, .int .i64 at_, .int .i64 n, .slice ab l.length cb] 41)).cell? ⟨w.heap.size, 1, none⟩ = some (.string nm) := heap_cell HB0.out rfl
  have c3 : (w.alloc (Obj.cells #[.int .i64 d, .string nm, .string tn, .int .i64 nd, .int .i64 at_, .int .i64 n, .slice ab l.length cb] 41)).cell? ⟨w.heap.size, 3, none⟩ = some (.int .i64 nd) := heap_cell HB0.out rfl
  go_enter Try.func30, Try.ntmps30
  go_wp2_with fail
  refine HC.out.mono ?_
  rintro e w1 ⟨A1, rfl, hp⟩
  have HP := Lib.hid hp
  have HR1 : RowKit.Hid (RefAt w1 rb R F B) := Lib.hid (HT0.out.mem hp).2.1
  have HB1 := Lib.hid (hp.2.1.heap HB0.out (fun h => HBA.out.1 h))
  have f1 : w1.cell? ⟨w.heap.size, 1, none⟩ = some (.string nm) := heap_cell HB1.out rfl
  have f3 : w1.cell? ⟨w.heap.size, 3, none⟩ = some (.int .i64 nd) := heap_cell HB1.out rfl
  clear hp c1 c3
  go_wp2_with fail
  refine (HC2.out _ HR1.out).mono ?_
  rintro e w2 ⟨rfl, hF2⟩
  have HQ : RowKit.Hid (Rp w1 rb R F B w2 R) := Lib.hid ⟨HR1.out.fr0 hF2, hF2.no, Gr.refl _ _⟩
  clear hF2
  go_wp2
  go_ret
  exact ⟨rfl, (Tz.of HT0.out HP.out HQ.out).ahead HF0.out⟩

set_option maxHeartbeats 4000000 in
set_option maxRecDepth 1000000 in
theorem factk7_calls {mb rb : Nat} {A R : Nat → Prop} {F B : List Int} {d : Int} {nm tn : ByteArray} {nd at_ n : Int} {ab : Option Addr} {cb : Nat} {l : List Int} {w : World} (hT : Two w mb A rb R F B B) (hnm : nm.size ≤ 140737488355328) (hto : tn.size ≤ 140737488355328) (hat : -9223372036854775808 ≤ at_ ∧ at_ ≤ 9223372036854775807) (hn : -9223372036854775808 ≤ n ∧ n ≤ 9223372036854775807)
    (hu : Sl w (.slice ab l.length cb) l.length (bys l)) (huA : ∀ k, (Value.slice ab l.length cb).ownBlock = some k → l ≠ [] → ¬ A k ∧ ¬ R k) (h0 : ∀ b ∈ l, 0 ≤ b ∧ b < 256) (hlen : l.length ≤ 140737488355328) (hd : d = 7) :
    Calls Try.prog 30 #[.pointer (some ⟨mb, 0, none⟩), .pointer (some ⟨rb, 0, none⟩), .agg #[.int .i64 d, .string nm, .string tn, .int .i64 nd, .int .i64 at_, .int .i64 n, .slice ab l.length cb]] w fun e w' => e = .returned (.bool true) ∧ Tz w mb A rb R F B w' := by
  have hF0 : Fr No w (w.alloc (Obj.cells #[.int .i64 d, .string nm, .string tn, .int .i64 nd, .int .i64 at_, .int .i64 n, .slice ab l.length cb] 41)) := (Fr.refl _ _).alloc _
  have hb0 := heap_new w (Obj.cells #[.int .i64 d, .string nm, .string tn, .int .i64 nd, .int .i64 at_, .int .i64 n, .slice ab l.length cb] 41)
  have hbA : ∀ k, A k ∨ R k → k < w.heap.size := fun k hk => hk.elim (hT.1.low k) (hT.2.1.low k)
  have HT0 := Lib.hid (hT.fr0 hF0)
  have HBA : RowKit.Hid (¬ A w.heap.size ∧ ¬ R w.heap.size) := Lib.hid ⟨fun h => Nat.lt_irrefl _ (hbA _ (.inl h)), fun h => Nat.lt_irrefl _ (hbA _ (.inr h))⟩
  have HF0 := Lib.hid hF0
  have HB0 := Lib.hid hb0
  have HNM := Lib.hid hnm
  have HTO := Lib.hid hto
  have HAT := Lib.hid hat
  have HN := Lib.hid hn
  have HU := Lib.hid (hu.fr0 hF0)
  have HUA := Lib.hid huA
  have HL0 := Lib.hid h0
  have HLEN := Lib.hid hlen
  clear hF0 hb0 hbA hT hnm hto hat hn hu huA h0 hlen
  have hd0 : (d == 0) = false := by simp; omega
  have hd1 : (d == 1) = false := by simp; omega
  have hd2 : (d == 2) = false := by simp; omega
  have hd3 : (d == 3) = false := by simp; omega
  have hd4 : (d == 4) = false := by simp; omega
  have hd5 : (d == 5) = false := by simp; omega
  have hd6 : (d == 6) = false := by simp; omega
  have hd7 : (d == 7) = true := by simp; omega
  clear hd
  have HM : RowKit.Hid (MemAt (w.alloc (Obj.cells #[.int .i64 d, .string nm, .string tn, .int .i64 nd, .int .i64 at_, .int .i64 n, .slice ab l.length cb] 41)) mb A F B) := Lib.hid HT0.out.1
  have HC := Lib.hid (fsize_calls HM.out nd)
  have HC2 := Lib.hid (fun (w1 : World) (h : RefAt w1 rb R F B) => rsize_calls h nd)
  generalize sizeR B nd = p at *
  obtain ⟨x, y⟩ := p
  dsimp only at HC HC2 ⊢
  have c1 : (w.alloc (Obj.cells #[.int .i64 d, .string nm, .string tn, .int .i64 nd, .int .i64 at_, .int .i64 n, .slice ab l.length cb] 41)).cell? ⟨w.heap.size, 1, none⟩ = some (.string nm) := heap_cell HB0.out rfl
  have c3 : (w.alloc (Obj.cells #[.int .i64 d, .string nm, .string tn, .int .i64 nd, .int .i64 at_, .int .i64 n, .slice ab l.length cb] 41)).cell? ⟨w.heap.size, 3, none⟩ = some (.int .i64 nd) := heap_cell HB0.out rfl
  go_enter Try.func30, Try.ntmps30
  go_wp2_with fail
  refine HC.out.mono ?_
  rintro e w1 ⟨A1, rfl, hp⟩
  have HP := Lib.hid hp
  have HR1 : RowKit.Hid (RefAt w1 rb R F B) := Lib.hid (HT0.out.mem hp).2.1
  have HB1 := Lib.hid (hp.2.1.heap HB0.out (fun h => HBA.out.1 h))
  have f1 : w1.cell? ⟨w.heap.size, 1, none⟩ = some (.string nm) := heap_cell HB1.out rfl
  have f3 : w1.cell? ⟨w.heap.size, 3, none⟩ = some (.int .i64 nd) := heap_cell HB1.out rfl
  clear hp c1 c3
  go_wp2_with fail
  refine (HC2.out _ HR1.out).mono ?_
  rintro e w2 ⟨rfl, hF2⟩
  have HQ : RowKit.Hid (Rp w1 rb R F B w2 R) := Lib.hid ⟨HR1.out.fr0 hF2, hF2.no, Gr.refl _ _⟩
  clear hF2
  go_wp2
  go_ret
  exact ⟨rfl, (Tz.of HT0.out HP.out HQ.out).ahead HF0.out⟩

set_option maxHeartbeats 4000000 in
set_option maxRecDepth 1000000 in
theorem factk8_calls {mb rb : Nat} {A R : Nat → Prop} {F B : List Int} {d : Int} {nm tn : ByteArray} {nd at_ n : Int} {ab : Option Addr} {cb : Nat} {l : List Int} {w : World} (hT : Two w mb A rb R F B B) (hnm : nm.size ≤ 140737488355328) (hto : tn.size ≤ 140737488355328) (hat : -9223372036854775808 ≤ at_ ∧ at_ ≤ 9223372036854775807) (hn : -9223372036854775808 ≤ n ∧ n ≤ 9223372036854775807)
    (hu : Sl w (.slice ab l.length cb) l.length (bys l)) (huA : ∀ k, (Value.slice ab l.length cb).ownBlock = some k → l ≠ [] → ¬ A k ∧ ¬ R k) (h0 : ∀ b ∈ l, 0 ≤ b ∧ b < 256) (hlen : l.length ≤ 140737488355328) (hd : d ≠ 0 ∧ d ≠ 1 ∧ d ≠ 2 ∧ d ≠ 3 ∧ d ≠ 4 ∧ d ≠ 5 ∧ d ≠ 6 ∧ d ≠ 7) :
    Calls Try.prog 30 #[.pointer (some ⟨mb, 0, none⟩), .pointer (some ⟨rb, 0, none⟩), .agg #[.int .i64 d, .string nm, .string tn, .int .i64 nd, .int .i64 at_, .int .i64 n, .slice ab l.length cb]] w fun e w' => e = .returned (.bool true) ∧ Tz w mb A rb R F B w' := by
  have hF0 : Fr No w (w.alloc (Obj.cells #[.int .i64 d, .string nm, .string tn, .int .i64 nd, .int .i64 at_, .int .i64 n, .slice ab l.length cb] 41)) := (Fr.refl _ _).alloc _
  have hb0 := heap_new w (Obj.cells #[.int .i64 d, .string nm, .string tn, .int .i64 nd, .int .i64 at_, .int .i64 n, .slice ab l.length cb] 41)
  have hbA : ∀ k, A k ∨ R k → k < w.heap.size := fun k hk => hk.elim (hT.1.low k) (hT.2.1.low k)
  have HT0 := Lib.hid (hT.fr0 hF0)
  have HBA : RowKit.Hid (¬ A w.heap.size ∧ ¬ R w.heap.size) := Lib.hid ⟨fun h => Nat.lt_irrefl _ (hbA _ (.inl h)), fun h => Nat.lt_irrefl _ (hbA _ (.inr h))⟩
  have HF0 := Lib.hid hF0
  have HB0 := Lib.hid hb0
  have HNM := Lib.hid hnm
  have HTO := Lib.hid hto
  have HAT := Lib.hid hat
  have HN := Lib.hid hn
  have HU := Lib.hid (hu.fr0 hF0)
  have HUA := Lib.hid huA
  have HL0 := Lib.hid h0
  have HLEN := Lib.hid hlen
  clear hF0 hb0 hbA hT hnm hto hat hn hu huA h0 hlen
  have HM : RowKit.Hid (MemAt (w.alloc (Obj.cells #[.int .i64 d, .string nm, .string tn, .int .i64 nd, .int .i64 at_, .int .i64 n, .slice ab l.length cb] 41)) mb A F B) := Lib.hid HT0.out.1
  have hds : (d == 0) = false ∧ (d == 1) = false ∧ (d == 2) = false ∧ (d == 3) = false ∧ (d == 4) = false ∧ (d == 5) = false ∧ (d == 6) = false ∧ (d == 7) = false := by simp; omega
  obtain ⟨hd0, hd1, hd2, hd3, hd4, hd5, hd6, hd7⟩ := hds
  clear hd
  have HC := Lib.hid (fcheck_calls HM.out)
  have HC2 := Lib.hid (fun (w1 : World) (h : RefAt w1 rb R F B) => rcheck12_calls h)
  generalize checkE B = x at *
  go_enter Try.func30, Try.ntmps30
  go_wp2_with fail
  refine HC.out.mono ?_
  rintro e w1 ⟨A1, rfl, hp⟩
  have HP := Lib.hid hp
  have HR1 : RowKit.Hid (RefAt w1 rb R F B) := Lib.hid (HT0.out.mem hp).2.1
  clear hp
  go_wp2_with fail
  refine (HC2.out _ HR1.out).mono ?_
  rintro e w2 ⟨rfl, hF2⟩
  have HQ : RowKit.Hid (Rp w1 rb R F B w2 R) := Lib.hid ⟨HR1.out.fr0 hF2, hF2.no, Gr.refl _ _⟩
  clear hF2
  go_wp2
  go_ret
  exact ⟨rfl, (Tz.of HT0.out HP.out HQ.out).ahead HF0.out⟩

end Go.Proofs.Ytoajnmbbgbpbgaa
