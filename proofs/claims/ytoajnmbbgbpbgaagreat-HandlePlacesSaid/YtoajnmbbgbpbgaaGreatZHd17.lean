/-
  Chapter 13: a call on both memories. (Printed by wip/tools/hd17.py.)
-/
import Derived.Test.YtoajnmbbgbpbgaaGreatZHd16
import Derived.Test.YtoajnmbbgbpbgaaGreatZFs57
import Derived.Test.YtoajnmbbgbpbgaaGreatZFs45
namespace Go.Proofs.YtoajnmbbgbpbgaaGreat
set_option linter.unusedVariables false
set_option linter.unusedSimpArgs false
open Go.RowKit Go.Shelf Go.Maps

set_option maxHeartbeats 4000000 in
set_option maxRecDepth 1000000 in
theorem hactk0_calls {mb rb : Nat} {A R : Nat → Prop} {F B : List Int} {d : Int} {nm tn : ByteArray} {q n : Int} {ab : Option Addr} {cb : Nat} {l : List Int} {w : World} (hT : Two w mb A rb R F B B) (hnm : nm.size ≤ 140737488355328) (hto : tn.size ≤ 140737488355328) (hn : -9223372036854775808 ≤ n ∧ n ≤ 9223372036854775807)
    (hu : Sl w (.slice ab l.length cb) l.length (bys l)) (huA : ∀ k, (Value.slice ab l.length cb).ownBlock = some k → l ≠ [] → ¬ A k ∧ ¬ R k) (h0 : ∀ b ∈ l, 0 ≤ b ∧ b < 256) (hlen : l.length ≤ 140737488355328) (hd : d = 0) :
    Calls Tryz.prog 9 #[.pointer (some ⟨mb, 0, none⟩), .pointer (some ⟨rb, 0, none⟩), .agg #[.int .i64 d, .string nm, .string tn, .int .i64 q, .int .i64 n, .slice ab l.length cb]] w fun e w' => e = .returned (.bool true) ∧ Tz w mb A rb R F (createHR B nm).1 w' := by
  have hF0 : Fr No w (w.alloc (Obj.cells #[.int .i64 d, .string nm, .string tn, .int .i64 q, .int .i64 n, .slice ab l.length cb] 31)) := (Fr.refl _ _).alloc _
  have hb0 := heap_new w (Obj.cells #[.int .i64 d, .string nm, .string tn, .int .i64 q, .int .i64 n, .slice ab l.length cb] 31)
  have hbA : ∀ k, A k ∨ R k → k < w.heap.size := fun k hk => hk.elim (hT.1.low k) (hT.2.1.low k)
  have HT0 := Lib.hid (hT.fr0 hF0)
  have HBA : RowKit.Hid (¬ A w.heap.size ∧ ¬ R w.heap.size) := Lib.hid ⟨fun h => Nat.lt_irrefl _ (hbA _ (.inl h)), fun h => Nat.lt_irrefl _ (hbA _ (.inr h))⟩
  have HF0 := Lib.hid hF0
  have HB0 := Lib.hid hb0
  have HNM := Lib.hid hnm
  have HTO := Lib.hid hto
  have HN := Lib.hid hn
  have HU := Lib.hid (hu.fr0 hF0)
  have HUA := Lib.hid huA
  have HL0 := Lib.hid h0
  have HLEN := Lib.hid hlen
  clear hF0 hb0 hbA hT hnm hto hn hu huA h0 hlen
  have hd0 : (d == 0) = true := by simp; omega
  clear hd
  have HM : RowKit.Hid (MemAt (w.alloc (Obj.cells #[.int .i64 d, .string nm, .string tn, .int .i64 q, .int .i64 n, .slice ab l.length cb] 31)) mb A F B) := Lib.hid HT0.out.1
  have HC := Lib.hid (hcreate_calls HM.out nm HNM.out)
  have HC2 := Lib.hid (fun (w1 : World) (h : RefAt w1 rb R F B) => rcreateh_calls h nm HNM.out)
  generalize createHR B nm = p at *
  obtain ⟨B2, x, y⟩ := p
  dsimp only at HC HC2 ⊢
  have c1 : (w.alloc (Obj.cells #[.int .i64 d, .string nm, .string tn, .int .i64 q, .int .i64 n, .slice ab l.length cb] 31)).cell? ⟨w.heap.size, 1, none⟩ = some (.string nm) := heap_cell HB0.out rfl
  have c3 : (w.alloc (Obj.cells #[.int .i64 d, .string nm, .string tn, .int .i64 q, .int .i64 n, .slice ab l.length cb] 31)).cell? ⟨w.heap.size, 3, none⟩ = some (.int .i64 q) := heap_cell HB0.out rfl
  go_enter Tryz.func9, Tryz.ntmps9
  go_wp2_with fail
  refine HC.out.mono ?_
  rintro e w1 ⟨A1, rfl, hp⟩
  have HP := Lib.hid hp
  have HR1 : RowKit.Hid (RefAt w1 rb R F B) := Lib.hid (HT0.out.mem hp).2.1
  have HB1 := Lib.hid (hp.2.1.heap HB0.out (fun h => HBA.out.1 h))
  have f1 : w1.cell? ⟨w.heap.size, 1, none⟩ = some (.string nm) := heap_cell HB1.out rfl
  have f3 : w1.cell? ⟨w.heap.size, 3, none⟩ = some (.int .i64 q) := heap_cell HB1.out rfl
  clear hp c1 c3
  go_wp2_with fail
  refine (HC2.out _ HR1.out).mono ?_
  rintro e w2 ⟨R2, rfl, hq⟩
  have HQ := Lib.hid hq
  clear hq
  go_wp2
  go_ret
  exact ⟨rfl, (Tz.of HT0.out HP.out HQ.out).ahead HF0.out⟩

set_option maxHeartbeats 4000000 in
set_option maxRecDepth 1000000 in
theorem hactk1_calls {mb rb : Nat} {A R : Nat → Prop} {F B : List Int} {d : Int} {nm tn : ByteArray} {q n : Int} {ab : Option Addr} {cb : Nat} {l : List Int} {w : World} (hT : Two w mb A rb R F B B) (hnm : nm.size ≤ 140737488355328) (hto : tn.size ≤ 140737488355328) (hn : -9223372036854775808 ≤ n ∧ n ≤ 9223372036854775807)
    (hu : Sl w (.slice ab l.length cb) l.length (bys l)) (huA : ∀ k, (Value.slice ab l.length cb).ownBlock = some k → l ≠ [] → ¬ A k ∧ ¬ R k) (h0 : ∀ b ∈ l, 0 ≤ b ∧ b < 256) (hlen : l.length ≤ 140737488355328) (hd : d = 1) :
    Calls Tryz.prog 9 #[.pointer (some ⟨mb, 0, none⟩), .pointer (some ⟨rb, 0, none⟩), .agg #[.int .i64 d, .string nm, .string tn, .int .i64 q, .int .i64 n, .slice ab l.length cb]] w fun e w' => e = .returned (.bool true) ∧ Tz w mb A rb R F (openHR B nm).1 w' := by
  have hF0 : Fr No w (w.alloc (Obj.cells #[.int .i64 d, .string nm, .string tn, .int .i64 q, .int .i64 n, .slice ab l.length cb] 31)) := (Fr.refl _ _).alloc _
  have hb0 := heap_new w (Obj.cells #[.int .i64 d, .string nm, .string tn, .int .i64 q, .int .i64 n, .slice ab l.length cb] 31)
  have hbA : ∀ k, A k ∨ R k → k < w.heap.size := fun k hk => hk.elim (hT.1.low k) (hT.2.1.low k)
  have HT0 := Lib.hid (hT.fr0 hF0)
  have HBA : RowKit.Hid (¬ A w.heap.size ∧ ¬ R w.heap.size) := Lib.hid ⟨fun h => Nat.lt_irrefl _ (hbA _ (.inl h)), fun h => Nat.lt_irrefl _ (hbA _ (.inr h))⟩
  have HF0 := Lib.hid hF0
  have HB0 := Lib.hid hb0
  have HNM := Lib.hid hnm
  have HTO := Lib.hid hto
  have HN := Lib.hid hn
  have HU := Lib.hid (hu.fr0 hF0)
  have HUA := Lib.hid huA
  have HL0 := Lib.hid h0
  have HLEN := Lib.hid hlen
  clear hF0 hb0 hbA hT hnm hto hn hu huA h0 hlen
  have hd0 : (d == 0) = false := by simp; omega
  have hd1 : (d == 1) = true := by simp; omega
  clear hd
  have HM : RowKit.Hid (MemAt (w.alloc (Obj.cells #[.int .i64 d, .string nm, .string tn, .int .i64 q, .int .i64 n, .slice ab l.length cb] 31)) mb A F B) := Lib.hid HT0.out.1
  have HC := Lib.hid (hopen_calls HM.out nm HNM.out)
  have HC2 := Lib.hid (fun (w1 : World) (h : RefAt w1 rb R F B) => ropenh_calls h nm HNM.out)
  generalize openHR B nm = p at *
  obtain ⟨B2, x, y⟩ := p
  dsimp only at HC HC2 ⊢
  have c1 : (w.alloc (Obj.cells #[.int .i64 d, .string nm, .string tn, .int .i64 q, .int .i64 n, .slice ab l.length cb] 31)).cell? ⟨w.heap.size, 1, none⟩ = some (.string nm) := heap_cell HB0.out rfl
  have c3 : (w.alloc (Obj.cells #[.int .i64 d, .string nm, .string tn, .int .i64 q, .int .i64 n, .slice ab l.length cb] 31)).cell? ⟨w.heap.size, 3, none⟩ = some (.int .i64 q) := heap_cell HB0.out rfl
  go_enter Tryz.func9, Tryz.ntmps9
  go_wp2_with fail
  refine HC.out.mono ?_
  rintro e w1 ⟨A1, rfl, hp⟩
  have HP := Lib.hid hp
  have HR1 : RowKit.Hid (RefAt w1 rb R F B) := Lib.hid (HT0.out.mem hp).2.1
  have HB1 := Lib.hid (hp.2.1.heap HB0.out (fun h => HBA.out.1 h))
  have f1 : w1.cell? ⟨w.heap.size, 1, none⟩ = some (.string nm) := heap_cell HB1.out rfl
  have f3 : w1.cell? ⟨w.heap.size, 3, none⟩ = some (.int .i64 q) := heap_cell HB1.out rfl
  clear hp c1 c3
  go_wp2_with fail
  refine (HC2.out _ HR1.out).mono ?_
  rintro e w2 ⟨R2, rfl, hq⟩
  have HQ := Lib.hid hq
  clear hq
  go_wp2
  go_ret
  exact ⟨rfl, (Tz.of HT0.out HP.out HQ.out).ahead HF0.out⟩

set_option maxHeartbeats 4000000 in
set_option maxRecDepth 1000000 in
theorem hactk2_calls {mb rb : Nat} {A R : Nat → Prop} {F B : List Int} {d : Int} {nm tn : ByteArray} {q n : Int} {ab : Option Addr} {cb : Nat} {l : List Int} {w : World} (hT : Two w mb A rb R F B B) (hnm : nm.size ≤ 140737488355328) (hto : tn.size ≤ 140737488355328) (hn : -9223372036854775808 ≤ n ∧ n ≤ 9223372036854775807)
    (hu : Sl w (.slice ab l.length cb) l.length (bys l)) (huA : ∀ k, (Value.slice ab l.length cb).ownBlock = some k → l ≠ [] → ¬ A k ∧ ¬ R k) (h0 : ∀ b ∈ l, 0 ≤ b ∧ b < 256) (hlen : l.length ≤ 140737488355328) (hd : d = 2) :
    Calls Tryz.prog 9 #[.pointer (some ⟨mb, 0, none⟩), .pointer (some ⟨rb, 0, none⟩), .agg #[.int .i64 d, .string nm, .string tn, .int .i64 q, .int .i64 n, .slice ab l.length cb]] w fun e w' => e = .returned (.bool true) ∧ Tz w mb A rb R F (hcloseR B q).1 w' := by
  have hF0 : Fr No w (w.alloc (Obj.cells #[.int .i64 d, .string nm, .string tn, .int .i64 q, .int .i64 n, .slice ab l.length cb] 31)) := (Fr.refl _ _).alloc _
  have hb0 := heap_new w (Obj.cells #[.int .i64 d, .string nm, .string tn, .int .i64 q, .int .i64 n, .slice ab l.length cb] 31)
  have hbA : ∀ k, A k ∨ R k → k < w.heap.size := fun k hk => hk.elim (hT.1.low k) (hT.2.1.low k)
  have HT0 := Lib.hid (hT.fr0 hF0)
  have HBA : RowKit.Hid (¬ A w.heap.size ∧ ¬ R w.heap.size) := Lib.hid ⟨fun h => Nat.lt_irrefl _ (hbA _ (.inl h)), fun h => Nat.lt_irrefl _ (hbA _ (.inr h))⟩
  have HF0 := Lib.hid hF0
  have HB0 := Lib.hid hb0
  have HNM := Lib.hid hnm
  have HTO := Lib.hid hto
  have HN := Lib.hid hn
  have HU := Lib.hid (hu.fr0 hF0)
  have HUA := Lib.hid huA
  have HL0 := Lib.hid h0
  have HLEN := Lib.hid hlen
  clear hF0 hb0 hbA hT hnm hto hn hu huA h0 hlen
  have hd0 : (d == 0) = false := by simp; omega
  have hd1 : (d == 1) = false := by simp; omega
  have hd2 : (d == 2) = true := by simp; omega
  clear hd
  have HCF := Lib.hid (fun (w1 : World) (h : MemAt w1 mb A F B) => hclose_calls h q)
  have HC2 := Lib.hid (fun (w1 : World) (h : RefAt w1 rb R F B) => rclose13_calls h q)
  generalize hcloseR B q = p at *
  obtain ⟨B2, x⟩ := p
  dsimp only at HCF HC2 ⊢
  go_enter Tryz.func9, Tryz.ntmps9
  go_upto_region 11 with fail
  generalize w.alloc (Obj.cells #[.int .i64 d, .string nm, .string tn, .int .i64 q, .int .i64 n, .slice ab l.length cb] 31) = W at *
  have HB : RowKit.Hid (W.drew.heap[w.heap.size]? = some (.cells #[.int .i64 d, .string nm, .string tn, .int .i64 q, .int .i64 n, .slice ab l.length cb] 31 (0, 0))) := Lib.hid HB0.out
  have HTd := Lib.hid (HT0.out.fr0 (Fr.refl No W).drew)
  have HUd := Lib.hid (HU.out.fr0 (Fr.refl No W).drew)
  have HM : RowKit.Hid (MemAt W.drew mb A F B) := Lib.hid HTd.out.1
  generalize w.heap.size = b0 at *
  have HC := Lib.hid (HCF.out _ HM.out)
  have c3 : W.drew.cell? ⟨b0, 3, none⟩ = some (.int .i64 q) := heap_cell HB.out rfl
  refine wp_region_held_drew (S := (fun w' => w'.cell? ⟨b0, 3, none⟩ = some (.int .i64 q))) (by kernel_rfl) c3 (fun hS0 => ?_)
  refine take_at (i := 0) (d := some 79) (v := ?_) rfl rfl (by kernel_rfl) (by kernel_rfl) (by kernel_rfl) (fun _ _ _ h => h) (Or.inl ⟨by rfl, ?_⟩) (by assumption) ?_
  rotate_left
  · intro w hSw; go_simp; try (with_reducible rfl)
  try simp only [Act.put, List.setIfInBounds_toArray, List.set_cons_zero, List.set_cons_succ]
  refine take_at (i := 1) (d := some 80) (v := ?_) rfl rfl (by kernel_rfl) (by kernel_rfl) (by kernel_rfl) (fun _ _ _ h => h) (Or.inl ⟨by rfl, ?_⟩) (by assumption) ?_
  rotate_left
  · intro w hSw; go_simp; try (with_reducible rfl)
  try simp only [Act.put, List.setIfInBounds_toArray, List.set_cons_zero, List.set_cons_succ]
  refine take_at (i := 2) (d := some 81) (v := ?_) rfl rfl (by kernel_rfl) (by kernel_rfl) (by kernel_rfl) (fun _ _ _ h => h) (Or.inl ⟨by rfl, ?_⟩) (by assumption) ?_
  rotate_left
  · intro w hSw; go_simp; try (with_reducible rfl)
  try simp only [Act.put, List.setIfInBounds_toArray, List.set_cons_zero, List.set_cons_succ]
  refine take_at (i := 4) (d := some 83) (v := ?_) rfl rfl (by kernel_rfl) (by kernel_rfl) (by kernel_rfl) (fun _ _ _ h => h) (Or.inl ⟨by rfl, ?_⟩) (by assumption) ?_
  rotate_left
  · intro w hSw; go_simp; try (with_reducible rfl)
  try simp only [Act.put, List.setIfInBounds_toArray, List.set_cons_zero, List.set_cons_succ]
  refine take_at (i := 5) (d := some 84) (v := ?_) rfl rfl (by kernel_rfl) (by kernel_rfl) (by kernel_rfl) (fun _ _ _ h => h) (Or.inl ⟨by rfl, ?_⟩) (by assumption) ?_
  rotate_left
  · intro w hSw; go_simp; try (with_reducible rfl)
  try simp only [Act.put, List.setIfInBounds_toArray, List.set_cons_zero, List.set_cons_succ]
  refine take_at (i := 6) (d := some 85) (v := ?_) rfl rfl (by kernel_rfl) (by kernel_rfl) (by kernel_rfl) (fun _ _ _ h => h) (Or.inl ⟨by rfl, ?_⟩) (by assumption) ?_
  rotate_left
  · intro w hSw; go_simp; try (with_reducible rfl)
  try simp only [Act.put, List.setIfInBounds_toArray, List.set_cons_zero, List.set_cons_succ]
  refine wpAnyH_ready (rs := [3]) (by kernel_rfl) (by simp) ?_
  refine AllReadyH.cons rfl (fun K hK => ?_) AllReadyH.nil
  go_simp
  go_wp2_with (go_at_call 23; ((with_reducible refine HC.out.mono ?_); rintro e w1 ⟨A1, rfl, hp⟩; have HP := Lib.hid hp; have HR1 : RowKit.Hid (RefAt w1 rb R F B) := Lib.hid (HTd.out.mem hp).2.1; have HB1 := Lib.hid (hp.2.1.heap HB.out (fun h => HBA.out.1 h)); have f3 : w1.cell? ⟨b0, 3, none⟩ = some (.int .i64 q) := heap_cell HB1.out rfl; clear hp))
  refine hK.out _ _ f3 (fun hHeld => ?_)
  clear hK K
  try simp only [Act.put, List.setIfInBounds_toArray, List.set_cons_zero, List.set_cons_succ]
  refine wpAnyH_ready (rs := [7]) (by kernel_rfl) (by simp) ?_
  refine AllReadyH.cons rfl (fun K hK => ?_) AllReadyH.nil
  go_simp
  go_wp2_with (go_at_call 24; ((with_reducible refine (HC2.out _ HR1.out).mono ?_); rintro e w2 ⟨R2, rfl, hq⟩; have HB2 := Lib.hid (hq.2.1.heap HB1.out (fun h => HBA.out.2 h)); have g3 : w2.cell? ⟨b0, 3, none⟩ = some (.int .i64 q) := heap_cell HB2.out rfl; skip))
  refine hK.out _ _ g3 (fun hHeld => ?_)
  clear hK K
  try simp only [Act.put, List.setIfInBounds_toArray, List.set_cons_zero, List.set_cons_succ]
  refine take_at (i := 8) (d := some 87) (v := ?_) rfl rfl (by kernel_rfl) (by kernel_rfl) (by kernel_rfl) (fun _ _ _ h => h) (Or.inl ⟨by rfl, ?_⟩) (by assumption) ?_
  rotate_left
  · intro w hSw; go_simp; try (with_reducible rfl)
  try simp only [Act.put, List.setIfInBounds_toArray, List.set_cons_zero, List.set_cons_succ]
  refine take_at (i := 9) (d := some 6) (v := ?_) rfl rfl (by kernel_rfl) (by kernel_rfl) (by kernel_rfl) (fun _ _ _ h => h) (Or.inl ⟨by rfl, ?_⟩) (by assumption) ?_
  rotate_left
  · intro w hSw; go_simp; try (with_reducible rfl)
  try simp only [Act.put, List.setIfInBounds_toArray, List.set_cons_zero, List.set_cons_succ]
  refine wpAnyH_done (by kernel_rfl) ?_ _
  go_wp2
  go_ret
  exact ⟨rfl, (Tz.of HTd.out HP.out hq).ahead (HF0.out.drew)⟩

set_option maxHeartbeats 4000000 in
set_option maxRecDepth 1000000 in
theorem hactk9_calls {mb rb : Nat} {A R : Nat → Prop} {F B : List Int} {d : Int} {nm tn : ByteArray} {q n : Int} {ab : Option Addr} {cb : Nat} {l : List Int} {w : World} (hT : Two w mb A rb R F B B) (hnm : nm.size ≤ 140737488355328) (hto : tn.size ≤ 140737488355328) (hn : -9223372036854775808 ≤ n ∧ n ≤ 9223372036854775807)
    (hu : Sl w (.slice ab l.length cb) l.length (bys l)) (huA : ∀ k, (Value.slice ab l.length cb).ownBlock = some k → l ≠ [] → ¬ A k ∧ ¬ R k) (h0 : ∀ b ∈ l, 0 ≤ b ∧ b < 256) (hlen : l.length ≤ 140737488355328) (hd : d = 9) :
    Calls Tryz.prog 9 #[.pointer (some ⟨mb, 0, none⟩), .pointer (some ⟨rb, 0, none⟩), .agg #[.int .i64 d, .string nm, .string tn, .int .i64 q, .int .i64 n, .slice ab l.length cb]] w fun e w' => e = .returned (.bool true) ∧ Tz w mb A rb R F (deleteHR B nm).1 w' := by
  have hF0 : Fr No w (w.alloc (Obj.cells #[.int .i64 d, .string nm, .string tn, .int .i64 q, .int .i64 n, .slice ab l.length cb] 31)) := (Fr.refl _ _).alloc _
  have hb0 := heap_new w (Obj.cells #[.int .i64 d, .string nm, .string tn, .int .i64 q, .int .i64 n, .slice ab l.length cb] 31)
  have hbA : ∀ k, A k ∨ R k → k < w.heap.size := fun k hk => hk.elim (hT.1.low k) (hT.2.1.low k)
  have HT0 := Lib.hid (hT.fr0 hF0)
  have HBA : RowKit.Hid (¬ A w.heap.size ∧ ¬ R w.heap.size) := Lib.hid ⟨fun h => Nat.lt_irrefl _ (hbA _ (.inl h)), fun h => Nat.lt_irrefl _ (hbA _ (.inr h))⟩
  have HF0 := Lib.hid hF0
  have HB0 := Lib.hid hb0
  have HNM := Lib.hid hnm
  have HTO := Lib.hid hto
  have HN := Lib.hid hn
  have HU := Lib.hid (hu.fr0 hF0)
  have HUA := Lib.hid huA
  have HL0 := Lib.hid h0
  have HLEN := Lib.hid hlen
  clear hF0 hb0 hbA hT hnm hto hn hu huA h0 hlen
  have hd0 : (d == 0) = false := by simp; omega
  have hd1 : (d == 1) = false := by simp; omega
  have hd2 : (d == 2) = false := by simp; omega
  have hd3 : (d == 3) = false := by simp; omega
  have hd4 : (d == 4) = false := by simp; omega
  have hd5 : (d == 5) = false := by simp; omega
  have hd6 : (d == 6) = false := by simp; omega
  have hd7 : (d == 7) = false := by simp; omega
  have hd8 : (d == 8) = false := by simp; omega
  have hd9 : (d == 9) = true := by simp; omega
  clear hd
  have HCF := Lib.hid (fun (w1 : World) (h : MemAt w1 mb A F B) => hdelete_calls h nm HNM.out)
  have HC2 := Lib.hid (fun (w1 : World) (h : RefAt w1 rb R F B) => rdeleteh_calls h nm HNM.out)
  generalize deleteHR B nm = p at *
  obtain ⟨B2, x⟩ := p
  dsimp only at HCF HC2 ⊢
  go_enter Tryz.func9, Tryz.ntmps9
  go_upto_region 31 with fail
  generalize w.alloc (Obj.cells #[.int .i64 d, .string nm, .string tn, .int .i64 q, .int .i64 n, .slice ab l.length cb] 31) = W at *
  have HB : RowKit.Hid (W.drew.heap[w.heap.size]? = some (.cells #[.int .i64 d, .string nm, .string tn, .int .i64 q, .int .i64 n, .slice ab l.length cb] 31 (0, 0))) := Lib.hid HB0.out
  have HTd := Lib.hid (HT0.out.fr0 (Fr.refl No W).drew)
  have HUd := Lib.hid (HU.out.fr0 (Fr.refl No W).drew)
  have HM : RowKit.Hid (MemAt W.drew mb A F B) := Lib.hid HTd.out.1
  generalize w.heap.size = b0 at *
  have HC := Lib.hid (HCF.out _ HM.out)
  have c1 : W.drew.cell? ⟨b0, 1, none⟩ = some (.string nm) := heap_cell HB.out rfl
  refine wp_region_held_drew (S := (fun w' => w'.cell? ⟨b0, 1, none⟩ = some (.string nm))) (by kernel_rfl) c1 (fun hS0 => ?_)
  refine take_at (i := 0) (d := some 213) (v := ?_) rfl rfl (by kernel_rfl) (by kernel_rfl) (by kernel_rfl) (fun _ _ _ h => h) (Or.inl ⟨by rfl, ?_⟩) (by assumption) ?_
  rotate_left
  · intro w hSw; go_simp; try (with_reducible rfl)
  try simp only [Act.put, List.setIfInBounds_toArray, List.set_cons_zero, List.set_cons_succ]
  refine take_at (i := 1) (d := some 214) (v := ?_) rfl rfl (by kernel_rfl) (by kernel_rfl) (by kernel_rfl) (fun _ _ _ h => h) (Or.inl ⟨by rfl, ?_⟩) (by assumption) ?_
  rotate_left
  · intro w hSw; go_simp; try (with_reducible rfl)
  try simp only [Act.put, List.setIfInBounds_toArray, List.set_cons_zero, List.set_cons_succ]
  refine take_at (i := 2) (d := some 215) (v := ?_) rfl rfl (by kernel_rfl) (by kernel_rfl) (by kernel_rfl) (fun _ _ _ h => h) (Or.inl ⟨by rfl, ?_⟩) (by assumption) ?_
  rotate_left
  · intro w hSw; go_simp; try (with_reducible rfl)
  try simp only [Act.put, List.setIfInBounds_toArray, List.set_cons_zero, List.set_cons_succ]
  refine take_at (i := 4) (d := some 217) (v := ?_) rfl rfl (by kernel_rfl) (by kernel_rfl) (by kernel_rfl) (fun _ _ _ h => h) (Or.inl ⟨by rfl, ?_⟩) (by assumption) ?_
  rotate_left
  · intro w hSw; go_simp; try (with_reducible rfl)
  try simp only [Act.put, List.setIfInBounds_toArray, List.set_cons_zero, List.set_cons_succ]
  refine take_at (i := 5) (d := some 218) (v := ?_) rfl rfl (by kernel_rfl) (by kernel_rfl) (by kernel_rfl) (fun _ _ _ h => h) (Or.inl ⟨by rfl, ?_⟩) (by assumption) ?_
  rotate_left
  · intro w hSw; go_simp; try (with_reducible rfl)
  try simp only [Act.put, List.setIfInBounds_toArray, List.set_cons_zero, List.set_cons_succ]
  refine take_at (i := 6) (d := some 219) (v := ?_) rfl rfl (by kernel_rfl) (by kernel_rfl) (by kernel_rfl) (fun _ _ _ h => h) (Or.inl ⟨by rfl, ?_⟩) (by assumption) ?_
  rotate_left
  · intro w hSw; go_simp; try (with_reducible rfl)
  try simp only [Act.put, List.setIfInBounds_toArray, List.set_cons_zero, List.set_cons_succ]
  refine wpAnyH_ready (rs := [3]) (by kernel_rfl) (by simp) ?_
  refine AllReadyH.cons rfl (fun K hK => ?_) AllReadyH.nil
  go_simp
  go_wp2_with (go_at_call 33; ((with_reducible refine HC.out.mono ?_); rintro e w1 ⟨A1, rfl, hp⟩; have HP := Lib.hid hp; have HR1 : RowKit.Hid (RefAt w1 rb R F B) := Lib.hid (HTd.out.mem hp).2.1; have HB1 := Lib.hid (hp.2.1.heap HB.out (fun h => HBA.out.1 h)); have f1 : w1.cell? ⟨b0, 1, none⟩ = some (.string nm) := heap_cell HB1.out rfl; clear hp))
  refine hK.out _ _ f1 (fun hHeld => ?_)
  clear hK K
  try simp only [Act.put, List.setIfInBounds_toArray, List.set_cons_zero, List.set_cons_succ]
  refine wpAnyH_ready (rs := [7]) (by kernel_rfl) (by simp) ?_
  refine AllReadyH.cons rfl (fun K hK => ?_) AllReadyH.nil
  go_simp
  go_wp2_with (go_at_call 34; ((with_reducible refine (HC2.out _ HR1.out).mono ?_); rintro e w2 ⟨R2, rfl, hq⟩; have HB2 := Lib.hid (hq.2.1.heap HB1.out (fun h => HBA.out.2 h)); have g1 : w2.cell? ⟨b0, 1, none⟩ = some (.string nm) := heap_cell HB2.out rfl; skip))
  refine hK.out _ _ g1 (fun hHeld => ?_)
  clear hK K
  try simp only [Act.put, List.setIfInBounds_toArray, List.set_cons_zero, List.set_cons_succ]
  refine take_at (i := 8) (d := some 221) (v := ?_) rfl rfl (by kernel_rfl) (by kernel_rfl) (by kernel_rfl) (fun _ _ _ h => h) (Or.inl ⟨by rfl, ?_⟩) (by assumption) ?_
  rotate_left
  · intro w hSw; go_simp; try (with_reducible rfl)
  try simp only [Act.put, List.setIfInBounds_toArray, List.set_cons_zero, List.set_cons_succ]
  refine take_at (i := 9) (d := some 6) (v := ?_) rfl rfl (by kernel_rfl) (by kernel_rfl) (by kernel_rfl) (fun _ _ _ h => h) (Or.inl ⟨by rfl, ?_⟩) (by assumption) ?_
  rotate_left
  · intro w hSw; go_simp; try (with_reducible rfl)
  try simp only [Act.put, List.setIfInBounds_toArray, List.set_cons_zero, List.set_cons_succ]
  refine wpAnyH_done (by kernel_rfl) ?_ _
  go_wp2
  go_ret
  exact ⟨rfl, (Tz.of HTd.out HP.out hq).ahead (HF0.out.drew)⟩

end Go.Proofs.YtoajnmbbgbpbgaaGreat
