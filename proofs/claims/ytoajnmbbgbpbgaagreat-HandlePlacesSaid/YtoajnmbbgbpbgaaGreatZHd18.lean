/-
  Chapter 13: a call on both memories. (Printed by wip/tools/hd17.py.)
-/
import Derived.Test.YtoajnmbbgbpbgaaGreatZHd16
import Derived.Test.YtoajnmbbgbpbgaaGreatZFs57
import Derived.Test.YtoajnmbbgbpbgaaGreatZFs45
namespace Go.Proofs.YtoajnmbbgbpbgaaGreat
set_option linter.unusedVariables false
set_option linter.unusedSimpArgs false
open Go.RowKit Go.Shelf Go.Maps

set_option maxHeartbeats 4000000 in
set_option maxRecDepth 1000000 in
theorem hactk4_calls {mb rb : Nat} {A R : Nat → Prop} {F B : List Int} {d : Int} {nm tn : ByteArray} {q n : Int} {ab : Option Addr} {cb : Nat} {l : List Int} {w : World} (hT : Two w mb A rb R F B B) (hnm : nm.size ≤ 140737488355328) (hto : tn.size ≤ 140737488355328) (hn : -9223372036854775808 ≤ n ∧ n ≤ 9223372036854775807)
    (hu : Sl w (.slice ab l.length cb) l.length (bys l)) (huA : ∀ k, (Value.slice ab l.length cb).ownBlock = some k → l ≠ [] → ¬ A k ∧ ¬ R k) (h0 : ∀ b ∈ l, 0 ≤ b ∧ b < 256) (hlen : l.length ≤ 140737488355328) (hd : d = 4) :
    Calls Tryz.prog 9 #[.pointer (some ⟨mb, 0, none⟩), .pointer (some ⟨rb, 0, none⟩), .agg #[.int .i64 d, .string nm, .string tn, .int .i64 q, .int .i64 n, .slice ab l.length cb]] w fun e w' => e = .returned (.bool true) ∧ Tz w mb A rb R F (hwriteR B q l).1 w' := by
  have hF0 : Fr No w (w.alloc (Obj.cells #[.int .i64 d, .string nm, .string tn, .int .i64 q, .int .i64 n, .slice ab l.length cb] 31)) := (Fr.refl _ _).alloc _
  have hb0 := heap_new w (Obj.cells #[.int .i64 d, .string nm, .string tn, .int .i64 q, .int .i64 n, .slice ab l.length cb] 31)
  have hbA : ∀ k, A k ∨ R k → k < w.heap.size := fun k hk => hk.elim (hT.1.low k) (hT.2.1.low k)
  have HT0 := Lib.hid (hT.fr0 hF0)
  have HBA : RowKit.Hid (¬ A w.heap.size ∧ ¬ R w.heap.size) := Lib.hid ⟨fun h => Nat.lt_irrefl _ (hbA _ (.inl h)), fun h => Nat.lt_irrefl _ (hbA _ (.inr h))⟩
  have HF0 := Lib.hid hF0
  have HB0 := Lib.hid hb0
  have HNM := Lib.hid hnm
  have HTO := Lib.hid hto
  have HN := Lib.hid hn
  have HU := Lib.hid (hu.fr0 hF0)
  have HUA := Lib.hid huA
  have HL0 := Lib.hid h0
  have HLEN := Lib.hid hlen
  clear hF0 hb0 hbA hT hnm hto hn hu huA h0 hlen
  have hd0 : (d == 0) = false := by simp; omega
  have hd1 : (d == 1) = false := by simp; omega
  have hd2 : (d == 2) = false := by simp; omega
  have hd3 : (d == 3) = false := by simp; omega
  have hd4 : (d == 4) = true := by simp; omega
  clear hd
  have HCF := Lib.hid (fun (w1 : World) (h : MemAt w1 mb A F B) (hU1 : Sl w1 (.slice ab l.length cb) l.length (bys l)) => hwrite_calls h q ab cb l hU1 (fun k e hne => (HUA.out k e hne).1) HL0.out HLEN.out)
  have HC2 := Lib.hid (fun (w1 : World) (h : RefAt w1 rb R F B) (hU1 : Sl w1 (.slice ab l.length cb) l.length (bys l)) => rwrite13_calls h q (.slice ab l.length cb) l hU1 (fun k e hne => (HUA.out k e hne).2) HL0.out HLEN.out)
  generalize hwriteR B q l = p at *
  obtain ⟨B2, x⟩ := p
  dsimp only at HCF HC2 ⊢
  go_enter Tryz.func9, Tryz.ntmps9
  go_upto_region 17 with fail
  generalize w.alloc (Obj.cells #[.int .i64 d, .string nm, .string tn, .int .i64 q, .int .i64 n, .slice ab l.length cb] 31) = W at *
  have HB : RowKit.Hid (W.drew.heap[w.heap.size]? = some (.cells #[.int .i64 d, .string nm, .string tn, .int .i64 q, .int .i64 n, .slice ab l.length cb] 31 (0, 0))) := Lib.hid HB0.out
  have HTd := Lib.hid (HT0.out.fr0 (Fr.refl No W).drew)
  have HUd := Lib.hid (HU.out.fr0 (Fr.refl No W).drew)
  have HM : RowKit.Hid (MemAt W.drew mb A F B) := Lib.hid HTd.out.1
  generalize w.heap.size = b0 at *
  have HC := Lib.hid (HCF.out _ HM.out HUd.out)
  have c3 : W.drew.cell? ⟨b0, 3, none⟩ = some (.int .i64 q) := heap_cell HB.out rfl
  have c5 : W.drew.cell? ⟨b0, 5, none⟩ = some (.slice ab l.length cb) := heap_cell HB.out rfl
  refine wp_region_held_drew (S := (fun w' => w'.cell? ⟨b0, 3, none⟩ = some (.int .i64 q) ∧ w'.cell? ⟨b0, 5, none⟩ = some (.slice ab l.length cb))) (by kernel_rfl) ⟨c3, c5⟩ (fun hS0 => ?_)
  refine take_at (i := 0) (d := some 120) (v := ?_) rfl rfl (by kernel_rfl) (by kernel_rfl) (by kernel_rfl) (fun _ _ _ h => h) (Or.inl ⟨by rfl, ?_⟩) (by assumption) ?_
  rotate_left
  · intro w hSw; go_simp; try (with_reducible rfl)
  try simp only [Act.put, List.setIfInBounds_toArray, List.set_cons_zero, List.set_cons_succ]
  refine take_at (i := 1) (d := some 121) (v := ?_) rfl rfl (by kernel_rfl) (by kernel_rfl) (by kernel_rfl) (fun _ _ _ h => h) (Or.inl ⟨by rfl, ?_⟩) (by assumption) ?_
  rotate_left
  · intro w hSw; go_simp; try (with_reducible rfl)
  try simp only [Act.put, List.setIfInBounds_toArray, List.set_cons_zero, List.set_cons_succ]
  refine take_at (i := 2) (d := some 122) (v := ?_) rfl rfl (by kernel_rfl) (by kernel_rfl) (by kernel_rfl) (fun _ _ _ h => h) (Or.inl ⟨by rfl, ?_⟩) (by assumption) ?_
  rotate_left
  · intro w hSw; go_simp; try (with_reducible rfl)
  try simp only [Act.put, List.setIfInBounds_toArray, List.set_cons_zero, List.set_cons_succ]
  refine take_at (i := 3) (d := some 123) (v := ?_) rfl rfl (by kernel_rfl) (by kernel_rfl) (by kernel_rfl) (fun _ _ _ h => h) (Or.inl ⟨by rfl, ?_⟩) (by assumption) ?_
  rotate_left
  · intro w hSw; go_simp; try (with_reducible rfl)
  try simp only [Act.put, List.setIfInBounds_toArray, List.set_cons_zero, List.set_cons_succ]
  refine take_at (i := 4) (d := some 124) (v := ?_) rfl rfl (by kernel_rfl) (by kernel_rfl) (by kernel_rfl) (fun _ _ _ h => h) (Or.inl ⟨by rfl, ?_⟩) (by assumption) ?_
  rotate_left
  · intro w hSw; go_simp; try (with_reducible rfl)
  try simp only [Act.put, List.setIfInBounds_toArray, List.set_cons_zero, List.set_cons_succ]
  refine take_at (i := 6) (d := some 126) (v := ?_) rfl rfl (by kernel_rfl) (by kernel_rfl) (by kernel_rfl) (fun _ _ _ h => h) (Or.inl ⟨by rfl, ?_⟩) (by assumption) ?_
  rotate_left
  · intro w hSw; go_simp; try (with_reducible rfl)
  try simp only [Act.put, List.setIfInBounds_toArray, List.set_cons_zero, List.set_cons_succ]
  refine take_at (i := 7) (d := some 127) (v := ?_) rfl rfl (by kernel_rfl) (by kernel_rfl) (by kernel_rfl) (fun _ _ _ h => h) (Or.inl ⟨by rfl, ?_⟩) (by assumption) ?_
  rotate_left
  · intro w hSw; go_simp; try (with_reducible rfl)
  try simp only [Act.put, List.setIfInBounds_toArray, List.set_cons_zero, List.set_cons_succ]
  refine take_at (i := 8) (d := some 128) (v := ?_) rfl rfl (by kernel_rfl) (by kernel_rfl) (by kernel_rfl) (fun _ _ _ h => h) (Or.inl ⟨by rfl, ?_⟩) (by assumption) ?_
  rotate_left
  · intro w hSw; go_simp; try (with_reducible rfl)
  try simp only [Act.put, List.setIfInBounds_toArray, List.set_cons_zero, List.set_cons_succ]
  refine take_at (i := 9) (d := some 129) (v := ?_) rfl rfl (by kernel_rfl) (by kernel_rfl) (by kernel_rfl) (fun _ _ _ h => h) (Or.inl ⟨by rfl, ?_⟩) (by assumption) ?_
  rotate_left
  · intro w hSw; go_simp; try (with_reducible rfl)
  try simp only [Act.put, List.setIfInBounds_toArray, List.set_cons_zero, List.set_cons_succ]
  refine take_at (i := 10) (d := some 130) (v := ?_) rfl rfl (by kernel_rfl) (by kernel_rfl) (by kernel_rfl) (fun _ _ _ h => h) (Or.inl ⟨by rfl, ?_⟩) (by assumption) ?_
  rotate_left
  · intro w hSw; go_simp; try (with_reducible rfl)
  try simp only [Act.put, List.setIfInBounds_toArray, List.set_cons_zero, List.set_cons_succ]
  refine wpAnyH_ready (rs := [5]) (by kernel_rfl) (by simp) ?_
  refine AllReadyH.cons rfl (fun K hK => ?_) AllReadyH.nil
  go_simp
  go_wp2_with (go_at_call 19; ((with_reducible refine HC.out.mono ?_); rintro e w1 ⟨A1, rfl, hp⟩; have HP := Lib.hid hp; have HR1 : RowKit.Hid (RefAt w1 rb R F B) := Lib.hid (HTd.out.mem hp).2.1; have HB1 := Lib.hid (hp.2.1.heap HB.out (fun h => HBA.out.1 h)); have f3 : w1.cell? ⟨b0, 3, none⟩ = some (.int .i64 q) := heap_cell HB1.out rfl; have f5 : w1.cell? ⟨b0, 5, none⟩ = some (.slice ab l.length cb) := heap_cell HB1.out rfl; have HU1 := Lib.hid (HUd.out.fr hp.2.1 (fun k e hne => (HUA.out k e (fun e2 => hne (by rw [e2]; rfl))).1)); clear hp))
  refine hK.out _ _ ⟨f3, f5⟩ (fun hHeld => ?_)
  clear hK K
  try simp only [Act.put, List.setIfInBounds_toArray, List.set_cons_zero, List.set_cons_succ]
  refine wpAnyH_ready (rs := [11]) (by kernel_rfl) (by simp) ?_
  refine AllReadyH.cons rfl (fun K hK => ?_) AllReadyH.nil
  go_simp
  go_wp2_with (go_at_call 26; ((with_reducible refine (HC2.out _ HR1.out HU1.out).mono ?_); rintro e w2 ⟨R2, rfl, hq⟩; have HB2 := Lib.hid (hq.2.1.heap HB1.out (fun h => HBA.out.2 h)); have g3 : w2.cell? ⟨b0, 3, none⟩ = some (.int .i64 q) := heap_cell HB2.out rfl; have g5 : w2.cell? ⟨b0, 5, none⟩ = some (.slice ab l.length cb) := heap_cell HB2.out rfl; skip))
  refine hK.out _ _ ⟨g3, g5⟩ (fun hHeld => ?_)
  clear hK K
  try simp only [Act.put, List.setIfInBounds_toArray, List.set_cons_zero, List.set_cons_succ]
  refine take_at (i := 12) (d := some 132) (v := ?_) rfl rfl (by kernel_rfl) (by kernel_rfl) (by kernel_rfl) (fun _ _ _ h => h) (Or.inl ⟨by rfl, ?_⟩) (by assumption) ?_
  rotate_left
  · intro w hSw; go_simp; try (with_reducible rfl)
  try simp only [Act.put, List.setIfInBounds_toArray, List.set_cons_zero, List.set_cons_succ]
  refine take_at (i := 13) (d := some 6) (v := ?_) rfl rfl (by kernel_rfl) (by kernel_rfl) (by kernel_rfl) (fun _ _ _ h => h) (Or.inl ⟨by rfl, ?_⟩) (by assumption) ?_
  rotate_left
  · intro w hSw; go_simp; try (with_reducible rfl)
  try simp only [Act.put, List.setIfInBounds_toArray, List.set_cons_zero, List.set_cons_succ]
  refine wpAnyH_done (by kernel_rfl) ?_ _
  go_wp2
  go_ret
  exact ⟨rfl, (Tz.of HTd.out HP.out hq).ahead (HF0.out.drew)⟩

set_option maxHeartbeats 4000000 in
set_option maxRecDepth 1000000 in
theorem hactk6_calls {mb rb : Nat} {A R : Nat → Prop} {F B : List Int} {d : Int} {nm tn : ByteArray} {q n : Int} {ab : Option Addr} {cb : Nat} {l : List Int} {w : World} (hT : Two w mb A rb R F B B) (hnm : nm.size ≤ 140737488355328) (hto : tn.size ≤ 140737488355328) (hn : -9223372036854775808 ≤ n ∧ n ≤ 9223372036854775807)
    (hu : Sl w (.slice ab l.length cb) l.length (bys l)) (huA : ∀ k, (Value.slice ab l.length cb).ownBlock = some k → l ≠ [] → ¬ A k ∧ ¬ R k) (h0 : ∀ b ∈ l, 0 ≤ b ∧ b < 256) (hlen : l.length ≤ 140737488355328) (hd : d = 6) :
    Calls Tryz.prog 9 #[.pointer (some ⟨mb, 0, none⟩), .pointer (some ⟨rb, 0, none⟩), .agg #[.int .i64 d, .string nm, .string tn, .int .i64 q, .int .i64 n, .slice ab l.length cb]] w fun e w' => e = .returned (.bool true) ∧ Tz w mb A rb R F (hresizeR B q n).1 w' := by
  have hF0 : Fr No w (w.alloc (Obj.cells #[.int .i64 d, .string nm, .string tn, .int .i64 q, .int .i64 n, .slice ab l.length cb] 31)) := (Fr.refl _ _).alloc _
  have hb0 := heap_new w (Obj.cells #[.int .i64 d, .string nm, .string tn, .int .i64 q, .int .i64 n, .slice ab l.length cb] 31)
  have hbA : ∀ k, A k ∨ R k → k < w.heap.size := fun k hk => hk.elim (hT.1.low k) (hT.2.1.low k)
  have HT0 := Lib.hid (hT.fr0 hF0)
  have HBA : RowKit.Hid (¬ A w.heap.size ∧ ¬ R w.heap.size) := Lib.hid ⟨fun h => Nat.lt_irrefl _ (hbA _ (.inl h)), fun h => Nat.lt_irrefl _ (hbA _ (.inr h))⟩
  have HF0 := Lib.hid hF0
  have HB0 := Lib.hid hb0
  have HNM := Lib.hid hnm
  have HTO := Lib.hid hto
  have HN := Lib.hid hn
  have HU := Lib.hid (hu.fr0 hF0)
  have HUA := Lib.hid huA
  have HL0 := Lib.hid h0
  have HLEN := Lib.hid hlen
  clear hF0 hb0 hbA hT hnm hto hn hu huA h0 hlen
  have hd0 : (d == 0) = false := by simp; omega
  have hd1 : (d == 1) = false := by simp; omega
  have hd2 : (d == 2) = false := by simp; omega
  have hd3 : (d == 3) = false := by simp; omega
  have hd4 : (d == 4) = false := by simp; omega
  have hd5 : (d == 5) = false := by simp; omega
  have hd6 : (d == 6) = true := by simp; omega
  clear hd
  have HCF := Lib.hid (fun (w1 : World) (h : MemAt w1 mb A F B) => hresize_calls h q n)
  have HC2 := Lib.hid (fun (w1 : World) (h : RefAt w1 rb R F B) => rresize13_calls h q n)
  generalize hresizeR B q n = p at *
  obtain ⟨B2, x⟩ := p
  dsimp only at HCF HC2 ⊢
  go_enter Tryz.func9, Tryz.ntmps9
  go_upto_region 23 with fail
  generalize w.alloc (Obj.cells #[.int .i64 d, .string nm, .string tn, .int .i64 q, .int .i64 n, .slice ab l.length cb] 31) = W at *
  have HB : RowKit.Hid (W.drew.heap[w.heap.size]? = some (.cells #[.int .i64 d, .string nm, .string tn, .int .i64 q, .int .i64 n, .slice ab l.length cb] 31 (0, 0))) := Lib.hid HB0.out
  have HTd := Lib.hid (HT0.out.fr0 (Fr.refl No W).drew)
  have HUd := Lib.hid (HU.out.fr0 (Fr.refl No W).drew)
  have HM : RowKit.Hid (MemAt W.drew mb A F B) := Lib.hid HTd.out.1
  generalize w.heap.size = b0 at *
  have HC := Lib.hid (HCF.out _ HM.out)
  have c3 : W.drew.cell? ⟨b0, 3, none⟩ = some (.int .i64 q) := heap_cell HB.out rfl
  have c4 : W.drew.cell? ⟨b0, 4, none⟩ = some (.int .i64 n) := heap_cell HB.out rfl
  refine wp_region_held_drew (S := (fun w' => w'.cell? ⟨b0, 3, none⟩ = some (.int .i64 q) ∧ w'.cell? ⟨b0, 4, none⟩ = some (.int .i64 n))) (by kernel_rfl) ⟨c3, c4⟩ (fun hS0 => ?_)
  refine take_at (i := 0) (d := some 159) (v := ?_) rfl rfl (by kernel_rfl) (by kernel_rfl) (by kernel_rfl) (fun _ _ _ h => h) (Or.inl ⟨by rfl, ?_⟩) (by assumption) ?_
  rotate_left
  · intro w hSw; go_simp; try (with_reducible rfl)
  try simp only [Act.put, List.setIfInBounds_toArray, List.set_cons_zero, List.set_cons_succ]
  refine take_at (i := 1) (d := some 160) (v := ?_) rfl rfl (by kernel_rfl) (by kernel_rfl) (by kernel_rfl) (fun _ _ _ h => h) (Or.inl ⟨by rfl, ?_⟩) (by assumption) ?_
  rotate_left
  · intro w hSw; go_simp; try (with_reducible rfl)
  try simp only [Act.put, List.setIfInBounds_toArray, List.set_cons_zero, List.set_cons_succ]
  refine take_at (i := 2) (d := some 161) (v := ?_) rfl rfl (by kernel_rfl) (by kernel_rfl) (by kernel_rfl) (fun _ _ _ h => h) (Or.inl ⟨by rfl, ?_⟩) (by assumption) ?_
  rotate_left
  · intro w hSw; go_simp; try (with_reducible rfl)
  try simp only [Act.put, List.setIfInBounds_toArray, List.set_cons_zero, List.set_cons_succ]
  refine take_at (i := 3) (d := some 162) (v := ?_) rfl rfl (by kernel_rfl) (by kernel_rfl) (by kernel_rfl) (fun _ _ _ h => h) (Or.inl ⟨by rfl, ?_⟩) (by assumption) ?_
  rotate_left
  · intro w hSw; go_simp; try (with_reducible rfl)
  try simp only [Act.put, List.setIfInBounds_toArray, List.set_cons_zero, List.set_cons_succ]
  refine take_at (i := 4) (d := some 163) (v := ?_) rfl rfl (by kernel_rfl) (by kernel_rfl) (by kernel_rfl) (fun _ _ _ h => h) (Or.inl ⟨by rfl, ?_⟩) (by assumption) ?_
  rotate_left
  · intro w hSw; go_simp; try (with_reducible rfl)
  try simp only [Act.put, List.setIfInBounds_toArray, List.set_cons_zero, List.set_cons_succ]
  refine take_at (i := 6) (d := some 165) (v := ?_) rfl rfl (by kernel_rfl) (by kernel_rfl) (by kernel_rfl) (fun _ _ _ h => h) (Or.inl ⟨by rfl, ?_⟩) (by assumption) ?_
  rotate_left
  · intro w hSw; go_simp; try (with_reducible rfl)
  try simp only [Act.put, List.setIfInBounds_toArray, List.set_cons_zero, List.set_cons_succ]
  refine take_at (i := 7) (d := some 166) (v := ?_) rfl rfl (by kernel_rfl) (by kernel_rfl) (by kernel_rfl) (fun _ _ _ h => h) (Or.inl ⟨by rfl, ?_⟩) (by assumption) ?_
  rotate_left
  · intro w hSw; go_simp; try (with_reducible rfl)
  try simp only [Act.put, List.setIfInBounds_toArray, List.set_cons_zero, List.set_cons_succ]
  refine take_at (i := 8) (d := some 167) (v := ?_) rfl rfl (by kernel_rfl) (by kernel_rfl) (by kernel_rfl) (fun _ _ _ h => h) (Or.inl ⟨by rfl, ?_⟩) (by assumption) ?_
  rotate_left
  · intro w hSw; go_simp; try (with_reducible rfl)
  try simp only [Act.put, List.setIfInBounds_toArray, List.set_cons_zero, List.set_cons_succ]
  refine take_at (i := 9) (d := some 168) (v := ?_) rfl rfl (by kernel_rfl) (by kernel_rfl) (by kernel_rfl) (fun _ _ _ h => h) (Or.inl ⟨by rfl, ?_⟩) (by assumption) ?_
  rotate_left
  · intro w hSw; go_simp; try (with_reducible rfl)
  try simp only [Act.put, List.setIfInBounds_toArray, List.set_cons_zero, List.set_cons_succ]
  refine take_at (i := 10) (d := some 169) (v := ?_) rfl rfl (by kernel_rfl) (by kernel_rfl) (by kernel_rfl) (fun _ _ _ h => h) (Or.inl ⟨by rfl, ?_⟩) (by assumption) ?_
  rotate_left
  · intro w hSw; go_simp; try (with_reducible rfl)
  try simp only [Act.put, List.setIfInBounds_toArray, List.set_cons_zero, List.set_cons_succ]
  refine wpAnyH_ready (rs := [5]) (by kernel_rfl) (by simp) ?_
  refine AllReadyH.cons rfl (fun K hK => ?_) AllReadyH.nil
  go_simp
  go_wp2_with (go_at_call 28; ((with_reducible refine HC.out.mono ?_); rintro e w1 ⟨A1, rfl, hp⟩; have HP := Lib.hid hp; have HR1 : RowKit.Hid (RefAt w1 rb R F B) := Lib.hid (HTd.out.mem hp).2.1; have HB1 := Lib.hid (hp.2.1.heap HB.out (fun h => HBA.out.1 h)); have f3 : w1.cell? ⟨b0, 3, none⟩ = some (.int .i64 q) := heap_cell HB1.out rfl; have f4 : w1.cell? ⟨b0, 4, none⟩ = some (.int .i64 n) := heap_cell HB1.out rfl; clear hp))
  refine hK.out _ _ ⟨f3, f4⟩ (fun hHeld => ?_)
  clear hK K
  try simp only [Act.put, List.setIfInBounds_toArray, List.set_cons_zero, List.set_cons_succ]
  refine wpAnyH_ready (rs := [11]) (by kernel_rfl) (by simp) ?_
  refine AllReadyH.cons rfl (fun K hK => ?_) AllReadyH.nil
  go_simp
  go_wp2_with (go_at_call 29; ((with_reducible refine (HC2.out _ HR1.out).mono ?_); rintro e w2 ⟨R2, rfl, hq⟩; have HB2 := Lib.hid (hq.2.1.heap HB1.out (fun h => HBA.out.2 h)); have g3 : w2.cell? ⟨b0, 3, none⟩ = some (.int .i64 q) := heap_cell HB2.out rfl; have g4 : w2.cell? ⟨b0, 4, none⟩ = some (.int .i64 n) := heap_cell HB2.out rfl; skip))
  refine hK.out _ _ ⟨g3, g4⟩ (fun hHeld => ?_)
  clear hK K
  try simp only [Act.put, List.setIfInBounds_toArray, List.set_cons_zero, List.set_cons_succ]
  refine take_at (i := 12) (d := some 171) (v := ?_) rfl rfl (by kernel_rfl) (by kernel_rfl) (by kernel_rfl) (fun _ _ _ h => h) (Or.inl ⟨by rfl, ?_⟩) (by assumption) ?_
  rotate_left
  · intro w hSw; go_simp; try (with_reducible rfl)
  try simp only [Act.put, List.setIfInBounds_toArray, List.set_cons_zero, List.set_cons_succ]
  refine take_at (i := 13) (d := some 6) (v := ?_) rfl rfl (by kernel_rfl) (by kernel_rfl) (by kernel_rfl) (fun _ _ _ h => h) (Or.inl ⟨by rfl, ?_⟩) (by assumption) ?_
  rotate_left
  · intro w hSw; go_simp; try (with_reducible rfl)
  try simp only [Act.put, List.setIfInBounds_toArray, List.set_cons_zero, List.set_cons_succ]
  refine wpAnyH_done (by kernel_rfl) ?_ _
  go_wp2
  go_ret
  exact ⟨rfl, (Tz.of HTd.out HP.out hq).ahead (HF0.out.drew)⟩

set_option maxHeartbeats 4000000 in
set_option maxRecDepth 1000000 in
theorem hactk8_calls {mb rb : Nat} {A R : Nat → Prop} {F B : List Int} {d : Int} {nm tn : ByteArray} {q n : Int} {ab : Option Addr} {cb : Nat} {l : List Int} {w : World} (hT : Two w mb A rb R F B B) (hnm : nm.size ≤ 140737488355328) (hto : tn.size ≤ 140737488355328) (hn : -9223372036854775808 ≤ n ∧ n ≤ 9223372036854775807)
    (hu : Sl w (.slice ab l.length cb) l.length (bys l)) (huA : ∀ k, (Value.slice ab l.length cb).ownBlock = some k → l ≠ [] → ¬ A k ∧ ¬ R k) (h0 : ∀ b ∈ l, 0 ≤ b ∧ b < 256) (hlen : l.length ≤ 140737488355328) (hd : d = 8) :
    Calls Tryz.prog 9 #[.pointer (some ⟨mb, 0, none⟩), .pointer (some ⟨rb, 0, none⟩), .agg #[.int .i64 d, .string nm, .string tn, .int .i64 q, .int .i64 n, .slice ab l.length cb]] w fun e w' => e = .returned (.bool true) ∧ Tz w mb A rb R F (hseekR B q n).1 w' := by
  have hF0 : Fr No w (w.alloc (Obj.cells #[.int .i64 d, .string nm, .string tn, .int .i64 q, .int .i64 n, .slice ab l.length cb] 31)) := (Fr.refl _ _).alloc _
  have hb0 := heap_new w (Obj.cells #[.int .i64 d, .string nm, .string tn, .int .i64 q, .int .i64 n, .slice ab l.length cb] 31)
  have hbA : ∀ k, A k ∨ R k → k < w.heap.size := fun k hk => hk.elim (hT.1.low k) (hT.2.1.low k)
  have HT0 := Lib.hid (hT.fr0 hF0)
  have HBA : RowKit.Hid (¬ A w.heap.size ∧ ¬ R w.heap.size) := Lib.hid ⟨fun h => Nat.lt_irrefl _ (hbA _ (.inl h)), fun h => Nat.lt_irrefl _ (hbA _ (.inr h))⟩
  have HF0 := Lib.hid hF0
  have HB0 := Lib.hid hb0
  have HNM := Lib.hid hnm
  have HTO := Lib.hid hto
  have HN := Lib.hid hn
  have HU := Lib.hid (hu.fr0 hF0)
  have HUA := Lib.hid huA
  have HL0 := Lib.hid h0
  have HLEN := Lib.hid hlen
  clear hF0 hb0 hbA hT hnm hto hn hu huA h0 hlen
  have hd0 : (d == 0) = false := by simp; omega
  have hd1 : (d == 1) = false := by simp; omega
  have hd2 : (d == 2) = false := by simp; omega
  have hd3 : (d == 3) = false := by simp; omega
  have hd4 : (d == 4) = false := by simp; omega
  have hd5 : (d == 5) = false := by simp; omega
  have hd6 : (d == 6) = false := by simp; omega
  have hd7 : (d == 7) = false := by simp; omega
  have hd8 : (d == 8) = true := by simp; omega
  clear hd
  have HCF := Lib.hid (fun (w1 : World) (h : MemAt w1 mb A F B) => hseek_calls h q n)
  have HC2 := Lib.hid (fun (w1 : World) (h : RefAt w1 rb R F B) => rseek13_calls h q n)
  generalize hseekR B q n = p at *
  obtain ⟨B2, x⟩ := p
  dsimp only at HCF HC2 ⊢
  go_enter Tryz.func9, Tryz.ntmps9
  go_upto_region 29 with fail
  generalize w.alloc (Obj.cells #[.int .i64 d, .string nm, .string tn, .int .i64 q, .int .i64 n, .slice ab l.length cb] 31) = W at *
  have HB : RowKit.Hid (W.drew.heap[w.heap.size]? = some (.cells #[.int .i64 d, .string nm, .string tn, .int .i64 q, .int .i64 n, .slice ab l.length cb] 31 (0, 0))) := Lib.hid HB0.out
  have HTd := Lib.hid (HT0.out.fr0 (Fr.refl No W).drew)
  have HUd := Lib.hid (HU.out.fr0 (Fr.refl No W).drew)
  have HM : RowKit.Hid (MemAt W.drew mb A F B) := Lib.hid HTd.out.1
  generalize w.heap.size = b0 at *
  have HC := Lib.hid (HCF.out _ HM.out)
  have c3 : W.drew.cell? ⟨b0, 3, none⟩ = some (.int .i64 q) := heap_cell HB.out rfl
  have c4 : W.drew.cell? ⟨b0, 4, none⟩ = some (.int .i64 n) := heap_cell HB.out rfl
  refine wp_region_held_drew (S := (fun w' => w'.cell? ⟨b0, 3, none⟩ = some (.int .i64 q) ∧ w'.cell? ⟨b0, 4, none⟩ = some (.int .i64 n))) (by kernel_rfl) ⟨c3, c4⟩ (fun hS0 => ?_)
  refine take_at (i := 0) (d := some 198) (v := ?_) rfl rfl (by kernel_rfl) (by kernel_rfl) (by kernel_rfl) (fun _ _ _ h => h) (Or.inl ⟨by rfl, ?_⟩) (by assumption) ?_
  rotate_left
  · intro w hSw; go_simp; try (with_reducible rfl)
  try simp only [Act.put, List.setIfInBounds_toArray, List.set_cons_zero, List.set_cons_succ]
  refine take_at (i := 1) (d := some 199) (v := ?_) rfl rfl (by kernel_rfl) (by kernel_rfl) (by kernel_rfl) (fun _ _ _ h => h) (Or.inl ⟨by rfl, ?_⟩) (by assumption) ?_
  rotate_left
  · intro w hSw; go_simp; try (with_reducible rfl)
  try simp only [Act.put, List.setIfInBounds_toArray, List.set_cons_zero, List.set_cons_succ]
  refine take_at (i := 2) (d := some 200) (v := ?_) rfl rfl (by kernel_rfl) (by kernel_rfl) (by kernel_rfl) (fun _ _ _ h => h) (Or.inl ⟨by rfl, ?_⟩) (by assumption) ?_
  rotate_left
  · intro w hSw; go_simp; try (with_reducible rfl)
  try simp only [Act.put, List.setIfInBounds_toArray, List.set_cons_zero, List.set_cons_succ]
  refine take_at (i := 3) (d := some 201) (v := ?_) rfl rfl (by kernel_rfl) (by kernel_rfl) (by kernel_rfl) (fun _ _ _ h => h) (Or.inl ⟨by rfl, ?_⟩) (by assumption) ?_
  rotate_left
  · intro w hSw; go_simp; try (with_reducible rfl)
  try simp only [Act.put, List.setIfInBounds_toArray, List.set_cons_zero, List.set_cons_succ]
  refine take_at (i := 4) (d := some 202) (v := ?_) rfl rfl (by kernel_rfl) (by kernel_rfl) (by kernel_rfl) (fun _ _ _ h => h) (Or.inl ⟨by rfl, ?_⟩) (by assumption) ?_
  rotate_left
  · intro w hSw; go_simp; try (with_reducible rfl)
  try simp only [Act.put, List.setIfInBounds_toArray, List.set_cons_zero, List.set_cons_succ]
  refine take_at (i := 6) (d := some 204) (v := ?_) rfl rfl (by kernel_rfl) (by kernel_rfl) (by kernel_rfl) (fun _ _ _ h => h) (Or.inl ⟨by rfl, ?_⟩) (by assumption) ?_
  rotate_left
  · intro w hSw; go_simp; try (with_reducible rfl)
  try simp only [Act.put, List.setIfInBounds_toArray, List.set_cons_zero, List.set_cons_succ]
  refine take_at (i := 7) (d := some 205) (v := ?_) rfl rfl (by kernel_rfl) (by kernel_rfl) (by kernel_rfl) (fun _ _ _ h => h) (Or.inl ⟨by rfl, ?_⟩) (by assumption) ?_
  rotate_left
  · intro w hSw; go_simp; try (with_reducible rfl)
  try simp only [Act.put, List.setIfInBounds_toArray, List.set_cons_zero, List.set_cons_succ]
  refine take_at (i := 8) (d := some 206) (v := ?_) rfl rfl (by kernel_rfl) (by kernel_rfl) (by kernel_rfl) (fun _ _ _ h => h) (Or.inl ⟨by rfl, ?_⟩) (by assumption) ?_
  rotate_left
  · intro w hSw; go_simp; try (with_reducible rfl)
  try simp only [Act.put, List.setIfInBounds_toArray, List.set_cons_zero, List.set_cons_succ]
  refine take_at (i := 9) (d := some 207) (v := ?_) rfl rfl (by kernel_rfl) (by kernel_rfl) (by kernel_rfl) (fun _ _ _ h => h) (Or.inl ⟨by rfl, ?_⟩) (by assumption) ?_
  rotate_left
  · intro w hSw; go_simp; try (with_reducible rfl)
  try simp only [Act.put, List.setIfInBounds_toArray, List.set_cons_zero, List.set_cons_succ]
  refine take_at (i := 10) (d := some 208) (v := ?_) rfl rfl (by kernel_rfl) (by kernel_rfl) (by kernel_rfl) (fun _ _ _ h => h) (Or.inl ⟨by rfl, ?_⟩) (by assumption) ?_
  rotate_left
  · intro w hSw; go_simp; try (with_reducible rfl)
  try simp only [Act.put, List.setIfInBounds_toArray, List.set_cons_zero, List.set_cons_succ]
  refine wpAnyH_ready (rs := [5]) (by kernel_rfl) (by simp) ?_
  refine AllReadyH.cons rfl (fun K hK => ?_) AllReadyH.nil
  go_simp
  go_wp2_with (go_at_call 31; ((with_reducible refine HC.out.mono ?_); rintro e w1 ⟨A1, rfl, hp⟩; have HP := Lib.hid hp; have HR1 : RowKit.Hid (RefAt w1 rb R F B) := Lib.hid (HTd.out.mem hp).2.1; have HB1 := Lib.hid (hp.2.1.heap HB.out (fun h => HBA.out.1 h)); have f3 : w1.cell? ⟨b0, 3, none⟩ = some (.int .i64 q) := heap_cell HB1.out rfl; have f4 : w1.cell? ⟨b0, 4, none⟩ = some (.int .i64 n) := heap_cell HB1.out rfl; clear hp))
  refine hK.out _ _ ⟨f3, f4⟩ (fun hHeld => ?_)
  clear hK K
  try simp only [Act.put, List.setIfInBounds_toArray, List.set_cons_zero, List.set_cons_succ]
  refine wpAnyH_ready (rs := [11]) (by kernel_rfl) (by simp) ?_
  refine AllReadyH.cons rfl (fun K hK => ?_) AllReadyH.nil
  go_simp
  go_wp2_with (go_at_call 32; ((with_reducible refine (HC2.out _ HR1.out).mono ?_); rintro e w2 ⟨R2, rfl, hq⟩; have HB2 := Lib.hid (hq.2.1.heap HB1.out (fun h => HBA.out.2 h)); have g3 : w2.cell? ⟨b0, 3, none⟩ = some (.int .i64 q) := heap_cell HB2.out rfl; have g4 : w2.cell? ⟨b0, 4, none⟩ = some (.int .i64 n) := heap_cell HB2.out rfl; skip))
  refine hK.out _ _ ⟨g3, g4⟩ (fun hHeld => ?_)
  clear hK K
  try simp only [Act.put, List.setIfInBounds_toArray, List.set_cons_zero, List.set_cons_succ]
  refine take_at (i := 12) (d := some 210) (v := ?_) rfl rfl (by kernel_rfl) (by kernel_rfl) (by kernel_rfl) (fun _ _ _ h => h) (Or.inl ⟨by rfl, ?_⟩) (by assumption) ?_
  rotate_left
  · intro w hSw; go_simp; try (with_reducible rfl)
  try simp only [Act.put, List.setIfInBounds_toArray, List.set_cons_zero, List.set_cons_succ]
  refine take_at (i := 13) (d := some 6) (v := ?_) rfl rfl (by kernel_rfl) (by kernel_rfl) (by kernel_rfl) (fun _ _ _ h => h) (Or.inl ⟨by rfl, ?_⟩) (by assumption) ?_
  rotate_left
  · intro w hSw; go_simp; try (with_reducible rfl)
  try simp only [Act.put, List.setIfInBounds_toArray, List.set_cons_zero, List.set_cons_succ]
  refine wpAnyH_done (by kernel_rfl) ?_ _
  go_wp2
  go_ret
  exact ⟨rfl, (Tz.of HTd.out HP.out hq).ahead (HF0.out.drew)⟩

end Go.Proofs.YtoajnmbbgbpbgaaGreat
