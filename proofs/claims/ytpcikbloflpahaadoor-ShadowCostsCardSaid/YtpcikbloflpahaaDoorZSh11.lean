/-
  Chapter 7: an empty tree walked (none): Reach; guarded.
-/
import Derived.Test.YtpcikbloflpahaaDoorZSh10
import Derived.Defers
import Derived.Recover
namespace Go.Proofs.YtpcikbloflpahaaDoor
set_option linter.unusedVariables false
set_option linter.unusedSimpArgs false
open Go.RowKit Go.Shelf Go.Maps

theorem wmust_calls (e : Value) (w : World) : Calls Tryd.prog 81 #[.bool true, e] w fun e w' => e = .returned (.tuple #[]) ∧ w' = w := by
  go_enter Tryd.func81, Tryd.ntmps81
  go_wp2
  go_end0
  exact ⟨rfl, rfl⟩
set_option maxHeartbeats 1000000 in
set_option maxRecDepth 1000000 in
theorem each0_calls {w : World} {db : Nat} {A : Nat → Prop} {acts : Nat} (h : DkAt w db A acts) (fn : Fn) (fi cap : Array Value) : Calls Tryd.prog 72 #[.pointer (some ⟨db, 0, none⟩), .int .i64 0, .func fn fi cap] w fun e w' => e = .returned (.tuple #[]) ∧ Fr No w w' := by
  have hF : Fr No w ((w.alloc (Obj.cells #[.pointer (some ⟨db, 0, none⟩)] 36)).alloc (Obj.cells #[.func fn fi cap] 138)) := ((Fr.refl No w).alloc _).alloc _
  have HD := Lib.hid (ddown_calls (h.fr0 hF))
  have HM := Lib.hid wmust_calls
  have HF := Lib.hid hF
  clear h hF
  go_enter Tryd.func72, Tryd.ntmps72
  go_wp2_with fail
  refine HD.out.mono ?_
  rintro e w1 ⟨rfl, rfl⟩
  go_wp2_with fail
  refine (HM.out _ _).mono ?_
  rintro e w1 ⟨rfl, rfl⟩
  go_wp2_with fail
  refine bodyPost_ret (results_none rfl _ _ _) rfl ?_
  exact ⟨rfl, HF.out⟩
theorem wcatch_idle (p : Addr) (w : World) :
    CallsD Tryd.prog 80 #[.pointer (some p)] .returning w fun e u' w' => e = .returned (.tuple #[]) ∧ u' = .returning ∧ w' = w := by
  refine callsD_of_wpS Tryd.func80 rfl fun c₀ cs hu => ?_
  apply wpS_seq
  apply wpS_region
  simp [wpOpsS, go_sem, recoverD, hu, Tryd.ntmps80, Exit.thenS]
  apply wpS_seq
  apply wpS_region
  simp [wpOpsS, go_sem, recoverD, hu, Exit.thenS, Act.put, Act.eval]
  refine wpS_cond (t := false) (by simp [Act.eval, Array.replicate]) ?_
  simp only [Bool.false_eq_true, if_false]
  refine wpS_of_wp (wp_skip ?_)
  cases c₀
  simp_all [bodyPostS, results, Tryd.results80]

set_option maxHeartbeats 1000000 in
set_option maxRecDepth 1000000 in
theorem wguard_calls {w : World} (cap : Array Value) {S : Nat → Prop} {R : World → Prop} (hS : ¬ S w.heap.size) (h : Calls Tryd.prog 71 cap (w.alloc (Obj.cells #[.int .i64 0] 25)) fun e w' => e = .returned (.tuple #[]) ∧ Fr S (w.alloc (Obj.cells #[.int .i64 0] 25)) w' ∧ R w') :
    Calls Tryd.prog 70 #[.func (.func 71) #[] cap] w fun e w' => e = .returned (.int .i64 0) ∧ ∃ w1, R w1 ∧ Fr S (w.alloc (Obj.cells #[.int .i64 0] 25)) w1 ∧ w' = w1.setCell ⟨w.heap.size, 0, none⟩ (.int .i64 0) := by
  have hmf : ∀ (fn : Fn) (first cap : Array Value) (w : World), (Instr.makeFunc fn first cap).run Tryd.prog w = .ok (.func fn first cap) w := fun _ _ _ _ => rfl
  have H := Lib.hid h
  have HN := Lib.hid hS
  clear h hS
  go_enter_defers Tryd.func70, Tryd.ntmps70
  go_wp2_with fail
  refine H.out.mono ?_
  rintro e w1 ⟨rfl, hF, hR⟩
  have hb := hF.heap (heap_new w (Obj.cells #[.int .i64 0] 25)) HN.out
  have k0 := heap_cell (o := 0) hb rfl
  have f0 := heap_frozen (o := 0) hb
  have HF := Lib.hid hF
  have HR := Lib.hid hR
  have HK := Lib.hid (heap_cell (o := 0) (heap_setAt7 (cs := [.int .i64 0]) hb 0 (.int .i64 0)) rfl)
  clear hF hR hb
  go_wp2_with fail
  refine leaves_cons (f := 80) (args := #[.pointer (some ⟨w.heap.size, 0, none⟩)]) (by simp) (by simp [go_sem]) ?_
  refine (wcatch_idle ⟨w.heap.size, 0, none⟩ _).mono ?_
  rintro e u' w'' ⟨rfl, rfl, rfl⟩
  simp [Leaves, settle, results, Tryd.results70, go_sem]
  exact ⟨.int .i64 0, by rw [HK.out]; rfl, rfl, w1, HR.out, HF.out, rfl⟩
theorem scatch_idle (p : Addr) (w : World) :
    CallsD Tryd.prog 56 #[.pointer (some p)] .returning w fun e u' w' => e = .returned (.tuple #[]) ∧ u' = .returning ∧ w' = w := by
  refine callsD_of_wpS Tryd.func56 rfl fun c₀ cs hu => ?_
  apply wpS_seq
  apply wpS_region
  simp [wpOpsS, go_sem, recoverD, hu, Tryd.ntmps56, Exit.thenS]
  apply wpS_seq
  apply wpS_region
  simp [wpOpsS, go_sem, recoverD, hu, Exit.thenS, Act.put, Act.eval]
  refine wpS_cond (t := false) (by simp [Act.eval, Array.replicate]) ?_
  simp only [Bool.false_eq_true, if_false]
  refine wpS_of_wp (wp_skip ?_)
  cases c₀
  simp_all [bodyPostS, results, Tryd.results56]

set_option maxHeartbeats 1000000 in
set_option maxRecDepth 1000000 in
theorem sguardc_calls {w : World} (cap : Array Value) {S : Nat → Prop} {R : World → Prop} (hS : ¬ S w.heap.size) (h : Calls Tryd.prog 35 cap (w.alloc (Obj.cells #[.int .i64 0] 25)) fun e w' => e = .returned (.tuple #[]) ∧ Fr S (w.alloc (Obj.cells #[.int .i64 0] 25)) w' ∧ R w') :
    Calls Tryd.prog 34 #[.func (.func 35) #[] cap] w fun e w' => e = .returned (.int .i64 0) ∧ ∃ w1, R w1 ∧ Fr S (w.alloc (Obj.cells #[.int .i64 0] 25)) w1 ∧ w' = w1.setCell ⟨w.heap.size, 0, none⟩ (.int .i64 0) := by
  have hmf : ∀ (fn : Fn) (first cap : Array Value) (w : World), (Instr.makeFunc fn first cap).run Tryd.prog w = .ok (.func fn first cap) w := fun _ _ _ _ => rfl
  have H := Lib.hid h
  have HN := Lib.hid hS
  clear h hS
  go_enter_defers Tryd.func34, Tryd.ntmps34
  go_wp2_with fail
  refine H.out.mono ?_
  rintro e w1 ⟨rfl, hF, hR⟩
  have hb := hF.heap (heap_new w (Obj.cells #[.int .i64 0] 25)) HN.out
  have k0 := heap_cell (o := 0) hb rfl
  have f0 := heap_frozen (o := 0) hb
  have HF := Lib.hid hF
  have HR := Lib.hid hR
  have HK := Lib.hid (heap_cell (o := 0) (heap_setAt7 (cs := [.int .i64 0]) hb 0 (.int .i64 0)) rfl)
  clear hF hR hb
  go_wp2_with fail
  refine leaves_cons (f := 56) (args := #[.pointer (some ⟨w.heap.size, 0, none⟩)]) (by simp) (by simp [go_sem]) ?_
  refine (scatch_idle ⟨w.heap.size, 0, none⟩ _).mono ?_
  rintro e u' w'' ⟨rfl, rfl, rfl⟩
  simp [Leaves, settle, results, Tryd.results34, go_sem]
  exact ⟨.int .i64 0, by rw [HK.out]; rfl, rfl, w1, HR.out, HF.out, rfl⟩
set_option maxHeartbeats 1000000 in
set_option maxRecDepth 1000000 in
theorem sguardb_calls {w : World} (cap : Array Value) {S : Nat → Prop} {R : World → Prop} (hS : ¬ S w.heap.size) (h : Calls Tryd.prog 46 cap (w.alloc (Obj.cells #[.int .i64 0] 25)) fun e w' => e = .returned (.tuple #[]) ∧ Fr S (w.alloc (Obj.cells #[.int .i64 0] 25)) w' ∧ R w') :
    Calls Tryd.prog 34 #[.func (.func 46) #[] cap] w fun e w' => e = .returned (.int .i64 0) ∧ ∃ w1, R w1 ∧ Fr S (w.alloc (Obj.cells #[.int .i64 0] 25)) w1 ∧ w' = w1.setCell ⟨w.heap.size, 0, none⟩ (.int .i64 0) := by
  have hmf : ∀ (fn : Fn) (first cap : Array Value) (w : World), (Instr.makeFunc fn first cap).run Tryd.prog w = .ok (.func fn first cap) w := fun _ _ _ _ => rfl
  have H := Lib.hid h
  have HN := Lib.hid hS
  clear h hS
  go_enter_defers Tryd.func34, Tryd.ntmps34
  go_wp2_with fail
  refine H.out.mono ?_
  rintro e w1 ⟨rfl, hF, hR⟩
  have hb := hF.heap (heap_new w (Obj.cells #[.int .i64 0] 25)) HN.out
  have k0 := heap_cell (o := 0) hb rfl
  have f0 := heap_frozen (o := 0) hb
  have HF := Lib.hid hF
  have HR := Lib.hid hR
  have HK := Lib.hid (heap_cell (o := 0) (heap_setAt7 (cs := [.int .i64 0]) hb 0 (.int .i64 0)) rfl)
  clear hF hR hb
  go_wp2_with fail
  refine leaves_cons (f := 56) (args := #[.pointer (some ⟨w.heap.size, 0, none⟩)]) (by simp) (by simp [go_sem]) ?_
  refine (scatch_idle ⟨w.heap.size, 0, none⟩ _).mono ?_
  rintro e u' w'' ⟨rfl, rfl, rfl⟩
  simp [Leaves, settle, results, Tryd.results34, go_sem]
  exact ⟨.int .i64 0, by rw [HK.out]; rfl, rfl, w1, HR.out, HF.out, rfl⟩

set_option maxHeartbeats 1000000 in
set_option maxRecDepth 1000000 in
theorem reach1_calls {w : World} {db p0 p1 p2 : Nat} {A : Nat → Prop} {acts : Nat} (h : DkAt w db A acts) (h0 : w.cell? ⟨p0, 0, none⟩ = some (.pointer (some ⟨db, 0, none⟩))) (h1 : w.cell? ⟨p1, 0, none⟩ = some (.int .i64 0)) :
    Calls Tryd.prog 71 #[.pointer (some ⟨p0, 0, none⟩), .pointer (some ⟨p1, 0, none⟩), .pointer (some ⟨p2, 0, none⟩)] w fun e w' => e = .returned (.tuple #[]) ∧ Fr No w w' := by
  have hmf : ∀ (fn : Fn) (first cap : Array Value) (w : World), (Instr.makeFunc fn first cap).run Tryd.prog w = .ok (.func fn first cap) w := fun _ _ _ _ => rfl
  have HE := Lib.hid (each0_calls h)
  clear h
  go_enter Tryd.func71, Tryd.ntmps71
  go_wp2_with fail
  refine (HE.out _ _ _).mono ?_
  rintro e w1 ⟨rfl, hF⟩
  go_wp2_with fail
  go_end0
  exact ⟨rfl, hF⟩
set_option maxHeartbeats 1000000 in
set_option maxRecDepth 1000000 in
theorem reach0_calls {w : World} {db : Nat} {A : Nat → Prop} {acts : Nat} (h : DkAt w db A acts) : Calls Tryd.prog 57 #[.pointer (some ⟨db, 0, none⟩), .int .i64 0] w fun e w' => e = .returned (.tuple #[.slice none 0 0, .int .i64 0]) ∧ Fr No w w' := by
  have hmf : ∀ (fn : Fn) (first cap : Array Value) (w : World), (Instr.makeFunc fn first cap).run Tryd.prog w = .ok (.func fn first cap) w := fun _ _ _ _ => rfl
  have H := Lib.hid h
  clear h
  go_enter Tryd.func57, Tryd.ntmps57
  go_wp2_with fail
  generalize hW : (((w.alloc (Obj.cells #[.pointer (some ⟨db, 0, none⟩)] 36)).alloc (Obj.cells #[.int .i64 0] 3)).alloc (Obj.cells #[.slice none 0 0] 43)) = W
  have hF : Fr No w W := by rw [← hW]; exact (((Fr.refl No w).alloc _).alloc _).alloc _
  have hs : W.heap.size = w.heap.size + 3 := by rw [← hW]; simp
  have hb0 : W.heap[w.heap.size]? = some (.cells [.pointer (some ⟨db, 0, none⟩)].toArray 36 (0, 0)) := by rw [← hW]; exact heap_alloc _ (heap_alloc _ (heap_new _ _))
  have hb1 : W.heap[w.heap.size + 1]? = some (.cells [.int .i64 0].toArray 3 (0, 0)) := by rw [← hW]; exact heap_alloc _ (heap_new2_7 w _ _)
  have hb2 : W.heap[w.heap.size + 1 + 1]? = some (.cells [.slice none 0 0].toArray 43 (0, 0)) := by
    rw [← hW]
    have := heap_new ((w.alloc (Obj.cells #[.pointer (some ⟨db, 0, none⟩)] 36)).alloc (Obj.cells #[.int .i64 0] 3)) (Obj.cells #[.slice none 0 0] 43)
    simpa using this
  have hFA : Fr No W (W.alloc (Obj.cells #[.int .i64 0] 25)) := (Fr.refl No W).alloc _
  refine (wguard_calls (S := No) (R := fun _ => True) _ (fun h => h) ((reach1_calls ((H.out.fr0 hF).fr0 hFA) (heap_cell (o := 0) (heap_alloc _ hb0) rfl) (heap_cell (o := 0) (heap_alloc _ hb1) rfl)).mono ?_)).mono ?_
  · rintro e w1 ⟨rfl, h⟩
    exact ⟨rfl, h, trivial⟩
  rintro e w2 ⟨rfl, w1, -, hF1, rfl⟩
  have hFW1 : Fr No W w1 := hFA.trans hF1
  have hF2 : Fr No W (w1.setCell ⟨W.heap.size, 0, none⟩ (.int .i64 0)) := hFW1.setCell (p := ⟨W.heap.size, 0, none⟩) (fun h => absurd h (by simp)) _
  have k2 := heap_cell (o := 0) (hF2.heap hb2 (fun h => h)) rfl
  have HF2 := Lib.hid (hF.trans hF2)
  generalize w1.setCell ⟨W.heap.size, 0, none⟩ (.int .i64 0) = W2 at *
  clear hW hF hs hb0 hb1 hb2 hFA hF1 hFW1 hF2
  go_wp2_with fail
  go_ret2
  exact ⟨rfl, HF2.out⟩
end Go.Proofs.YtpcikbloflpahaaDoor
