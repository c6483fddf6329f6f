/-
  Chapter 7: Cost of any changes to any tree, called.
-/
import Derived.Test.YtpcikbloflpahaaDoorZGp4
namespace Go.Proofs.YtpcikbloflpahaaDoor
set_option linter.unusedVariables false
set_option linter.unusedSimpArgs false
open Go.RowKit Go.Shelf Go.Maps

attribute [local irreducible] nd0 rdN ndB decN

set_option maxHeartbeats 1000000 in
set_option maxRecDepth 1000000 in
/-- guarded over Cost's closure, thrown or not. -/
theorem sguardcx_calls {w : World} (cap : Array Value) {S : Nat → Prop} {R : World → Prop} {X : Int → World → Prop} (hS : ¬ S w.heap.size) (h : Calls Tryd.prog 35 cap (w.alloc (Obj.cells #[.int .i64 0] 25)) fun e w' => Fr S (w.alloc (Obj.cells #[.int .i64 0] 25)) w' ∧ ((e = .returned (.tuple #[]) ∧ R w') ∨ ∃ n : Int, e = .panicked [{ v := .iface 122 (.agg #[.int .i64 n]), recovered := false }] ∧ X n w')) :
    Calls Tryd.prog 34 #[.func (.func 35) #[] cap] w fun e w' => ∃ w1, Fr S (w.alloc (Obj.cells #[.int .i64 0] 25)) w1 ∧ Fr (fun k => k = w.heap.size) w1 w' ∧ ((e = .returned (.int .i64 0) ∧ R w1) ∨ ∃ n : Int, e = .returned (.int .i64 n) ∧ X n w1) := by
  have hmf : ∀ (fn : Fn) (first cap : Array Value) (w : World), (Instr.makeFunc fn first cap).run Tryd.prog w = .ok (.func fn first cap) w := fun _ _ _ _ => rfl
  have H := Lib.hid h
  have HN := Lib.hid hS
  clear h hS
  go_enter_defers Tryd.func34, Tryd.ntmps34
  go_wp2_with fail
  refine H.out.mono ?_
  rintro e w1 ⟨hF, ⟨rfl, hR⟩ | ⟨n, rfl, hX⟩⟩
  · have hb := hF.heap (heap_new w (Obj.cells #[.int .i64 0] 25)) HN.out
    have k0 := heap_cell (o := 0) hb rfl
    have f0 := heap_frozen (o := 0) hb
    have HF := Lib.hid hF
    have HR := Lib.hid hR
    have HK := Lib.hid (heap_cell (o := 0) (heap_setAt7 (cs := [.int .i64 0]) hb 0 (.int .i64 0)) rfl)
    clear hF hR hb
    go_wp2_with fail
    refine leaves_cons (f := 56) (args := #[.pointer (some ⟨w.heap.size, 0, none⟩)]) (by simp) (by simp [go_sem]) ?_
    refine (scatch_idle ⟨w.heap.size, 0, none⟩ _).mono ?_
    rintro e u' w'' ⟨rfl, rfl, rfl⟩
    simp [Leaves, settle, results, Tryd.results34, go_sem]
    exact ⟨.int .i64 0, by rw [HK.out]; rfl, w1, HF.out, (Fr.refl (fun k => k = w.heap.size) w1).setCell (p := ⟨w.heap.size, 0, none⟩) (fun _ => rfl) _, .inl ⟨rfl, HR.out⟩⟩
  · have hb := hF.heap (heap_new w (Obj.cells #[.int .i64 0] 25)) HN.out
    have HF := Lib.hid hF
    have HX := Lib.hid hX
    have HB := Lib.hid hb
    clear hF hX hb
    go_wp2_with fail
    refine leaves_cons (f := 56) (args := #[.pointer (some ⟨w.heap.size, 0, none⟩)]) (by simp) (by simp [go_sem]) ?_
    refine (scatch_thrown (v0 := .int .i64 0) n HB.out).mono ?_
    rintro e u' w'' ⟨rfl, rfl, hF2, hk⟩
    simp [Leaves, settle, results, Tryd.results34, go_sem]
    exact ⟨.int .i64 n, by rw [hk], w1, HF.out, hF2, .inr ⟨n, rfl, HX.out⟩⟩

/-- What a change costs. -/
def costG (B : List Int) (top : Int) (L : List ChA) : Int := costP (keepF (plnF B (rdN B top) (outG (pagesG L 128)))) (topF (rdN B top) (plnF B (rdN B top) (outG (pagesG L 128)))) (decide (outG (pagesG L 128) = [])) (fullC (outG (pagesG L 128)))
def CostX (B : List Int) (N : Nat) (top : Int) (L : List ChA) (n : Int) : Prop :=
  ((∃ y ∈ L, ¬ goodC y) ∧ n = 1) ∨ ((∀ y ∈ L, goodC y) ∧ treeB B N top = none ∧ n = 60)
theorem fullC_le (L : List ChA) : (fullC (outG (pagesG L 128))).length ≤ 128 := Nat.le_trans (List.length_filter_le _ _) (by rw [outG_len]; exact pagesG_len L 128)
set_option maxHeartbeats 2000000 in
set_option maxRecDepth 1000000 in
theorem cost1g_calls {w : World} {db acts N p0 p1 p2 p3 : Nat} {Ad : Nat → Prop} {B : List Int} (hd : DkR w db Ad acts N B) (top : Int) (htop : -9223372036854775808 ≤ top ∧ top ≤ 9223372036854775807)
    (v : Value) (L : List ChA) (hv : Sl w v L.length (L.flatMap chaC)) (hok : ∀ y ∈ L, chaOk w y) (hlen : L.length ≤ 140737488355328)
    (q0 : w.cell? ⟨p0, 0, none⟩ = some (.pointer (some ⟨db, 0, none⟩))) (q1 : w.cell? ⟨p1, 0, none⟩ = some (.int .i64 top)) (q2 : w.cell? ⟨p2, 0, none⟩ = some v) {v0 : Value} (q3 : w.heap[p3]? = some (.cells [v0].toArray 3 (0, 0))) :
    Calls Tryd.prog 35 #[.pointer (some ⟨p0, 0, none⟩), .pointer (some ⟨p1, 0, none⟩), .pointer (some ⟨p2, 0, none⟩), .pointer (some ⟨p3, 0, none⟩)] w fun e w' => Fr (fun k => k = p3) w w' ∧
      ((e = .returned (.tuple #[]) ∧ ((∀ y ∈ L, goodC y) ∧ (∃ s, treeB B N top = some s) ∧ w'.cell? ⟨p3, 0, none⟩ = some (.int .i64 (costG B top L)))) ∨
       ∃ n : Int, e = .panicked [{ v := .iface 122 (.agg #[.int .i64 n]), recovered := false }] ∧ CostX B N top L n) := by
  obtain ⟨av, cv, rfl⟩ := hv.form
  have HP := Lib.hid (plannedg_calls hd top htop _ L hv hok hlen)
  have HQ := Lib.hid q3
  clear hd hv hok q3
  obtain ⟨z, hz⟩ : ∃ z, costG B top L = z := ⟨_, rfl⟩
  rw [hz]
  have HZ := Lib.hid hz
  clear hz
  go_enter Tryd.func35, Tryd.ntmps35
  go_wp2_with fail
  refine HP.out.mono ?_
  rintro e w1 ⟨hF1, ⟨hb, rfl⟩ | ⟨hg, ht, rfl⟩ | ⟨hg, hs, pb, lm, rfl, hpl⟩⟩
  · have HF := Lib.hid hF1
    have HB := Lib.hid hb
    clear hF1 hb
    go_wp2_with fail
    exact ⟨rfl, HF.out.no, .inr ⟨1, rfl, .inl ⟨HB.out, rfl⟩⟩⟩
  · have HF := Lib.hid hF1
    have HB := Lib.hid (And.intro hg ht)
    clear hF1 hg ht
    go_wp2_with fail
    exact ⟨rfl, HF.out.no, .inr ⟨60, rfl, .inr ⟨HB.out.1, HB.out.2, rfl⟩⟩⟩
  have HF1 := Lib.hid hF1
  have HG := Lib.hid (And.intro hg hs)
  have HC : RowKit.Hid (Calls Tryd.prog 37 #[.pointer (some ⟨pb, 0, none⟩)] w1 fun e w' => e = .returned (.int .i64 z) ∧ Fr No w1 w') := Lib.hid (by rw [← HZ.out]; exact costg_calls hpl (fullC_le L))
  clear hF1 hpl q0 q1 q2 hg hs
  go_wp2_with fail
  refine HC.out.mono ?_
  rintro e w2 ⟨rfl, hF2⟩
  have HQ2 := Lib.hid (hF2.heap (HF1.out.heap HQ.out (fun h => h)) (fun h => h))
  have k3 := heap_cell (o := 0) HQ2.out rfl
  have f3 := heap_frozen (o := 0) HQ2.out
  have HF2 := Lib.hid (HF1.out.trans hF2)
  clear hF2
  go_wp2_with fail
  go_end0
  exact ⟨HF2.out.no.trans ((Fr.refl (fun k => k = p3) w2).setCell (p := ⟨p3, 0, none⟩) (fun _ => rfl) _), .inl ⟨rfl, HG.out.1, HG.out.2, heap_cell (o := 0) (heap_setAt7 HQ2.out 0 _) rfl⟩⟩
/-- How Cost ends. -/
def CostQ (w : World) (B : List Int) (N : Nat) (top : Int) (L : List ChA) (e : Ending) (w' : World) : Prop :=
  Fr No w w' ∧ (((∀ y ∈ L, goodC y) ∧ (∃ s, treeB B N top = some s) ∧ e = .returned (.tuple #[.int .i64 (costG B top L), .int .i64 0])) ∨
    ∃ n : Int, CostX B N top L n ∧ e = .returned (.tuple #[.int .i64 0, .int .i64 n]))
set_option maxHeartbeats 2000000 in
set_option maxRecDepth 1000000 in
theorem scostg_calls {w : World} {db acts N : Nat} {Ad : Nat → Prop} {B : List Int} (hd : DkR w db Ad acts N B) (top : Int) (htop : -9223372036854775808 ≤ top ∧ top ≤ 9223372036854775807)
    (v : Value) (L : List ChA) (hv : Sl w v L.length (L.flatMap chaC)) (hok : ∀ y ∈ L, chaOk w y) (hlen : L.length ≤ 140737488355328) :
    Calls Tryd.prog 12 #[.pointer (some ⟨db, 0, none⟩), .int .i64 top, v] w (CostQ w B N top L) := by
  have hmf : ∀ (fn : Fn) (first cap : Array Value) (w : World), (Instr.makeFunc fn first cap).run Tryd.prog w = .ok (.func fn first cap) w := fun _ _ _ _ => rfl
  obtain ⟨av, cv, rfl⟩ := hv.form
  have H := Lib.hid (And.intro hd (And.intro hv (And.intro hok (And.intro hlen htop))))
  clear hd hv hok hlen htop
  obtain ⟨z, hz⟩ : ∃ z, costG B top L = z := ⟨_, rfl⟩
  have HZ := Lib.hid hz
  clear hz
  go_enter Tryd.func12, Tryd.ntmps12
  go_wp2_with fail
  generalize hW : ((((w.alloc (Obj.cells #[.pointer (some ⟨db, 0, none⟩)] 36)).alloc (Obj.cells #[.int .i64 top] 3)).alloc (Obj.cells #[.slice av L.length cv] 22)).alloc (Obj.cells #[.int .i64 0] 3)) = W
  have hF : Fr No w W := by rw [← hW]; exact ((((Fr.refl No w).alloc _).alloc _).alloc _).alloc _
  have hs : W.heap.size = w.heap.size + 4 := by rw [← hW]; simp
  have hb0 : W.heap[w.heap.size]? = some (.cells [.pointer (some ⟨db, 0, none⟩)].toArray 36 (0, 0)) := by rw [← hW]; exact heap_alloc _ (heap_alloc _ (heap_alloc _ (heap_new _ _)))
  have hb1 : W.heap[w.heap.size + 1]? = some (.cells [.int .i64 top].toArray 3 (0, 0)) := by rw [← hW]; exact heap_alloc _ (heap_alloc _ (heap_new2_7 w _ _))
  have hb2 : W.heap[w.heap.size + 1 + 1]? = some (.cells [.slice av L.length cv].toArray 22 (0, 0)) := by
    rw [← hW]
    refine heap_alloc _ ?_
    have := heap_new ((w.alloc (Obj.cells #[.pointer (some ⟨db, 0, none⟩)] 36)).alloc (Obj.cells #[.int .i64 top] 3)) (Obj.cells #[.slice av L.length cv] 22)
    simpa using this
  have hb3 : W.heap[w.heap.size + 1 + 1 + 1]? = some (.cells [.int .i64 0].toArray 3 (0, 0)) := by
    rw [← hW]
    have := heap_new (((w.alloc (Obj.cells #[.pointer (some ⟨db, 0, none⟩)] 36)).alloc (Obj.cells #[.int .i64 top] 3)).alloc (Obj.cells #[.slice av L.length cv] 22)) (Obj.cells #[.int .i64 0] 3)
    simpa using this
  have hFA : Fr No W (W.alloc (Obj.cells #[.int .i64 0] 25)) := (Fr.refl No W).alloc _
  have hFwa := hF.trans hFA
  obtain ⟨hd, hv, hok, hlen, htop⟩ := H.out
  refine (sguardcx_calls (S := fun k => k = w.heap.size + 1 + 1 + 1) (R := fun w1 => (∀ y ∈ L, goodC y) ∧ (∃ s, treeB B N top = some s) ∧ w1.cell? ⟨w.heap.size + 1 + 1 + 1, 0, none⟩ = some (.int .i64 (costG B top L))) (X := fun n w1 => CostX B N top L n) _ (fun (e : W.heap.size = _) => by omega) (cost1g_calls (hd.fr0 hFwa) top htop _ L (hv.fr0 hFwa) (fun y hy => ⟨(hok y hy).1, (hok y hy).2.1.fr0 hFwa, (hok y hy).2.2⟩) hlen (heap_cell (o := 0) (heap_alloc _ hb0) rfl) (heap_cell (o := 0) (heap_alloc _ hb1) rfl) (heap_cell (o := 0) (heap_alloc _ hb2) rfl) (heap_alloc _ hb3))).mono ?_
  rw [HZ.out]
  rintro e w2 ⟨w1, hF1, hF2, ⟨rfl, hg, ht, k3⟩ | ⟨n, rfl, hX⟩⟩
  · replace k3 := hF2.cell k3 (fun (e : _ = W.heap.size) => by omega)
    have HF2 := Lib.hid ((hFwa.trans' hF1 (fun i hi (e : i = _) => by omega)).trans' hF2 (fun i hi (e : i = _) => by omega))
    have HG := Lib.hid (And.intro hg ht)
    clear hW hF hs hb0 hb1 hb2 hb3 hFA hF1 hFwa hF2 hg ht hd hv hok hlen htop
    go_wp2_with fail
    go_ret2
    exact ⟨HF2.out, .inl ⟨HG.out.1, HG.out.2, by rw [HZ.out]; rfl⟩⟩
  · have HF2 := Lib.hid ((hFwa.trans' hF1 (fun i hi (e : i = _) => by omega)).trans' hF2 (fun i hi (e : i = _) => by omega))
    have HX := Lib.hid hX
    have hn : n = 1 ∨ n = 60 := by rcases hX with ⟨-, h⟩ | ⟨-, -, h⟩; exact .inl h; exact .inr h
    clear hW hF hs hb0 hb1 hb2 hb3 hFA hF1 hFwa hF2 hX hd hv hok hlen htop
    rcases hn with rfl | rfl
    · go_wp2_with fail
      go_ret2
      exact ⟨HF2.out, .inr ⟨1, HX.out, rfl⟩⟩
    · go_wp2_with fail
      go_ret2
      exact ⟨HF2.out, .inr ⟨60, HX.out, rfl⟩⟩
end Go.Proofs.YtpcikbloflpahaaDoor
