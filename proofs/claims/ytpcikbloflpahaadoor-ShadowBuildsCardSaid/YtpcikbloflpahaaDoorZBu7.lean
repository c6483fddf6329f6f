/-
  Chapter 7: Build, at any tree and changes.
-/
import Derived.Test.YtpcikbloflpahaaDoorZBu6
namespace Go.Proofs.YtpcikbloflpahaaDoor
set_option linter.unusedVariables false
set_option linter.unusedSimpArgs false
open Go.RowKit Go.Shelf Go.Maps

attribute [local irreducible] nd0 rdN ndB decN

set_option maxHeartbeats 1000000 in
set_option maxRecDepth 1000000 in
/-- guarded over Build's closure, thrown or not. -/
theorem sguardbx_calls {w : World} (cap : Array Value) {S : Nat → Prop} {R : World → Prop} {X : Int → World → Prop} (hS : ¬ S w.heap.size) (h : Calls Tryd.prog 46 cap (w.alloc (Obj.cells #[.int .i64 0] 25)) fun e w' => Fr S (w.alloc (Obj.cells #[.int .i64 0] 25)) w' ∧ ((e = .returned (.tuple #[]) ∧ R w') ∨ ∃ n : Int, e = .panicked [{ v := .iface 122 (.agg #[.int .i64 n]), recovered := false }] ∧ X n w')) :
    Calls Tryd.prog 34 #[.func (.func 46) #[] cap] w fun e w' => ∃ w1, Fr S (w.alloc (Obj.cells #[.int .i64 0] 25)) w1 ∧ Fr (fun k => k = w.heap.size) w1 w' ∧ ((e = .returned (.int .i64 0) ∧ R w1) ∨ ∃ n : Int, e = .returned (.int .i64 n) ∧ X n w1) := by
  have hmf : ∀ (fn : Fn) (first cap : Array Value) (w : World), (Instr.makeFunc fn first cap).run Tryd.prog w = .ok (.func fn first cap) w := fun _ _ _ _ => rfl
  have H := Lib.hid h
  have HN := Lib.hid hS
  clear h hS
  go_enter_defers Tryd.func34, Tryd.ntmps34
  go_wp2_with fail
  refine H.out.mono ?_
  rintro e w1 ⟨hF, ⟨rfl, hR⟩ | ⟨n, rfl, hX⟩⟩
  · have hb := hF.heap (heap_new w (Obj.cells #[.int .i64 0] 25)) HN.out
    have k0 := heap_cell (o := 0) hb rfl
    have f0 := heap_frozen (o := 0) hb
    have HF := Lib.hid hF
    have HR := Lib.hid hR
    have HK := Lib.hid (heap_cell (o := 0) (heap_setAt7 (cs := [.int .i64 0]) hb 0 (.int .i64 0)) rfl)
    clear hF hR hb
    go_wp2_with fail
    refine leaves_cons (f := 56) (args := #[.pointer (some ⟨w.heap.size, 0, none⟩)]) (by simp) (by simp [go_sem]) ?_
    refine (scatch_idle ⟨w.heap.size, 0, none⟩ _).mono ?_
    rintro e u' w'' ⟨rfl, rfl, rfl⟩
    simp [Leaves, settle, results, Tryd.results34, go_sem]
    exact ⟨.int .i64 0, by rw [HK.out]; rfl, w1, HF.out, (Fr.refl (fun k => k = w.heap.size) w1).setCell (p := ⟨w.heap.size, 0, none⟩) (fun _ => rfl) _, .inl ⟨rfl, HR.out⟩⟩
  · have hb := hF.heap (heap_new w (Obj.cells #[.int .i64 0] 25)) HN.out
    have HF := Lib.hid hF
    have HX := Lib.hid hX
    have HB := Lib.hid hb
    clear hF hX hb
    go_wp2_with fail
    refine leaves_cons (f := 56) (args := #[.pointer (some ⟨w.heap.size, 0, none⟩)]) (by simp) (by simp [go_sem]) ?_
    refine (scatch_thrown (v0 := .int .i64 0) n HB.out).mono ?_
    rintro e u' w'' ⟨rfl, rfl, hF2, hk⟩
    simp [Leaves, settle, results, Tryd.results34, go_sem]
    exact ⟨.int .i64 n, by rw [hk], w1, HF.out, hF2, .inr ⟨n, rfl, HX.out⟩⟩

theorem BldE.base {w w0 w' : World} {db mb cb fb N : Nat} {A : Nat → Prop} {acts : Nat} {L : List Int} {ws : Ws} {c : List Int} {top : Int} {Lc : List ChA} {z : Int} (h : BldE w db mb cb fb N A acts L ws c top Lc z w') (hs : w0.heap.size ≤ w.heap.size) : BldE w0 db mb cb fb N A acts L ws c top Lc z w' := by
  obtain ⟨A', h1, h2⟩ := h
  exact ⟨A', h1.imp' hs, h2⟩
/-- How Build ends. -/
def BuildQ (w : World) (db mb cb fb N : Nat) (A : Nat → Prop) (acts : Nat) (L : List Int) (ws : Ws) (c : List Int) (top : Int) (Lc : List ChA) (e : Ending) (w' : World) : Prop :=
  Fr (fun k => A k ∨ k = cb ∨ k = fb) w w' ∧
  (((∀ y ∈ Lc, goodC y) ∧ (∃ s, treeB (applyW L ws) N top = some s) ∧ costG (applyW L ws) top Lc ≤ (freeN c : Int) ∧ ∃ z, e = .returned (.tuple #[.int .i64 z, .int .i64 0]) ∧ BldE w db mb cb fb N A acts L ws c top Lc z w') ∨
   ∃ n : Int, e = .returned (.tuple #[.int .i64 0, .int .i64 n]) ∧ Fr No w w' ∧ (CostX (applyW L ws) N top Lc n ∨ ((∀ y ∈ Lc, goodC y) ∧ (∃ s, treeB (applyW L ws) N top = some s) ∧ (freeN c : Int) < costG (applyW L ws) top Lc ∧ n = 50)))
attribute [local irreducible] BldE costG freeN CostX treeB
set_option maxHeartbeats 4000000 in
set_option maxRecDepth 1000000 in
theorem buildg_calls {w : World} {db mb cb fb N : Nat} {A : Nat → Prop} {acts : Nat} {L : List Int} {ws : Ws} {c : List Int} (h : BdG w db mb cb fb N A acts L ws c) (ha : acts < 900000) (top : Int) (htop : -9223372036854775808 ≤ top ∧ top ≤ 9223372036854775807)
    (v : Value) (Lc : List ChA) (hv : Sl w v Lc.length (Lc.flatMap chaC)) (hok : ∀ y ∈ Lc, chaOk w y) (hlen : Lc.length ≤ 140737488355328) :
    Calls Tryd.prog 20 #[.pointer (some ⟨db, 0, none⟩), .pointer (some ⟨mb, 0, none⟩), .int .i64 top, v] w (BuildQ w db mb cb fb N A acts L ws c top Lc) := by
  have hmf : ∀ (fn : Fn) (first cap : Array Value) (w : World), (Instr.makeFunc fn first cap).run Tryd.prog w = .ok (.func fn first cap) w := fun _ _ _ _ => rfl
  obtain ⟨av, cv, rfl⟩ := hv.form
  have H := Lib.hid (And.intro h (And.intro hv (And.intro hok (And.intro hlen htop))))
  clear h hv hok hlen htop
  go_enter Tryd.func20, Tryd.ntmps20
  go_wp2_with fail
  generalize hW : (((((w.alloc (Obj.cells #[.pointer (some ⟨db, 0, none⟩)] 36)).alloc (Obj.cells #[.pointer (some ⟨mb, 0, none⟩)] 52)).alloc (Obj.cells #[.int .i64 top] 3)).alloc (Obj.cells #[.slice av Lc.length cv] 22)).alloc (Obj.cells #[.int .i64 0] 3)) = W
  have hF : Fr No w W := by rw [← hW]; exact (((((Fr.refl No w).alloc _).alloc _).alloc _).alloc _).alloc _
  have hs : W.heap.size = w.heap.size + 5 := by rw [← hW]; simp
  have hb0 : W.heap[w.heap.size]? = some (.cells [.pointer (some ⟨db, 0, none⟩)].toArray 36 (0, 0)) := by rw [← hW]; exact heap_alloc _ (heap_alloc _ (heap_alloc _ (heap_alloc _ (heap_new _ _))))
  have hb1 : W.heap[w.heap.size + 1]? = some (.cells [.pointer (some ⟨mb, 0, none⟩)].toArray 52 (0, 0)) := by rw [← hW]; exact heap_alloc _ (heap_alloc _ (heap_alloc _ (heap_new2_7 w _ _)))
  have hb2 : W.heap[w.heap.size + 1 + 1]? = some (.cells [.int .i64 top].toArray 3 (0, 0)) := by
    rw [← hW]
    refine heap_alloc _ (heap_alloc _ ?_)
    have := heap_new ((w.alloc (Obj.cells #[.pointer (some ⟨db, 0, none⟩)] 36)).alloc (Obj.cells #[.pointer (some ⟨mb, 0, none⟩)] 52)) (Obj.cells #[.int .i64 top] 3)
    simpa using this
  have hb3 : W.heap[w.heap.size + 1 + 1 + 1]? = some (.cells [.slice av Lc.length cv].toArray 22 (0, 0)) := by
    rw [← hW]
    refine heap_alloc _ ?_
    have := heap_new (((w.alloc (Obj.cells #[.pointer (some ⟨db, 0, none⟩)] 36)).alloc (Obj.cells #[.pointer (some ⟨mb, 0, none⟩)] 52)).alloc (Obj.cells #[.int .i64 top] 3)) (Obj.cells #[.slice av Lc.length cv] 22)
    simpa using this
  have hb4 : W.heap[w.heap.size + 1 + 1 + 1 + 1]? = some (.cells [.int .i64 0].toArray 3 (0, 0)) := by
    rw [← hW]
    have := heap_new ((((w.alloc (Obj.cells #[.pointer (some ⟨db, 0, none⟩)] 36)).alloc (Obj.cells #[.pointer (some ⟨mb, 0, none⟩)] 52)).alloc (Obj.cells #[.int .i64 top] 3)).alloc (Obj.cells #[.slice av Lc.length cv] 22)) (Obj.cells #[.int .i64 0] 3)
    simpa using this
  have hFA : Fr No W (W.alloc (Obj.cells #[.int .i64 0] 25)) := (Fr.refl No W).alloc _
  have hFwa := hF.trans hFA
  obtain ⟨h, hv, hok, hlen, htop⟩ := H.out
  have hlo := h.dk.low
  have hl0 := heap_lt7 h.sp.box
  have hl1 := heap_lt7 h.sp.cnt
  have hl2 := heap_lt7 h.sp.fre
  have hno : ¬ (A W.heap.size ∨ W.heap.size = cb ∨ W.heap.size = fb ∨ W.heap.size = w.heap.size + 1 + 1 + 1 + 1) := by
    rintro (e | e | e | e)
    · have := hlo _ e; omega
    · omega
    · omega
    · omega
  have hsA : (W.alloc (Obj.cells #[.int .i64 0] 25)).heap.size = w.heap.size + 6 := by simp [hs]
  have hB := buildg1_calls (h.fr0 hFwa) ha top htop _ Lc (hv.fr0 hFwa) (fun y hy => ⟨(hok y hy).1, (hok y hy).2.1.fr0 hFwa, (hok y hy).2.2⟩) hlen (heap_cell (o := 0) (heap_alloc _ hb0) rfl) (heap_cell (o := 0) (heap_alloc _ hb2) rfl) (heap_cell (o := 0) (heap_alloc _ hb3) rfl) (heap_cell (o := 0) (heap_alloc _ hb1) rfl) (heap_alloc _ hb4) (fun e => by have := hlo _ e; omega) (by omega) (by omega) (by omega)
  refine (sguardbx_calls (S := fun k => A k ∨ k = cb ∨ k = fb ∨ k = w.heap.size + 1 + 1 + 1 + 1) (R := fun w1 => ((∀ y ∈ Lc, goodC y) ∧ (∃ s, treeB (applyW L ws) N top = some s) ∧ costG (applyW L ws) top Lc ≤ (freeN c : Int) ∧ ∃ z, w1.cell? ⟨w.heap.size + 1 + 1 + 1 + 1, 0, none⟩ = some (.int .i64 z) ∧ BldE (W.alloc (Obj.cells #[.int .i64 0] 25)) db mb cb fb N A acts L ws c top Lc z w1)) (X := fun n w1 => Fr No (W.alloc (Obj.cells #[.int .i64 0] 25)) w1 ∧ (CostX (applyW L ws) N top Lc n ∨ ((∀ y ∈ Lc, goodC y) ∧ (∃ s, treeB (applyW L ws) N top = some s) ∧ (freeN c : Int) < costG (applyW L ws) top Lc ∧ n = 50))) _ hno hB).mono ?_
  rintro e w2 ⟨w1, hF1, hF2, ⟨rfl, hg, ht, hc, z, k3, hE⟩ | ⟨n, rfl, hN, hX⟩⟩
  · have hE2 := (hE.fr hF2 (fun k (e : k = W.heap.size) => by subst e; exact ⟨fun hA => hno (.inl hA), by omega⟩) (fun k (e : k = W.heap.size) => by omega)).base (w0 := w) (by omega)
    have k3 := hF2.cell k3 (fun (e : _ = W.heap.size) => by omega)
    have HF2 := Lib.hid ((hFwa.no.trans' hF1 (S := fun k => A k ∨ k = cb ∨ k = fb) (fun i hi e => by rcases e with e | e | e | e; exact .inl e; exact .inr (.inl e); exact .inr (.inr e); omega)).trans' hF2 (fun i hi (e : i = _) => by omega))
    have HE := Lib.hid (And.intro hg (And.intro ht (And.intro hc hE2)))
    clear hW hF hs hb0 hb1 hb2 hb3 hb4 hFA hF1 hFwa hF2 h hv hok hlen htop hlo hl0 hl1 hl2 hB hE hE2 hno hg ht hc hsA
    go_wp2_with fail
    go_ret2
    exact ⟨HF2.out, .inl ⟨HE.out.1, HE.out.2.1, HE.out.2.2.1, z, rfl, HE.out.2.2.2⟩⟩
  · have HF2 := Lib.hid ((hFwa.trans hN).trans' hF2 (fun i hi (e : i = _) => by omega))
    have hn : n = 1 ∨ n = 60 ∨ n = 50 := by
      rcases hX with h | h
      · unfold CostX at h
        rcases h with ⟨-, h⟩ | ⟨-, -, h⟩
        · exact .inl h
        · exact .inr (.inl h)
      · exact .inr (.inr h.2.2.2)
    have HX := Lib.hid hX
    clear hW hF hs hb0 hb1 hb2 hb3 hb4 hFA hF1 hFwa hF2 h hv hok hlen htop hlo hl0 hl1 hl2 hB hN hX hno hsA
    rcases hn with rfl | rfl | rfl
    · go_wp2_with fail
      go_ret2
      exact ⟨HF2.out.no, .inr ⟨1, rfl, HF2.out, HX.out⟩⟩
    · go_wp2_with fail
      go_ret2
      exact ⟨HF2.out.no, .inr ⟨60, rfl, HF2.out, HX.out⟩⟩
    · go_wp2_with fail
      go_ret2
      exact ⟨HF2.out.no, .inr ⟨50, rfl, HF2.out, HX.out.imp id (fun h => ⟨h.1, h.2.1, h.2.2.1, rfl⟩)⟩⟩
end Go.Proofs.YtpcikbloflpahaaDoor
