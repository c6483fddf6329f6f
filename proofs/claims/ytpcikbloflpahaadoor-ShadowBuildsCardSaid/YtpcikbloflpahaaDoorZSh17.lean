/-
  Chapter 7: Build.
-/
import Derived.Test.YtpcikbloflpahaaDoorZSh16
namespace Go.Proofs.YtpcikbloflpahaaDoor
set_option linter.unusedVariables false
set_option linter.unusedSimpArgs false
open Go.RowKit Go.Shelf Go.Maps

/-- A disk, a map of sectors, the library's table. -/
structure BdIn (w : World) (db mb cb fb : Nat) (A : Nat → Prop) (acts : Nat) : Prop where
  dk : DkAt w db A acts
  sp : SpIn w mb cb fb lcs0 1020
  tab : Tab7 w
  a1 : ¬ A mb
  a2 : ¬ A cb
  a3 : ¬ A fb
  a5 : ¬ A 0
  b1 : cb ≠ 0
  b2 : fb ≠ 0
theorem BdIn.fr0 {w w' : World} {db mb cb fb : Nat} {A : Nat → Prop} {acts : Nat} (h : BdIn w db mb cb fb A acts) (hF : Fr No w w') : BdIn w' db mb cb fb A acts :=
  ⟨h.dk.fr0 hF, ⟨hF.heap h.sp.box (fun h => h), hF.heap h.sp.cnt (fun h => h), hF.heap h.sp.fre (fun h => h), h.sp.len⟩, h.tab.fr hF (fun h => h), h.a1, h.a2, h.a3, h.a5, h.b1, h.b2⟩
theorem BdIn.ly {n : Nat} {w : World} {db mb cb fb pb lm gb gc yb yc : Nat} {A : Nat → Prop} {acts : Nat} {tn lf : List Int} (h : BdIn w db mb cb fb A acts) (hp : PlAt n w pb lm gb gc yb yc tn lf) (hn : ∀ k, A k → k < n) (hm : mb < n) (hc : cb < n) (hf : fb < n) (h0 : 0 < n) :
    LyIn n (w.alloc (Obj.cells #[.pointer (some ⟨db, 0, none⟩), .pointer (some ⟨mb, 0, none⟩)] 108)) db mb cb fb w.heap.size pb lm gb gc yb yc A acts lcs0 1020 tn lf := by
  have hF : Fr No w (w.alloc (Obj.cells #[.pointer (some ⟨db, 0, none⟩), .pointer (some ⟨mb, 0, none⟩)] 108)) := (Fr.refl No w).alloc _
  have h1 := h.fr0 hF
  have hl : ∀ k, (k = pb ∨ k = lm ∨ k = gb ∨ k = yb) → k < w.heap.size := by
    rintro k (rfl | rfl | rfl | rfl)
    · exact heap_lt7 hp.box
    · exact hp.map.lt
    · exact hp.n5
    · exact hp.n6
  have hg : ∀ k, (k = pb ∨ k = lm ∨ k = gb ∨ k = yb) → n ≤ k := by
    rintro k (rfl | rfl | rfl | rfl)
    · exact hp.n1
    · exact hp.n2
    · exact hp.n3
    · exact hp.n4
  refine ⟨⟨h1.dk, h1.sp, h1.tab, heap_new _ _, h1.a1, h1.a2, h1.a3, fun hA => ?_, h1.a5, h1.b1, h1.b2⟩, hp.fr hF (fun _ _ h => h), fun k hk => ?_⟩
  · have := h.dk.low _ hA; omega
  · have a := hl k hk
    have b := hg k hk
    exact ⟨fun hA => by have := hn k hA; omega, by omega, by omega, by omega, by omega, by omega⟩

attribute [local irreducible] nd0 lfA lfB tnA tnB lcs0 lcs1 lcs2 lcs3
set_option maxHeartbeats 4000000 in
set_option maxRecDepth 1000000 in
theorem build1_calls {w : World} {db mb cb fb p0 p1 p2 p3 p4 : Nat} {A : Nat → Prop} {acts : Nat} (h : BdIn w db mb cb fb A acts) (ha : acts < 8) {ab bb : Nat} (h0 : w.cell? ⟨ab, 0, none⟩ = some (.int .i64 3)) (h1 : w.cell? ⟨ab, 1, none⟩ = some (.slice (some ⟨bb, 0, none⟩) 64 64)) (hr : w.rangeAt bb 0 (bys data1))
    (q0 : w.cell? ⟨p0, 0, none⟩ = some (.pointer (some ⟨db, 0, none⟩))) (q1 : w.cell? ⟨p1, 0, none⟩ = some (.int .i64 0)) (q2 : w.cell? ⟨p2, 0, none⟩ = some (.slice (some ⟨ab, 0, none⟩) 1 1)) (q3 : w.cell? ⟨p3, 0, none⟩ = some (.pointer (some ⟨mb, 0, none⟩))) {v0 : Value} (q4 : w.heap[p4]? = some (.cells [v0].toArray 3 (0, 0)))
    (o1 : ¬ A p4) (o2 : p4 ≠ cb) (o3 : p4 ≠ fb) :
    Calls Tryd.prog 46 #[.pointer (some ⟨p0, 0, none⟩), .pointer (some ⟨p1, 0, none⟩), .pointer (some ⟨p2, 0, none⟩), .pointer (some ⟨p3, 0, none⟩), .pointer (some ⟨p4, 0, none⟩)] w fun e w' => e = .returned (.tuple #[]) ∧ Fr (fun k => A k ∨ k = cb ∨ k = fb ∨ k = p4) w w' ∧ w'.cell? ⟨p4, 0, none⟩ = some (.int .i64 4) := by
  have HP := Lib.hid (planned_calls h.dk h0 h1 hr)
  have HQ := Lib.hid q4
  have H := Lib.hid h
  have HO := Lib.hid (And.intro o1 (And.intro o2 o3))
  have hl4 := heap_lt7 q4
  clear h h0 h1 hr q4 o1 o2 o3
  go_enter Tryd.func46, Tryd.ntmps46
  go_wp2_with fail
  refine HP.out.mono ?_
  rintro e w1 ⟨pb, lm, gb, gc, yb, yc, rfl, hpl, hF1⟩
  have HF1 := Lib.hid hF1
  have HPL := Lib.hid hpl
  have k3 : w1.drew.cell? ⟨p3, 0, none⟩ = some (.pointer (some ⟨mb, 0, none⟩)) := hF1.cell q3 (fun h => h)
  have k0 : w1.cell? ⟨p0, 0, none⟩ = some (.pointer (some ⟨db, 0, none⟩)) := hF1.cell q0 (fun h => h)
  have HC := Lib.hid (cost_calls (hpl.fr (Fr.refl No w1).drew (fun _ _ h => h)))
  have H1 := Lib.hid ((H.out.fr0 hF1).fr0 (Fr.refl No w1).drew)
  clear hF1 hpl q0 q1 q2 q3
  go_upto_region 1 with fail
  refine wp_region_held_drew (S := (fun w' => w'.cell? ⟨p3, 0, none⟩ = some (.pointer (some ⟨mb, 0, none⟩)))) (by kernel_rfl) k3 (fun hS0 => ?_)
  refine take_at7 (i := 0) (d := some 10) (v := ?_) rfl rfl (by kernel_rfl) (by kernel_rfl) (by kernel_rfl) (fun _ _ _ h => h) (Or.inl ⟨by rfl, ?_⟩) (by assumption) ?_
  rotate_left
  · intro w hSw; go_simp; try (with_reducible rfl)
  try simp only [Act.put, List.setIfInBounds_toArray, List.set_cons_zero, List.set_cons_succ]
  refine take_at7 (i := 2) (d := some 12) (v := ?_) rfl rfl (by kernel_rfl) (by kernel_rfl) (by kernel_rfl) (fun _ _ _ h => h) (Or.inl ⟨by rfl, ?_⟩) (by assumption) ?_
  rotate_left
  · intro w hSw; go_simp; try (with_reducible rfl)
  try simp only [Act.put, List.setIfInBounds_toArray, List.set_cons_zero, List.set_cons_succ]
  refine one_H7 (i := 1) (d := some 11) rfl rfl rfl (by kernel_rfl) (fun K hK => ?_)
  go_simp
  (go_at_call 37; ((with_reducible refine (HC.out).mono ?_); rintro e w2 ⟨rfl, hF2⟩))
  refine hK.out _ _ (hF2.cell k3 (fun h => h)) (fun hHeld => ?_)
  clear hK K
  try simp only [Act.put, List.setIfInBounds_toArray, List.set_cons_zero, List.set_cons_succ]
  have H2 := Lib.hid (H1.out.fr0 hF2)
  have HFR := Lib.hid (spfree_calls H2.out.sp)
  refine one_H7 (i := 3) (d := some 13) rfl rfl rfl (by kernel_rfl) (fun K hK => ?_)
  go_simp
  (go_at_call 24; ((with_reducible refine (HFR.out).mono ?_); rintro e w3 ⟨rfl, rfl⟩))
  refine hK.out _ _ (hF2.cell k3 (fun h => h)) (fun hHeld => ?_)
  clear hK K
  try simp only [Act.put, List.setIfInBounds_toArray, List.set_cons_zero, List.set_cons_succ]
  refine take_at7 (i := 4) (d := some 14) (v := ?_) rfl rfl (by kernel_rfl) (by kernel_rfl) (by kernel_rfl) (fun _ _ _ h => h) (Or.inl ⟨by rfl, ?_⟩) (by assumption) ?_
  rotate_left
  · intro w hSw; go_simp; try (with_reducible rfl)
  try simp only [Act.put, List.setIfInBounds_toArray, List.set_cons_zero, List.set_cons_succ]
  refine wpAnyH_done (by kernel_rfl) ?_ _
  have hF12 : Fr No w1 w3 := (Fr.refl No w1).drew.trans hF2
  have k0 := hF12.cell k0 (fun h => h)
  have k3 : w3.cell? ⟨p3, 0, none⟩ = some (.pointer (some ⟨mb, 0, none⟩)) := hF2.cell k3 (fun h => h)
  have hF03 := HF1.out.trans hF12
  have HL := Lib.hid (slay_calls (H2.out.ly (n := w.heap.size) (HPL.out.fr hF12 (fun _ _ h => h)) H.out.dk.low (heap_lt7 H.out.sp.box) (heap_lt7 H.out.sp.cnt) (heap_lt7 H.out.sp.fre) H.out.tab.pos) ha)
  have HF3 := Lib.hid (hF03.alloc (Obj.cells #[.pointer (some ⟨db, 0, none⟩), .pointer (some ⟨mb, 0, none⟩)] 108))
  have HN := Lib.hid (And.intro HPL.out.n1 HPL.out.n2)
  clear hF12 hF03 hS0 hHeld hF2 HC HFR HP
  go_wp2_with fail
  refine HL.out.mono ?_
  rintro e w4 ⟨rfl, hF4⟩
  have hFa := HF3.out.no.trans' hF4 (S := fun k => A k ∨ k = cb ∨ k = fb) (fun i hi hs => by
    obtain ⟨n1, n2⟩ := HN.out
    rcases hs with (hs | hs | hs) | hs | hs
    · exact .inl hs
    · exact .inr (.inl hs)
    · exact .inr (.inr hs)
    · omega
    · omega)
  have hb4 := hFa.heap HQ.out (fun hs => hs.elim HO.out.1 (fun e => e.elim HO.out.2.1 HO.out.2.2))
  have HB4 := Lib.hid hb4
  have HF4 := Lib.hid hFa
  have k4 := heap_cell (o := 0) hb4 rfl
  have f4 := heap_frozen (o := 0) hb4
  clear hFa hb4 hF4 HF3 HN
  go_wp2_with fail
  go_end0
  exact ⟨rfl, (HF4.out.mono (fun k _ hk => hk.elim .inl (fun e => .inr (e.elim .inl (fun e => .inr (.inl e)))))).trans ((Fr.refl (fun k => A k ∨ k = cb ∨ k = fb ∨ k = p4) w4).setCell (p := ⟨p4, 0, none⟩) (fun _ => .inr (.inr (.inr rfl))) _), heap_cell (o := 0) (heap_setAt7 HB4.out 0 _) rfl⟩

set_option maxHeartbeats 4000000 in
set_option maxRecDepth 1000000 in
theorem sbuild_calls {w : World} {db mb cb fb : Nat} {A : Nat → Prop} {acts : Nat} (h : BdIn w db mb cb fb A acts) (ha : acts < 8) {ab bb : Nat} (h0 : w.cell? ⟨ab, 0, none⟩ = some (.int .i64 3)) (h1 : w.cell? ⟨ab, 1, none⟩ = some (.slice (some ⟨bb, 0, none⟩) 64 64)) (hr : w.rangeAt bb 0 (bys data1)) :
    Calls Tryd.prog 20 #[.pointer (some ⟨db, 0, none⟩), .pointer (some ⟨mb, 0, none⟩), .int .i64 0, .slice (some ⟨ab, 0, none⟩) 1 1] w fun e w' => e = .returned (.tuple #[.int .i64 4, .int .i64 0]) ∧ Fr (fun k => A k ∨ k = cb ∨ k = fb) w w' := by
  have hmf : ∀ (fn : Fn) (first cap : Array Value) (w : World), (Instr.makeFunc fn first cap).run Tryd.prog w = .ok (.func fn first cap) w := fun _ _ _ _ => rfl
  have H := Lib.hid (And.intro h (And.intro h0 (And.intro h1 hr)))
  clear h h0 h1 hr
  go_enter Tryd.func20, Tryd.ntmps20
  go_wp2_with fail
  generalize hW : (((((w.alloc (Obj.cells #[.pointer (some ⟨db, 0, none⟩)] 36)).alloc (Obj.cells #[.pointer (some ⟨mb, 0, none⟩)] 52)).alloc (Obj.cells #[.int .i64 0] 3)).alloc (Obj.cells #[.slice (some ⟨ab, 0, none⟩) 1 1] 22)).alloc (Obj.cells #[.int .i64 0] 3)) = W
  have hF : Fr No w W := by rw [← hW]; exact (((((Fr.refl No w).alloc _).alloc _).alloc _).alloc _).alloc _
  have hs : W.heap.size = w.heap.size + 5 := by rw [← hW]; simp
  have hb0 : W.heap[w.heap.size]? = some (.cells [.pointer (some ⟨db, 0, none⟩)].toArray 36 (0, 0)) := by rw [← hW]; exact heap_alloc _ (heap_alloc _ (heap_alloc _ (heap_alloc _ (heap_new _ _))))
  have hb1 : W.heap[w.heap.size + 1]? = some (.cells [.pointer (some ⟨mb, 0, none⟩)].toArray 52 (0, 0)) := by rw [← hW]; exact heap_alloc _ (heap_alloc _ (heap_alloc _ (heap_new2_7 w _ _)))
  have hb2 : W.heap[w.heap.size + 1 + 1]? = some (.cells [.int .i64 0].toArray 3 (0, 0)) := by
    rw [← hW]
    refine heap_alloc _ (heap_alloc _ ?_)
    have := heap_new ((w.alloc (Obj.cells #[.pointer (some ⟨db, 0, none⟩)] 36)).alloc (Obj.cells #[.pointer (some ⟨mb, 0, none⟩)] 52)) (Obj.cells #[.int .i64 0] 3)
    simpa using this
  have hb3 : W.heap[w.heap.size + 1 + 1 + 1]? = some (.cells [.slice (some ⟨ab, 0, none⟩) 1 1].toArray 22 (0, 0)) := by
    rw [← hW]
    refine heap_alloc _ ?_
    have := heap_new (((w.alloc (Obj.cells #[.pointer (some ⟨db, 0, none⟩)] 36)).alloc (Obj.cells #[.pointer (some ⟨mb, 0, none⟩)] 52)).alloc (Obj.cells #[.int .i64 0] 3)) (Obj.cells #[.slice (some ⟨ab, 0, none⟩) 1 1] 22)
    simpa using this
  have hb4 : W.heap[w.heap.size + 1 + 1 + 1 + 1]? = some (.cells [.int .i64 0].toArray 3 (0, 0)) := by
    rw [← hW]
    have := heap_new ((((w.alloc (Obj.cells #[.pointer (some ⟨db, 0, none⟩)] 36)).alloc (Obj.cells #[.pointer (some ⟨mb, 0, none⟩)] 52)).alloc (Obj.cells #[.int .i64 0] 3)).alloc (Obj.cells #[.slice (some ⟨ab, 0, none⟩) 1 1] 22)) (Obj.cells #[.int .i64 0] 3)
    simpa using this
  have hFA : Fr No W (W.alloc (Obj.cells #[.int .i64 0] 25)) := (Fr.refl No W).alloc _
  have hFwa := hF.trans hFA
  obtain ⟨h, h0, h1, hr⟩ := H.out
  have hlo := h.dk.low
  have hl1 := heap_lt7 h.sp.cnt
  have hl2 := heap_lt7 h.sp.fre
  have hno : ¬ (A W.heap.size ∨ W.heap.size = cb ∨ W.heap.size = fb ∨ W.heap.size = w.heap.size + 1 + 1 + 1 + 1) := by
    rintro (e | e | e | e)
    · have := hlo _ e; omega
    · omega
    · omega
    · omega
  have hB := build1_calls (h.fr0 hFwa) ha (hFwa.cell h0 (fun h => h)) (hFwa.cell h1 (fun h => h)) (fun j v hj => hFwa.cell (hr j v hj) (fun h => h)) (heap_cell (o := 0) (heap_alloc _ hb0) rfl) (heap_cell (o := 0) (heap_alloc _ hb2) rfl) (heap_cell (o := 0) (heap_alloc _ hb3) rfl) (heap_cell (o := 0) (heap_alloc _ hb1) rfl) (heap_alloc _ hb4) (fun e => by have := hlo _ e; omega) (by omega) (by omega)
  refine (sguardb_calls (S := fun k => A k ∨ k = cb ∨ k = fb ∨ k = w.heap.size + 1 + 1 + 1 + 1) (R := fun w1 => w1.cell? ⟨w.heap.size + 1 + 1 + 1 + 1, 0, none⟩ = some (.int .i64 4)) _ hno hB).mono ?_
  rintro e w2 ⟨rfl, w1, k3, hF1, rfl⟩
  have hF2 : Fr (fun k => k = W.heap.size) w1 (w1.setCell ⟨W.heap.size, 0, none⟩ (.int .i64 0)) := (Fr.refl (fun k => k = W.heap.size) w1).setCell (p := ⟨W.heap.size, 0, none⟩) (fun _ => rfl) _
  have k3 := hF2.cell k3 (fun (e : _ = W.heap.size) => by omega)
  have HF2 := Lib.hid ((hFwa.no.trans' hF1 (S := fun k => A k ∨ k = cb ∨ k = fb) (fun i hi e => by rcases e with e | e | e | e; exact .inl e; exact .inr (.inl e); exact .inr (.inr e); omega)).trans' hF2 (fun i hi (e : i = _) => by omega))
  generalize w1.setCell ⟨W.heap.size, 0, none⟩ (.int .i64 0) = W2 at *
  clear hW hF hs hb0 hb1 hb2 hb3 hb4 hFA hF1 hFwa hF2 h h0 h1 hr hlo hl1 hl2
  go_wp2_with fail
  go_ret2
  exact ⟨rfl, HF2.out⟩
end Go.Proofs.YtpcikbloflpahaaDoor
