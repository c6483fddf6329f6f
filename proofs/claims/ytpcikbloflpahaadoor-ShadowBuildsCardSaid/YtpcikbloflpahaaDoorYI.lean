/-
  Chapter 7: a disk of any size: act, put.
-/
import Derived.Test.YtpcikbloflpahaaDoorYC
import Derived.Test.YtpcikbloflpahaaDoorYD
namespace Go.Proofs.YtpcikbloflpahaaDoor
set_option linter.unusedVariables false
set_option linter.unusedSimpArgs false
open Go.RowKit Go.Shelf Go.Maps

/-- Writes that wait, as cells. -/
def waitC (ps : List (Nat × List Int)) : List Value := ps.flatMap fun p => .int .i64 (p.1 : Int) :: bys p.2
theorem waitC_snoc (ps : List (Nat × List Int)) (p : Nat × List Int) : waitC (ps ++ [p]) = waitC ps ++ (.int .i64 (p.1 : Int) :: bys p.2) := by simp [waitC]
/-- A disk's blocks: what lasts (L), what waits (ps), the cache (f). -/
structure DkM (w : World) (db lb cb : Nat) (wv : Value) (acts n c : Nat) (f : Int → Option Value) (L : List Int) (ps : List (Nat × List Int)) (A : Nat → Prop) : Prop where
  box : w.heap[db]? = some (.cells (DkG lb n cb wv (acts : Int)).toArray 90 (0, 0))
  last : Row w lb 92 L
  map : MapAt Tryd.prog 3 w cb c f
  row : w.ownsRow 0 119 65 wv ps.length (waitC ps)
  pl : ps.length ≤ acts
  acts1 : acts ≤ 1000000
  many : n ≤ 2000
  a0 : A db
  a1 : A cb
  a2 : ∀ k, wv.ownBlock = some k → A k
  a3 : A lb
  low : ∀ k, A k → k < w.heap.size
theorem DkM.fr {S : Nat → Prop} {w w' : World} {db lb cb : Nat} {wv : Value} {acts n c : Nat} {f : Int → Option Value} {L : List Int} {ps : List (Nat × List Int)} {A : Nat → Prop} (h : DkM w db lb cb wv acts n c f L ps A) (hF : Fr S w w') (hn : ∀ k, A k → ¬ S k) : DkM w' db lb cb wv acts n c f L ps A :=
  ⟨hF.heap h.box (hn _ h.a0), h.last.fr hF (hn _ h.a3), h.map.fr hF (hn _ h.a1), ownsRow_fr7 h.row hF (fun k e => hn _ (h.a2 k e)), h.pl, h.acts1, h.many, h.a0, h.a1, h.a2, h.a3, fun k hk => Nat.lt_of_lt_of_le (h.low k hk) hF.size⟩
set_option maxHeartbeats 1000000 in
set_option maxRecDepth 1000000 in
theorem dactS_calls {w : World} {db lb cb : Nat} {wv : Value} {acts n c : Nat} {f : Int → Option Value} {L : List Int} {ps : List (Nat × List Int)} {A : Nat → Prop} (h : DkM w db lb cb wv acts n c f L ps A) (ha : acts < 1000000) :
    Calls Tryd.prog 89 #[.pointer (some ⟨db, 0, none⟩)] w fun e w' => e = .returned (.bool true) ∧ DkM w' db lb cb wv (acts + 1) n c f L ps A ∧ Fr (fun k => k = db) w w' := by
  have H := Lib.hid h
  have c3 : w.cell? ⟨db, 3, none⟩ = some (.int .i64 (-1)) := heap_cell (o := 3) h.box rfl
  have c4 : w.cell? ⟨db, 4, none⟩ = some (.int .i64 (acts : Int)) := heap_cell (o := 4) h.box rfl
  have f3 := heap_frozen (o := 3) h.box
  have f4 := heap_frozen (o := 4) h.box
  have hw : IntKind.i64.wrap ((acts : Int) + 1) = (acts : Int) + 1 := IntWalk.i64_in _ (by omega)
  clear h
  go_enter Tryd.func89, Tryd.ntmps89
  go_wp2
  go_ret
  have hb := heap_setAt7 (heap_setAt7 H.out.box 3 (.int .i64 (-1))) 4 (.int .i64 ((acts : Int) + 1))
  have hF : Fr (fun k => k = db) w ((w.setCell ⟨db, 3, none⟩ (.int .i64 (-1))).setCell ⟨db, 4, none⟩ (.int .i64 ((acts : Int) + 1))) := ((Fr.refl (fun k => k = db) w).setCell (p := ⟨db, 3, none⟩) (fun _ => rfl) _).setCell (p := ⟨db, 4, none⟩) (fun _ => rfl) _
  have h1 := H.out.map
  have h3 := H.out.row
  have hrl : lb ≠ db := fun e => by have a := H.out.last; unfold Row at a; rw [e, H.out.box] at a; injection a with a; injection a with _ a; exact absurd a (by decide)
  refine ⟨rfl, ⟨hb, H.out.last.fr hF hrl, h1.fr hF (fun e => ?_), ownsRow_fr7 h3 hF (fun k e e2 => ?_), by have := H.out.pl; omega, by omega, H.out.many, H.out.a0, H.out.a1, H.out.a2, H.out.a3, fun k hk => Nat.lt_of_lt_of_le (H.out.low k hk) hF.size⟩, hF⟩
  · obtain ⟨D, ⟨es, clock, hb2, -⟩, -⟩ := h1
    rw [e, H.out.box] at hb2; cases hb2
  · exact not_row7 H.out.box (fun cs f e3 => by injection e3 with _ e3; exact absurd e3 (by decide)) h3 k e e2
set_option maxHeartbeats 4000000 in
set_option maxRecDepth 1000000 in
theorem dputS_calls {w : World} {db lb cb : Nat} {wv : Value} {acts n c : Nat} {f : Int → Option Value} {L : List Int} {ps : List (Nat × List Int)} {A : Nat → Prop} (h : DkM w db lb cb wv acts n c f L ps A) (hn : ps.length < acts) (p : Nat × List Int) (cs : List Value) (hcs : cs = .int .i64 (p.1 : Int) :: bys p.2) (hc : cs.length = 65) (h1c : ∀ u ∈ cs, u.oneCell' = true) :
    Calls Tryd.prog 90 #[.pointer (some ⟨db, 2, none⟩), .agg cs.toArray] w fun e w' => e = .returned (.tuple #[]) ∧ ∃ (wv' : Value) (A' : Nat → Prop), DkM w' db lb cb wv' acts n c f L (ps ++ [p]) A' ∧ Fr A w w' ∧ Gr7 w A A' := by
  have H := Lib.hid h
  have hrow := h.row
  have HCS := Lib.hid hcs
  have HPL := Lib.hid hn
  have hm1 := h.acts1
  obtain ⟨m, hm⟩ : ∃ m, ps.length = m := ⟨_, rfl⟩
  obtain ⟨ws, hws⟩ : ∃ ws, waitC ps = ws := ⟨_, rfl⟩
  rw [hm, hws] at hrow
  have HNM := Lib.hid hm
  have HWS := Lib.hid hws
  have hmb : m < 1000000 := by omega
  clear hm hws hcs hn hm1
  have HRW := Lib.hid hrow
  obtain ⟨av, cv, rfl⟩ := (Sl.of_owns hrow).form
  have hF0 : Fr No w (w.alloc (Obj.cells cs.toArray 119)) := (Fr.refl _ _).alloc _
  have hb0 := heap_new w (Obj.cells cs.toArray 119)
  have HB := Lib.hid (hF0.heap h.box (fun h => h))
  have HF0 := Lib.hid hF0
  have HB0x := Lib.hid h.box
  have HB0 := Lib.hid hb0
  have HC := Lib.hid hc
  have H1 := Lib.hid h1c
  clear h hrow hF0 hb0 hc h1c
  go_enter Tryd.func90, Tryd.ntmps90
  go_upto_region 1 with fail
  generalize w.alloc (Obj.cells cs.toArray 119) = W at *
  generalize hb9 : w.heap.size = b9 at *
  have HB9 := Lib.hid hb9
  have hrg : W.drew.rangeAt b9 0 cs := fun j v hj => by rw [Nat.zero_add]; exact heap_cell (w := W) HB0.out (by simpa using hj)
  have HRG := Lib.hid hrg
  have k2 : W.drew.cell? ⟨db, 2, none⟩ = some (.slice av m cv) := heap_cell (w := W) HB.out rfl
  have HK2 := Lib.hid k2
  have HSZ := Lib.hid (show (Tryd.prog.info? 119).map (·.size) = some cs.length by rw [size_wait, HC.out])
  have q2 : (W.drew.alloc (Obj.cells cs.toArray 119)).cell? ⟨db, 2, none⟩ = some (.slice av m cv) := heap_cell (w := W.alloc (Obj.cells cs.toArray 119)) (heap_alloc _ HB.out) rfl
  have HQ2 := Lib.hid q2
  have hFW : Fr No w (W.drew.alloc (Obj.cells cs.toArray 119)) := HF0.out.drew.alloc _
  have HRWW := Lib.hid (ownsRow_fr7 HRW.out hFW (fun _ _ h => h))
  have HSLN := Lib.hid (sl_new7 W.drew cs 119 1 (by intro e; have := HC.out; rw [e] at this; cases this) (by omega))
  have HBW := Lib.hid (show (W.drew.alloc (Obj.cells cs.toArray 119)).heap[db]? = some (.cells (DkG lb n cb (.slice av m cv) (acts : Int)).toArray 90 (0, 0)) from heap_alloc (w := W) _ HB.out)
  have HFW := Lib.hid hFW
  have hsl1 : cs.length = 1 * 65 := by rw [HC.out]
  clear hrg k2 q2 hFW
  refine wp_region_any (by kernel_rfl) ?_
  change wpAny _ _ _ _ _ _ _ (World.drew _)
  refine take_any7 (i := 0) (d := some 4) (v := ?_) rfl rfl (by kernel_rfl) (by kernel_rfl) (by kernel_rfl) (fun _ _ _ h => h) (Or.inl ⟨by rfl, ?_⟩) ?_
  rotate_left
  · intro w; go_simp; try (with_reducible rfl)
  try simp only [Act.put, List.setIfInBounds_toArray, List.set_cons_zero, List.set_cons_succ]
  refine take_any7 (i := 1) (d := some 5) (v := ?_) rfl rfl (by kernel_rfl) (by kernel_rfl) (by kernel_rfl) (fun _ _ _ h => h) (Or.inl ⟨by rfl, ?_⟩) ?_
  rotate_left
  · intro w; go_simp; try (with_reducible rfl)
  try simp only [Act.put, List.setIfInBounds_toArray, List.set_cons_zero, List.set_cons_succ]
  refine take_any7 (i := 2) (d := some 6) (v := ?_) rfl rfl (by kernel_rfl) (by kernel_rfl) (by kernel_rfl) (fun _ _ _ h => h) (Or.inl ⟨by rfl, ?_⟩) ?_
  rotate_left
  · intro w; go_simp; try (with_reducible rfl)
  try simp only [Act.put, List.setIfInBounds_toArray, List.set_cons_zero, List.set_cons_succ]
  refine take_any7 (i := 3) (d := some 7) (v := ?_) rfl rfl (by kernel_rfl) (by kernel_rfl) (by kernel_rfl) (fun _ _ _ h => h) (Or.inl ⟨by rfl, ?_⟩) ?_
  rotate_left
  · intro w; go_simp; try (with_reducible rfl)
  try simp only [Act.put, List.setIfInBounds_toArray, List.set_cons_zero, List.set_cons_succ]
  refine wpAny_all (rs := [4, 5]) (by kernel_rfl) (by simp) ?_
  intro i hi
  simp only [List.mem_cons, List.not_mem_nil, or_false] at hi
  rcases hi with rfl | rfl
  · refine load_any7 (d := some 8) (v := .slice av m cv) (S := fun w' => w'.cell? ⟨db, 2, none⟩ = some (.slice av m cv)) rfl rfl (Or.inl ⟨by rfl, by intro w hSw; go_simp; try (with_reducible rfl)⟩) HK2.out ?_
    try simp only [Act.put, List.setIfInBounds_toArray, List.set_cons_zero, List.set_cons_succ]
    refine wpAny_all (rs := [5]) (by kernel_rfl) (by simp) ?_
    intro i hi
    simp only [List.mem_cons, List.not_mem_nil, or_false] at hi
    subst hi
    refine load_any7 (d := some 9) (v := .agg cs.toArray) (S := fun w' => w' = W.drew) rfl rfl (yieldsIf_load_mid (by rfl) _ _ rfl b9 0 rfl cs _ (fun _ h => by rw [h]; exact HRG.out) Tryd.underlying119 rfl HSZ.out) rfl ?_
    try simp only [Act.put, List.setIfInBounds_toArray, List.set_cons_zero, List.set_cons_succ]
    refine one_any7 (i := 6) (d := some 10) rfl rfl rfl (by kernel_rfl) (fun K hK => ?_)
    refine wp_slice_wait _ rfl cs rfl HC.out ?_
    refine hK _ _ ?_
    clear hK K
    try simp only [Act.put, List.setIfInBounds_toArray, List.set_cons_zero, List.set_cons_succ]
    generalize W.drew.alloc (Obj.cells cs.toArray 119) = W1 at *
    refine one_any7 (i := 7) (d := some 11) rfl rfl rfl (by kernel_rfl) (fun K hK => ?_)
    refine wp_append_sl7 el_wait rfl _ _ rfl 0 (.slice av m cv) m ws rfl HRWW.out rfl HSLN.out hsl1 H1.out (by unfold maxLen; omega) (by omega) (Nat.zero_le _) ?_
    intro a4 n4 c4 w4 hown4 hgrow4 hlie4
    refine hK _ _ ?_
    clear hK K
    try simp only [Act.put, List.setIfInBounds_toArray, List.set_cons_zero, List.set_cons_succ]
    have hgr := fr_grown7 hgrow4
    have hb4 := hgr.heap HBW.out (fun e => not_row7 HBW.out (fun cs f e3 => by injection e3 with _ e3; exact absurd e3 (by decide)) HRWW.out _ e rfl)
    have HB4 := Lib.hid hb4
    have HO4 := Lib.hid hown4
    have HG4 := Lib.hid hgr
    have HL4 := Lib.hid hlie4
    have k4 := heap_cell (o := 2) hb4 rfl
    have f4 := heap_frozen (o := 2) hb4
    clear hb4 hown4 hgrow4 hlie4 hgr
    refine take_any7 (i := 8) (d := some 12) (v := ?_) rfl rfl (by kernel_rfl) (by kernel_rfl) (by kernel_rfl) (fun _ _ _ h => h) (Or.inl ⟨by rfl, ?_⟩) ?_
    rotate_left
    · intro w; go_simp; try (with_reducible rfl)
    try simp only [Act.put, List.setIfInBounds_toArray, List.set_cons_zero, List.set_cons_succ]
    refine take_any7 (i := 9) (d := some 13) (v := ?_) rfl rfl (by kernel_rfl) (by kernel_rfl) (by kernel_rfl) (fun _ _ _ h => h) (Or.inl ⟨by rfl, ?_⟩) ?_
    rotate_left
    · intro w; go_simp; try (with_reducible rfl)
    try simp only [Act.put, List.setIfInBounds_toArray, List.set_cons_zero, List.set_cons_succ]
    refine wpAny_ready (rs := [10]) (by kernel_rfl) (by simp) (AllReady.cons rfl (fun K hK => ?_) AllReady.nil)
    go_simp
    refine hK _ _ ?_
    clear hK K
    refine wpAny_done (by kernel_rfl) ?_ _
    go_end0
    have hb5 := heap_setAt7 HB4.out 2 (.slice a4 n4 c4)
    have hF5 : Fr (fun k => k = db) w4 (w4.setCell ⟨db, 2, none⟩ (.slice a4 n4 c4)) := (Fr.refl (fun k => k = db) w4).setCell (p := ⟨db, 2, none⟩) (fun _ => rfl) _
    have hFall : Fr (fun k => k = db ∨ (Value.slice av m cv).ownBlock = some k) w (w4.setCell ⟨db, 2, none⟩ (.slice a4 n4 c4)) := ((HFW.out.no).trans (HG4.out.mono (fun _ _ h => .inr h))).trans' hF5 (fun _ _ h => .inl h)
    have hO5 := ownsRow_fr7 HO4.out hF5 (fun q hq e => not_row7 HB4.out (fun cs f e3 => by injection e3 with _ e3; exact absurd e3 (by decide)) HO4.out q hq e)
    have hmap := H.out.map
    have hmd : cb ≠ db := by
      intro e
      obtain ⟨D, ⟨es, clock, hb2, -⟩, -⟩ := hmap
      rw [e, HB0x.out] at hb2; cases hb2
    have hrl : lb ≠ db := fun e => by have a := H.out.last; unfold Row at a; rw [e, HB0x.out] at a; injection a with a; injection a with _ a; exact absurd a (by decide)
    have hln : (Value.slice av m cv).ownBlock ≠ some lb := fun e => not_row7 H.out.last (fun cs f e3 => by injection e3 with _ e3; exact absurd e3 (by decide)) HRW.out _ e rfl
    have hps : w4.ownsRow 0 119 65 (.slice a4 n4 c4) (m + 1) (ws ++ cs) := HO4.out
    refine ⟨rfl, .slice a4 n4 c4, fun k => A k ∨ (Value.slice a4 n4 c4).ownBlock = some k, ⟨hb5, H.out.last.fr hFall (fun e => e.elim hrl hln), hmap.fr hFall (fun e => e.elim hmd (fun e => map_apart7 hmap HRW.out e)), ?_, by rw [List.length_append]; have := HPL.out; have := HNM.out; simp; omega, H.out.acts1, H.out.many, .inl H.out.a0, .inl H.out.a1, fun k e => .inr e, .inl H.out.a3, fun k hk => ?_⟩, hFall.mono (fun k _ h => h.elim (fun e => e ▸ H.out.a0) (fun e => H.out.a2 k e)), fun k hk => ?_⟩
    · rw [List.length_append, HNM.out, waitC_snoc, HWS.out, ← HCS.out]
      exact hO5
    · rcases hk with hk | hk
      · exact Nat.lt_of_lt_of_le (H.out.low k hk) hFall.size
      · exact (hO5.lt k hk).2
    · rcases hk with hk | hk
      · exact .inl hk
      · rcases HL4.out with e | e
        · exact .inl (H.out.a2 k (by rw [← e]; exact hk))
        · rw [e] at hk
          injection hk with hk
          exact .inr (by rw [← hk]; exact HFW.out.size)
  · refine load_any7 (d := some 9) (v := .agg cs.toArray) (S := fun w' => w' = W.drew) rfl rfl (yieldsIf_load_mid (by rfl) _ _ rfl b9 0 rfl cs _ (fun _ h => by rw [h]; exact HRG.out) Tryd.underlying119 rfl HSZ.out) rfl ?_
    try simp only [Act.put, List.setIfInBounds_toArray, List.set_cons_zero, List.set_cons_succ]
    refine wpAny_all (rs := [4, 6]) (by kernel_rfl) (by simp) ?_
    intro i hi
    simp only [List.mem_cons, List.not_mem_nil, or_false] at hi
    rcases hi with rfl | rfl
    · refine load_any7 (d := some 8) (v := .slice av m cv) (S := fun w' => w'.cell? ⟨db, 2, none⟩ = some (.slice av m cv)) rfl rfl (Or.inl ⟨by rfl, by intro w hSw; go_simp; try (with_reducible rfl)⟩) HK2.out ?_
      try simp only [Act.put, List.setIfInBounds_toArray, List.set_cons_zero, List.set_cons_succ]
      refine one_any7 (i := 6) (d := some 10) rfl rfl rfl (by kernel_rfl) (fun K hK => ?_)
      refine wp_slice_wait _ rfl cs rfl HC.out ?_
      refine hK _ _ ?_
      clear hK K
      try simp only [Act.put, List.setIfInBounds_toArray, List.set_cons_zero, List.set_cons_succ]
      generalize W.drew.alloc (Obj.cells cs.toArray 119) = W1 at *
      refine one_any7 (i := 7) (d := some 11) rfl rfl rfl (by kernel_rfl) (fun K hK => ?_)
      refine wp_append_sl7 el_wait rfl _ _ rfl 0 (.slice av m cv) m ws rfl HRWW.out rfl HSLN.out hsl1 H1.out (by unfold maxLen; omega) (by omega) (Nat.zero_le _) ?_
      intro a4 n4 c4 w4 hown4 hgrow4 hlie4
      refine hK _ _ ?_
      clear hK K
      try simp only [Act.put, List.setIfInBounds_toArray, List.set_cons_zero, List.set_cons_succ]
      have hgr := fr_grown7 hgrow4
      have hb4 := hgr.heap HBW.out (fun e => not_row7 HBW.out (fun cs f e3 => by injection e3 with _ e3; exact absurd e3 (by decide)) HRWW.out _ e rfl)
      have HB4 := Lib.hid hb4
      have HO4 := Lib.hid hown4
      have HG4 := Lib.hid hgr
      have HL4 := Lib.hid hlie4
      have k4 := heap_cell (o := 2) hb4 rfl
      have f4 := heap_frozen (o := 2) hb4
      clear hb4 hown4 hgrow4 hlie4 hgr
      refine take_any7 (i := 8) (d := some 12) (v := ?_) rfl rfl (by kernel_rfl) (by kernel_rfl) (by kernel_rfl) (fun _ _ _ h => h) (Or.inl ⟨by rfl, ?_⟩) ?_
      rotate_left
      · intro w; go_simp; try (with_reducible rfl)
      try simp only [Act.put, List.setIfInBounds_toArray, List.set_cons_zero, List.set_cons_succ]
      refine take_any7 (i := 9) (d := some 13) (v := ?_) rfl rfl (by kernel_rfl) (by kernel_rfl) (by kernel_rfl) (fun _ _ _ h => h) (Or.inl ⟨by rfl, ?_⟩) ?_
      rotate_left
      · intro w; go_simp; try (with_reducible rfl)
      try simp only [Act.put, List.setIfInBounds_toArray, List.set_cons_zero, List.set_cons_succ]
      refine wpAny_ready (rs := [10]) (by kernel_rfl) (by simp) (AllReady.cons rfl (fun K hK => ?_) AllReady.nil)
      go_simp
      refine hK _ _ ?_
      clear hK K
      refine wpAny_done (by kernel_rfl) ?_ _
      go_end0
      have hb5 := heap_setAt7 HB4.out 2 (.slice a4 n4 c4)
      have hF5 : Fr (fun k => k = db) w4 (w4.setCell ⟨db, 2, none⟩ (.slice a4 n4 c4)) := (Fr.refl (fun k => k = db) w4).setCell (p := ⟨db, 2, none⟩) (fun _ => rfl) _
      have hFall : Fr (fun k => k = db ∨ (Value.slice av m cv).ownBlock = some k) w (w4.setCell ⟨db, 2, none⟩ (.slice a4 n4 c4)) := ((HFW.out.no).trans (HG4.out.mono (fun _ _ h => .inr h))).trans' hF5 (fun _ _ h => .inl h)
      have hO5 := ownsRow_fr7 HO4.out hF5 (fun q hq e => not_row7 HB4.out (fun cs f e3 => by injection e3 with _ e3; exact absurd e3 (by decide)) HO4.out q hq e)
      have hmap := H.out.map
      have hmd : cb ≠ db := by
        intro e
        obtain ⟨D, ⟨es, clock, hb2, -⟩, -⟩ := hmap
        rw [e, HB0x.out] at hb2; cases hb2
      have hrl : lb ≠ db := fun e => by have a := H.out.last; unfold Row at a; rw [e, HB0x.out] at a; injection a with a; injection a with _ a; exact absurd a (by decide)
      have hln : (Value.slice av m cv).ownBlock ≠ some lb := fun e => not_row7 H.out.last (fun cs f e3 => by injection e3 with _ e3; exact absurd e3 (by decide)) HRW.out _ e rfl
      have hps : w4.ownsRow 0 119 65 (.slice a4 n4 c4) (m + 1) (ws ++ cs) := HO4.out
      refine ⟨rfl, .slice a4 n4 c4, fun k => A k ∨ (Value.slice a4 n4 c4).ownBlock = some k, ⟨hb5, H.out.last.fr hFall (fun e => e.elim hrl hln), hmap.fr hFall (fun e => e.elim hmd (fun e => map_apart7 hmap HRW.out e)), ?_, by rw [List.length_append]; have := HPL.out; have := HNM.out; simp; omega, H.out.acts1, H.out.many, .inl H.out.a0, .inl H.out.a1, fun k e => .inr e, .inl H.out.a3, fun k hk => ?_⟩, hFall.mono (fun k _ h => h.elim (fun e => e ▸ H.out.a0) (fun e => H.out.a2 k e)), fun k hk => ?_⟩
      · rw [List.length_append, HNM.out, waitC_snoc, HWS.out, ← HCS.out]
        exact hO5
      · rcases hk with hk | hk
        · exact Nat.lt_of_lt_of_le (H.out.low k hk) hFall.size
        · exact (hO5.lt k hk).2
      · rcases hk with hk | hk
        · exact .inl hk
        · rcases HL4.out with e | e
          · exact .inl (H.out.a2 k (by rw [← e]; exact hk))
          · rw [e] at hk
            injection hk with hk
            exact .inr (by rw [← hk]; exact HFW.out.size)
    · refine wpOp_step rfl (fun K hK => ?_)
      refine step_wp7 rfl (wp_slice_wait _ rfl cs rfl HC.out ?_)
      refine hK _ _ ?_
      clear hK K
      try simp only [Act.put, List.setIfInBounds_toArray, List.set_cons_zero, List.set_cons_succ]
      refine wpAny_all (rs := [4]) (by kernel_rfl) (by simp) ?_
      intro i hi
      simp only [List.mem_cons, List.not_mem_nil, or_false] at hi
      subst hi
      refine load_any7 (d := some 8) (v := .slice av m cv) (S := fun w' => w'.cell? ⟨db, 2, none⟩ = some (.slice av m cv)) rfl rfl (Or.inl ⟨by rfl, by intro w hSw; go_simp; try (with_reducible rfl)⟩) HQ2.out ?_ 
      try simp only [Act.put, List.setIfInBounds_toArray, List.set_cons_zero, List.set_cons_succ]
      generalize W.drew.alloc (Obj.cells cs.toArray 119) = W1 at *
      refine one_any7 (i := 7) (d := some 11) rfl rfl rfl (by kernel_rfl) (fun K hK => ?_)
      refine wp_append_sl7 el_wait rfl _ _ rfl 0 (.slice av m cv) m ws rfl HRWW.out rfl HSLN.out hsl1 H1.out (by unfold maxLen; omega) (by omega) (Nat.zero_le _) ?_
      intro a4 n4 c4 w4 hown4 hgrow4 hlie4
      refine hK _ _ ?_
      clear hK K
      try simp only [Act.put, List.setIfInBounds_toArray, List.set_cons_zero, List.set_cons_succ]
      have hgr := fr_grown7 hgrow4
      have hb4 := hgr.heap HBW.out (fun e => not_row7 HBW.out (fun cs f e3 => by injection e3 with _ e3; exact absurd e3 (by decide)) HRWW.out _ e rfl)
      have HB4 := Lib.hid hb4
      have HO4 := Lib.hid hown4
      have HG4 := Lib.hid hgr
      have HL4 := Lib.hid hlie4
      have k4 := heap_cell (o := 2) hb4 rfl
      have f4 := heap_frozen (o := 2) hb4
      clear hb4 hown4 hgrow4 hlie4 hgr
      refine take_any7 (i := 8) (d := some 12) (v := ?_) rfl rfl (by kernel_rfl) (by kernel_rfl) (by kernel_rfl) (fun _ _ _ h => h) (Or.inl ⟨by rfl, ?_⟩) ?_
      rotate_left
      · intro w; go_simp; try (with_reducible rfl)
      try simp only [Act.put, List.setIfInBounds_toArray, List.set_cons_zero, List.set_cons_succ]
      refine take_any7 (i := 9) (d := some 13) (v := ?_) rfl rfl (by kernel_rfl) (by kernel_rfl) (by kernel_rfl) (fun _ _ _ h => h) (Or.inl ⟨by rfl, ?_⟩) ?_
      rotate_left
      · intro w; go_simp; try (with_reducible rfl)
      try simp only [Act.put, List.setIfInBounds_toArray, List.set_cons_zero, List.set_cons_succ]
      refine wpAny_ready (rs := [10]) (by kernel_rfl) (by simp) (AllReady.cons rfl (fun K hK => ?_) AllReady.nil)
      go_simp
      refine hK _ _ ?_
      clear hK K
      refine wpAny_done (by kernel_rfl) ?_ _
      go_end0
      have hb5 := heap_setAt7 HB4.out 2 (.slice a4 n4 c4)
      have hF5 : Fr (fun k => k = db) w4 (w4.setCell ⟨db, 2, none⟩ (.slice a4 n4 c4)) := (Fr.refl (fun k => k = db) w4).setCell (p := ⟨db, 2, none⟩) (fun _ => rfl) _
      have hFall : Fr (fun k => k = db ∨ (Value.slice av m cv).ownBlock = some k) w (w4.setCell ⟨db, 2, none⟩ (.slice a4 n4 c4)) := ((HFW.out.no).trans (HG4.out.mono (fun _ _ h => .inr h))).trans' hF5 (fun _ _ h => .inl h)
      have hO5 := ownsRow_fr7 HO4.out hF5 (fun q hq e => not_row7 HB4.out (fun cs f e3 => by injection e3 with _ e3; exact absurd e3 (by decide)) HO4.out q hq e)
      have hmap := H.out.map
      have hmd : cb ≠ db := by
        intro e
        obtain ⟨D, ⟨es, clock, hb2, -⟩, -⟩ := hmap
        rw [e, HB0x.out] at hb2; cases hb2
      have hrl : lb ≠ db := fun e => by have a := H.out.last; unfold Row at a; rw [e, HB0x.out] at a; injection a with a; injection a with _ a; exact absurd a (by decide)
      have hln : (Value.slice av m cv).ownBlock ≠ some lb := fun e => not_row7 H.out.last (fun cs f e3 => by injection e3 with _ e3; exact absurd e3 (by decide)) HRW.out _ e rfl
      have hps : w4.ownsRow 0 119 65 (.slice a4 n4 c4) (m + 1) (ws ++ cs) := HO4.out
      refine ⟨rfl, .slice a4 n4 c4, fun k => A k ∨ (Value.slice a4 n4 c4).ownBlock = some k, ⟨hb5, H.out.last.fr hFall (fun e => e.elim hrl hln), hmap.fr hFall (fun e => e.elim hmd (fun e => map_apart7 hmap HRW.out e)), ?_, by rw [List.length_append]; have := HPL.out; have := HNM.out; simp; omega, H.out.acts1, H.out.many, .inl H.out.a0, .inl H.out.a1, fun k e => .inr e, .inl H.out.a3, fun k hk => ?_⟩, hFall.mono (fun k _ h => h.elim (fun e => e ▸ H.out.a0) (fun e => H.out.a2 k e)), fun k hk => ?_⟩
      · rw [List.length_append, HNM.out, waitC_snoc, HWS.out, ← HCS.out]
        exact hO5
      · rcases hk with hk | hk
        · exact Nat.lt_of_lt_of_le (H.out.low k hk) hFall.size
        · exact (hO5.lt k hk).2
      · rcases hk with hk | hk
        · exact .inl hk
        · rcases HL4.out with e | e
          · exact .inl (H.out.a2 k (by rw [← e]; exact hk))
          · rw [e] at hk
            injection hk with hk
            exact .inr (by rw [← hk]; exact HFW.out.size)
end Go.Proofs.YtpcikbloflpahaaDoor
namespace Go.Proofs.YtpcikbloflpahaaDoor
set_option linter.unusedVariables false
set_option linter.unusedSimpArgs false
open Go.RowKit Go.Shelf Go.Maps

/-- What was written last of a sector. -/
def lastW (ps : List (Nat × List Int)) (k : Int) : Option (List Int) := ps.foldl (fun o p => if (p.1 : Int) = k then some p.2 else o) none
theorem lastW_snoc (ps : List (Nat × List Int)) (p : Nat × List Int) (k : Int) : lastW (ps ++ [p]) k = if (p.1 : Int) = k then some p.2 else lastW ps k := by simp [lastW]
def cacheP (ps : List (Nat × List Int)) : Int → Option Value := fun k => (lastW ps k).map fun d => .agg (bys d).toArray
theorem cacheP_snoc (ps : List (Nat × List Int)) (n : Nat) (l : List Int) : cacheP (ps ++ [(n, l)]) = upd (cacheP ps) (n : Int) (some (.agg (bys l).toArray)) := by
  funext k
  unfold cacheP upd
  rw [lastW_snoc]
  dsimp only
  by_cases e : (n : Int) = k
  · subst e; rw [if_pos rfl, if_pos rfl]; rfl
  · rw [if_neg e, if_neg (fun h => e h.symm)]
/-- The bytes that are read. -/
def applyW (L : List Int) (ps : List (Nat × List Int)) : List Int := ps.foldl (fun B p => spl B (64 * p.1) p.2) L
theorem applyW_snoc (L : List Int) (ps : List (Nat × List Int)) (p : Nat × List Int) : applyW L (ps ++ [p]) = spl (applyW L ps) (64 * p.1) p.2 := by simp [applyW]
theorem spl_len {B : List Int} {o : Nat} {d : List Int} (h : o + d.length ≤ B.length) : (spl B o d).length = B.length := by unfold spl; simp; omega
theorem secB_spl {B d : List Int} {n i : Nat} (hd : d.length = 64) (h : 64 * (n + 1) ≤ B.length) : secB (spl B (64 * n) d) i = if i = n then d else secB B i := by
  unfold secB spl
  apply List.ext_getElem?
  intro k
  by_cases hk : k < 64
  · rw [List.getElem?_take_of_lt hk, List.getElem?_drop]
    by_cases e : i = n
    · subst e
      rw [if_pos rfl, List.getElem?_append_left (by simp; omega), List.getElem?_append_right (by simp; omega)]
      congr 1
      simp; omega
    · rw [if_neg e, List.getElem?_take_of_lt hk, List.getElem?_drop]
      by_cases h1 : i < n
      · rw [List.getElem?_append_left (by simp; omega), List.getElem?_append_left (by simp; omega), List.getElem?_take_of_lt (by omega)]
      · rw [List.getElem?_append_right (by simp; omega), List.getElem?_drop]
        congr 1
        simp; omega
  · rw [List.getElem?_eq_none (by simp; omega)]
    split
    · rw [List.getElem?_eq_none (by omega)]
    · rw [List.getElem?_eq_none (by simp; omega)]
def okW (N : Nat) (ps : List (Nat × List Int)) : Prop := ∀ p ∈ ps, p.1 < N ∧ p.2.length = 64 ∧ ∀ x ∈ p.2, 0 ≤ x ∧ x < 256
theorem applyW_all {N : Nat} {L : List Int} (hL : L.length = 64 * N) (hr : ∀ x ∈ L, 0 ≤ x ∧ x < 256) (ps : List (Nat × List Int)) (hok : okW N ps) :
    (applyW L ps).length = 64 * N ∧ (∀ x ∈ applyW L ps, 0 ≤ x ∧ x < 256) ∧ ∀ i, secB (applyW L ps) i = (lastW ps (i : Int)).getD (secB L i) := by
  suffices ∀ n ≤ ps.length, (applyW L (ps.take n)).length = 64 * N ∧ (∀ x ∈ applyW L (ps.take n), 0 ≤ x ∧ x < 256) ∧ ∀ i, secB (applyW L (ps.take n)) i = (lastW (ps.take n) (i : Int)).getD (secB L i) by
    have := this ps.length (Nat.le_refl _)
    rwa [List.take_length] at this
  intro n
  induction n with
  | zero => intro _; rw [List.take_zero]; exact ⟨hL, hr, fun i => rfl⟩
  | succ n ih =>
    intro hn
    obtain ⟨h1, h2, h3⟩ := ih (by omega)
    obtain ⟨q1, q2, q3⟩ := hok _ (List.getElem_mem (h := (by omega : n < ps.length)))
    rw [List.take_succ_eq_append_getElem (by omega), applyW_snoc]
    generalize ps[n] = p at *
    refine ⟨by rw [spl_len (by rw [q2, h1]; omega), h1], fun x hx => ?_, fun i => ?_⟩
    · unfold spl at hx
      rw [List.mem_append, List.mem_append] at hx
      rcases hx with (hx | hx) | hx
      · exact h2 x (List.mem_of_mem_take hx)
      · exact q3 x hx
      · exact h2 x (List.mem_of_mem_drop hx)
    · rw [secB_spl q2 (by rw [h1]; omega), lastW_snoc, h3 i]
      by_cases e : i = p.1
      · subst e; rw [if_pos rfl, if_pos rfl]; rfl
      · rw [if_neg e, if_neg (fun h => e (by omega))]
/-- A disk of N sectors: what lasts, what waits. -/
def DkS (w : World) (db N : Nat) (A : Nat → Prop) (acts : Nat) (L : List Int) (ps : List (Nat × List Int)) : Prop :=
  ∃ lb cb wv c, DkM w db lb cb wv acts N c (cacheP ps) L ps A ∧ c ≤ ps.length ∧ L.length = 64 * N ∧ (∀ x ∈ L, 0 ≤ x ∧ x < 256) ∧ okW N ps
theorem DkS.fr {S : Nat → Prop} {w w' : World} {db N acts : Nat} {A : Nat → Prop} {L : List Int} {ps : List (Nat × List Int)} (h : DkS w db N A acts L ps) (hF : Fr S w w') (hn : ∀ k, A k → ¬ S k) : DkS w' db N A acts L ps := by
  obtain ⟨lb, cb, wv, c, h1, h2⟩ := h
  exact ⟨lb, cb, wv, c, h1.fr hF hn, h2⟩
theorem DkS.fr0 {w w' : World} {db N acts : Nat} {A : Nat → Prop} {L : List Int} {ps : List (Nat × List Int)} (h : DkS w db N A acts L ps) (hF : Fr No w w') : DkS w' db N A acts L ps := h.fr hF (fun _ _ h => h)
theorem DkS.low {w : World} {db N acts : Nat} {A : Nat → Prop} {L : List Int} {ps : List (Nat × List Int)} (h : DkS w db N A acts L ps) : ∀ k, A k → k < w.heap.size := by obtain ⟨lb, cb, wv, c, h1, h2⟩ := h; exact h1.low
theorem DkS.ok {w : World} {db N acts : Nat} {A : Nat → Prop} {L : List Int} {ps : List (Nat × List Int)} (h : DkS w db N A acts L ps) : L.length = 64 * N ∧ (∀ x ∈ L, 0 ≤ x ∧ x < 256) ∧ okW N ps := by obtain ⟨lb, cb, wv, c, h1, h2⟩ := h; exact h2.2
theorem DkS.toR {w : World} {db N acts : Nat} {A : Nat → Prop} {L : List Int} {ps : List (Nat × List Int)} (h : DkS w db N A acts L ps) : DkR w db A acts N (applyW L ps) := by
  obtain ⟨lb, cb, wv, c, h, hcp, hLl, hLr, hok⟩ := h
  obtain ⟨a1, a2, a3⟩ := applyW_all hLl hLr ps hok
  refine ⟨lb, cb, wv, c, cacheP ps, L, h.box, h.last, h.map, ⟨ps.length, _, h.row, h.pl⟩, hLl, a1, a2, h.many, h.acts1, Nat.le_trans hcp h.pl, fun i hi => ?_, h.a0, h.a3, h.a1, h.a2, h.low⟩
  unfold cacheP
  rw [a3]
  cases lastW ps (i : Int) with
  | none => exact .inl ⟨rfl, rfl⟩
  | some d => exact .inr rfl
set_option maxHeartbeats 4000000 in
set_option maxRecDepth 1000000 in
theorem dwriteS_calls {w : World} {db : Nat} {A : Nat → Prop} {acts N : Nat} {L : List Int} {ps : List (Nat × List Int)} (h : DkS w db N A acts L ps) (ha : acts < 1000000) (n : Nat) (hn : n < N) (b off cap : Nat) (l : List Int) (hl : (bys l).length = 64) (hlr : ∀ x ∈ l, 0 ≤ x ∧ x < 256) (hsl : ∀ w', Fr A w w' → w'.rangeAt b off (bys l)) :
    Calls Tryd.prog 78 #[.pointer (some ⟨db, 0, none⟩), .int .i64 (n : Int), .slice (some ⟨b, off, none⟩) 64 cap] w fun e w' => e = .returned (.int .i64 0) ∧ ∃ A', DkS w' db N A' (acts + 1) L (ps ++ [(n, l)]) ∧ Fr A w w' ∧ Gr7 w A A' := by
  have HU := Lib.hid (gup_calls h.toR)
  obtain ⟨lb, cb, wv, c, h, hcp, hLl, hLr, hok⟩ := h
  have HA := Lib.hid (dactS_calls h ha)
  have HKK := Lib.hid (And.intro hcp (And.intro hLl (And.intro hLr hok)))
  have HLR := Lib.hid hlr
  have hm := h.many
  clear hLl hLr hok hlr
  have HSL := Lib.hid hsl
  have hat : ∀ w : World, (Instr.arrayAt 92 (.slice (some ⟨b, off, none⟩) 64 cap)).run Tryd.prog w = .ok (.pointer (some ⟨b, off, none⟩)) w := fun w => by
    simp [Instr.arrayAt, run_underlying (show Tryd.prog.underlying 92 = some (.array 64 5) by kernel_rfl)]
  have c0 : w.cell? ⟨db, 0, none⟩ = some (.slice (some ⟨lb, 0, none⟩) N N) := heap_cell (o := 0) h.box rfl
  have d1 : decide ((n : Int) < 0) = false := decide_eq_false (by omega)
  have d2 : decide ((N : Int) ≤ (n : Int)) = false := decide_eq_false (by omega)
  have H := Lib.hid h
  have HL := Lib.hid hl
  have HPA := Lib.hid (show ps.length < acts + 1 by have := h.pl; omega)
  clear hsl h hl
  go_enter Tryd.func78, Tryd.ntmps78
  go_wp2_with fail
  refine HU.out.mono ?_
  rintro e w1 ⟨rfl, rfl⟩
  go_wp2_with fail
  refine HA.out.mono ?_
  rintro e w1 ⟨rfl, hD1, hF1⟩
  have HD1 := Lib.hid hD1
  have HF1 := Lib.hid (hF1.mono (T := A) (fun k _ e => e ▸ H.out.a0))
  clear hD1 hF1
  have HR1 := Lib.hid (HSL.out _ HF1.out)
  have hs7 : w1.heap.size ≥ w.heap.size := HF1.out.size
  go_upto_region 8 with (first
    | (refine load_sec rfl _ rfl b off l rfl HR1.out HL.out ?_)
    | (refine alloc_sec rfl rfl ?_)
    | (refine store_sec rfl _ _ rfl w1.heap.size l _ _ rfl rfl HL.out (heap_new _ _) rfl ?_; intro w2 hb2 hF2)
    | fail "arm")
  simp only [Act.put, List.setIfInBounds_toArray, List.set_cons_zero, List.set_cons_succ]
  have hF12 : Fr No w1 w2 := ((Fr.refl No w1).alloc _).trans' hF2 (fun i hi e => by omega)
  have hD2 := HD1.out.fr hF12 (fun _ _ h => h)
  have HD2 := Lib.hid hD2
  have HF02 := Lib.hid (HF1.out.trans hF12.no)
  have hmap := hD2.map
  have hcn := hD2.acts1
  have hpl := hD2.pl
  have hlt : cb < w1.heap.size := HD1.out.map.lt
  have HLT := Lib.hid hlt
  have hdlt : db < w1.heap.size := HD1.out.low _ HD1.out.a0
  have hmd : cb ≠ db := by
    intro e
    obtain ⟨D, ⟨es, clock, hb2, -⟩, -⟩ := hmap
    rw [e, hD2.box] at hb2; cases hb2
  have HMD := Lib.hid hmd
  have HMAP := Lib.hid (hmap.fr (Fr.refl No w2).drew (fun h => h))
  have k1 : w2.drew.cell? ⟨db, 1, none⟩ = some (.map (some cb)) := heap_cell (w := w2) (o := 1) hD2.box rfl
  have kr : w2.drew.rangeAt w1.heap.size 0 (bys l) := fun j v hj => by rw [Nat.zero_add]; exact heap_cell (w := w2) hb2 (by simpa using hj)
  have HB2 := Lib.hid hb2
  have HSZ := Lib.hid (show (Tryd.prog.info? 92).map (·.size) = some (bys l).length by rw [size_sec, HL.out])
  generalize hb7 : w1.heap.size = b7 at *
  have HB7 := Lib.hid hb7
  clear hF2 hF12 hD2 hmap hlt hb2 hmd
  refine wp_region_held_drew (S := (fun w' => w'.cell? ⟨db, 1, none⟩ = some (.map (some cb)) ∧ w'.rangeAt b7 0 (bys l))) (by kernel_rfl) ⟨k1, kr⟩ (fun hS0 => ?_)
  refine take_at7 (i := 0) (d := some 36) (v := ?_) rfl rfl (by kernel_rfl) (by kernel_rfl) (by kernel_rfl) (fun _ _ _ h => h) (Or.inl ⟨by rfl, ?_⟩) (by assumption) ?_
  rotate_left
  · intro w hSw; go_simp; try (with_reducible rfl)
  try simp only [Act.put, List.setIfInBounds_toArray, List.set_cons_zero, List.set_cons_succ]
  refine take_at7 (i := 1) (d := some 37) (v := ?_) rfl rfl (by kernel_rfl) (by kernel_rfl) (by kernel_rfl) (fun _ _ _ h => h) (Or.inl ⟨by rfl, ?_⟩) (by assumption) ?_
  rotate_left
  · intro w hSw; go_simp; try (with_reducible rfl)
  try simp only [Act.put, List.setIfInBounds_toArray, List.set_cons_zero, List.set_cons_succ]
  refine take_at7 (i := 2) (d := some 38) (v := ?_) rfl rfl (by kernel_rfl) (by kernel_rfl) (by kernel_rfl) (fun _ _ _ h => h) (Or.inl ⟨by rfl, ?_⟩) (by assumption) ?_
  rotate_left
  · intro w hSw; go_simp; try (with_reducible rfl)
  try simp only [Act.put, List.setIfInBounds_toArray, List.set_cons_zero, List.set_cons_succ]
  refine take_at7 (i := 3) (d := some 39) (v := ?_) rfl rfl (by kernel_rfl) (by kernel_rfl) (by kernel_rfl) (fun _ _ _ h => h) (Or.inl ⟨by rfl, ?_⟩) (by assumption) ?_
  rotate_left
  · intro w hSw; go_simp; try (with_reducible rfl)
  try simp only [Act.put, List.setIfInBounds_toArray, List.set_cons_zero, List.set_cons_succ]
  refine take_at7 (i := 4) (d := some 40) (v := ?_) rfl rfl (by kernel_rfl) (by kernel_rfl) (by kernel_rfl) (fun _ _ _ h => h) (Or.inl ⟨by rfl, ?_⟩) (by assumption) ?_
  rotate_left
  · intro w hSw; go_simp; try (with_reducible rfl)
  try simp only [Act.put, List.setIfInBounds_toArray, List.set_cons_zero, List.set_cons_succ]
  refine take_at7 (i := 5) (d := some 41) (v := .agg (bys l).toArray) rfl rfl (by kernel_rfl) (by kernel_rfl) (by kernel_rfl) (fun _ _ _ h => h) (yieldsIf_load_mid (by rfl) _ _ rfl b7 0 rfl (bys l) _ (fun _ h => h.2) Tryd.underlying92 rfl HSZ.out) (by assumption) ?_
  try simp only [Act.put, List.setIfInBounds_toArray, List.set_cons_zero, List.set_cons_succ]
  refine one_H7 (i := 6) (d := none) rfl rfl rfl (by kernel_rfl) (fun K hK => ?_)
  refine (wp_map_put7 (.tmp 39) (.tmp 40) (.tmp 41) 85 rfl rfl HMAP.out Tryd.underlying3 Tryd.underlying85 (by unfold maxLen; omega) (n : Int) (by omega) (.agg (bys l).toArray) rfl rfl ?_)
  intro w3 hmap3 hF3
  have hF23 : Fr (fun j => j = cb) w2 w3 := ((Fr.refl _ _).drew).trans hF3
  have g1 : w3.cell? ⟨db, 1, none⟩ = some (.map (some cb)) := hF3.cell k1 (fun e => HMD.out e.symm)
  have gr : w3.rangeAt b7 0 (bys l) := fun j v hj => hF3.cell (kr j v hj) (fun e => by have := HLT.out; omega)
  refine hK.out _ _ ⟨g1, gr⟩ (fun hHeld => ?_)
  clear hK K
  try simp only [Act.put, List.setIfInBounds_toArray, List.set_cons_zero, List.set_cons_succ]
  refine wpAnyH_done (by kernel_rfl) ?_ _
  have GR := Lib.hid gr
  have HD3 : RowKit.Hid (DkM w3 db lb cb wv (acts + 1) N (if (cacheP ps (n : Int)).isSome then c else c + 1) (upd (cacheP ps) (n : Int) (some (.agg (bys l).toArray))) L ps A) := Lib.hid (by
    have hrl : lb ≠ cb := fun e => by
      obtain ⟨D, ⟨es, clock, hb2, -⟩, -⟩ := HD2.out.map
      have a := HD2.out.last
      unfold Row at a
      rw [e, hb2] at a; cases a
    exact ⟨hF23.heap HD2.out.box (fun e => HMD.out e.symm), HD2.out.last.fr hF23 hrl, hmap3, ownsRow_fr7 HD2.out.row hF23 (fun k e e2 => map_apart7 HD2.out.map HD2.out.row (e2 ▸ e)), HD2.out.pl, HD2.out.acts1, HD2.out.many, HD2.out.a0, HD2.out.a1, HD2.out.a2, HD2.out.a3, fun k hk => Nat.lt_of_lt_of_le (HD2.out.low k hk) hF23.size⟩)
  have HF03 := Lib.hid (HF02.out.trans (hF23.mono (T := A) (fun k _ e => e ▸ H.out.a1)))
  clear hmap3 hF3 hF23 g1 gr kr k1 hHeld hS0
  go_upto_region 9 with fail
  have krr : w3.drew.rangeAt b7 0 (bys l) := fun j v hj => GR.out j v hj
  have HP := Lib.hid (dputS_calls (HD3.out.fr (Fr.refl No w3).drew (fun _ _ h => h)) (by have := HPA.out; omega) (n, l) (.int .i64 (n : Int) :: bys l) rfl (by rw [List.length_cons, HL.out]) (fun u hu => by
    rcases List.mem_cons.1 hu with rfl | hu
    · rfl
    · exact bys_one _ u hu))
  refine wp_region_held_drew (S := (fun w' => w'.rangeAt b7 0 (bys l))) (by kernel_rfl) krr (fun hS0 => ?_)
  refine take_at7 (i := 0) (d := some 42) (v := ?_) rfl rfl (by kernel_rfl) (by kernel_rfl) (by kernel_rfl) (fun _ _ _ h => h) (Or.inl ⟨by rfl, ?_⟩) (by assumption) ?_
  rotate_left
  · intro w hSw; go_simp; try (with_reducible rfl)
  try simp only [Act.put, List.setIfInBounds_toArray, List.set_cons_zero, List.set_cons_succ]
  refine take_at7 (i := 1) (d := some 43) (v := ?_) rfl rfl (by kernel_rfl) (by kernel_rfl) (by kernel_rfl) (fun _ _ _ h => h) (Or.inl ⟨by rfl, ?_⟩) (by assumption) ?_
  rotate_left
  · intro w hSw; go_simp; try (with_reducible rfl)
  try simp only [Act.put, List.setIfInBounds_toArray, List.set_cons_zero, List.set_cons_succ]
  refine take_at7 (i := 2) (d := some 44) (v := ?_) rfl rfl (by kernel_rfl) (by kernel_rfl) (by kernel_rfl) (fun _ _ _ h => h) (Or.inl ⟨by rfl, ?_⟩) (by assumption) ?_
  rotate_left
  · intro w hSw; go_simp; try (with_reducible rfl)
  try simp only [Act.put, List.setIfInBounds_toArray, List.set_cons_zero, List.set_cons_succ]
  refine take_at7 (i := 3) (d := some 45) (v := ?_) rfl rfl (by kernel_rfl) (by kernel_rfl) (by kernel_rfl) (fun _ _ _ h => h) (Or.inl ⟨by rfl, ?_⟩) (by assumption) ?_
  rotate_left
  · intro w hSw; go_simp; try (with_reducible rfl)
  try simp only [Act.put, List.setIfInBounds_toArray, List.set_cons_zero, List.set_cons_succ]
  refine take_at7 (i := 4) (d := some 46) (v := .agg (bys l).toArray) rfl rfl (by kernel_rfl) (by kernel_rfl) (by kernel_rfl) (fun _ _ _ h => h) (yieldsIf_load_mid (by rfl) _ _ rfl b7 0 rfl (bys l) _ (fun _ h => h) Tryd.underlying92 rfl HSZ.out) (by assumption) ?_
  try simp only [Act.put, List.setIfInBounds_toArray, List.set_cons_zero, List.set_cons_succ]
  refine take_at7 (i := 5) (d := some 47) (v := .agg (.int .i64 (n : Int) :: bys l).toArray) rfl rfl (by kernel_rfl) (by kernel_rfl) (by kernel_rfl) (fun _ _ _ h => h) (yields_build_wait (by rfl) _ _ rfl (n : Int) (bys l) rfl rfl HL.out) (by assumption) ?_
  try simp only [Act.put, List.setIfInBounds_toArray, List.set_cons_zero, List.set_cons_succ]
  refine one_H7 (i := 6) (d := some 48) rfl rfl rfl (by kernel_rfl) (fun K hK => ?_)
  go_simp
  go_loud (go_at_call 90; ((with_reducible refine HP.out.mono ?_); rintro e w4 ⟨rfl, wv', A', hD4, hF4, hG4⟩))
  refine hK.out _ _ (fun j v hj => hF4.cell (krr j v hj) (fun e => by have := HD1.out.low _ e; rw [HB7.out] at this; omega)) (fun hHeld => ?_)
  clear hK K hHeld hS0 krr
  try simp only [Act.put, List.setIfInBounds_toArray, List.set_cons_zero, List.set_cons_succ]
  refine wpAnyH_done (by kernel_rfl) ?_ _
  have HD4 := Lib.hid hD4
  have HF4 := Lib.hid hF4
  have HG4 := Lib.hid hG4
  clear hD4 hF4 hG4
  go_wp2_with fail
  go_ret
  exact ⟨rfl, A', ⟨lb, cb, wv', _, by rw [cacheP_snoc]; exact HD4.out, by have := HKK.out.1; rw [List.length_append]; simp only [List.length_cons, List.length_nil]; split <;> omega, HKK.out.2.1, HKK.out.2.2.1, fun p hp => by
    rcases List.mem_append.1 hp with h | h
    · exact HKK.out.2.2.2 p h
    · simp at h; subst h; exact ⟨hn, by have := HL.out; rwa [bys_len] at this, HLR.out⟩⟩, HF03.out.trans ((Fr.refl No w3).drew.no.trans HF4.out), fun j hj => (HG4.out j hj).imp id (fun h => Nat.le_trans HF03.out.size h)⟩
end Go.Proofs.YtpcikbloflpahaaDoor
namespace Go.Proofs.YtpcikbloflpahaaDoor
set_option linter.unusedVariables false
set_option linter.unusedSimpArgs false
open Go.RowKit Go.Shelf Go.Maps

set_option maxHeartbeats 2000000 in
set_option maxRecDepth 1000000 in
theorem dofS_calls {w : World} (v : Value) (b : List Int) (hlen : b.length ≤ 140737488355328) (hr : ∀ x ∈ b, 0 ≤ x ∧ x < 256) (hv : Sl w v b.length (bys b)) : Calls Tryd.prog 13 #[v] w fun e w' => ∃ db A, e = .returned (.pointer (some ⟨db, 0, none⟩)) ∧ DkS w' db (manyS b.length) A 0 (ofB b) [] ∧ Fr No w w' ∧ ∀ k, A k → w.heap.size ≤ k := by
  obtain ⟨ad, cap, rfl, hn0, hcap⟩ := hv.form0
  have hm : manyS b.length ≤ 2000 := by unfold manyS; omega
  have HNW := Lib.hid (dnewg_calls (manyS b.length) hm w)
  have HV := Lib.hid hv
  clear hv
  have HNB : RowKit.Hid (∀ N, manyS b.length = N → N = (min b.length 128000 + 63) / 64 ∧ ∀ j < N, 64 * j < b.length) := Lib.hid (fun N e => by subst e; unfold manyS; exact ⟨rfl, fun j hj => by omega⟩)
  have HOF : RowKit.Hid ((ofB b).length = 64 * manyS b.length ∧ (∀ x ∈ ofB b, 0 ≤ x ∧ x < 256) ∧ laidB b (manyS b.length) (manyS b.length) = ofB b) := Lib.hid ⟨ofB_len b, ofB_range hr, rfl⟩
  generalize ofB b = ob at *
  generalize hN : manyS b.length = N at *
  have HN := Lib.hid (HNB.out _ rfl)
  clear hN HNB
  have HM := Lib.hid (MapAt.made Tryd.prog 3 (w.alloc (.cells (bys (zs (64 * N))).toArray 92)))
  go_enter Tryd.func13, Tryd.ntmps13
  go_wp2_with fail
  all_goals first | rw [show ((b.length : Int) + 64 - 1) / 64 = (N : Int) from by have := HN.out.1; omega] | rw [show Value.int .i64 2000 = .int .i64 (N : Int) from by rw [show N = 2000 from by have := HN.out.1; omega]; rfl]
  all_goals (
    refine HNW.out.mono ?_
    rintro e w2 ⟨rfl, hw2⟩)
  all_goals (
    have hF2 : Fr No w w2 := by rw [hw2]; exact (((Fr.refl No w).alloc _).alloc _).alloc _
    have hs2 : w2.heap.size = w.heap.size + 3 := by rw [hw2]; simp
    have hrow : Row w2 w.heap.size 92 (laidB b N 0) := by rw [hw2, laidB_zero]; exact heap_alloc _ (heap_alloc _ (heap_new _ _))
    have hbox : w2.heap[w.heap.size + 2]? = some (.cells (DkG w.heap.size N (w.heap.size + 1) (.slice none 0 0) 0).toArray 90 (0, 0)) := by
      rw [hw2]
      have := heap_new ((w.alloc (.cells (bys (zs (64 * N))).toArray 92)).alloc (.map #[] 0)) (Obj.cells #[.slice (some ⟨w.heap.size, 0, none⟩) N N, .map (some (w.heap.size + 1)), .slice none 0 0, .int .i64 (-1), .int .i64 0, .bool false] 90)
      have s2 : ((w.alloc (.cells (bys (zs (64 * N))).toArray 92)).alloc (.map #[] 0)).heap.size = w.heap.size + 2 := by simp
      rw [s2] at this
      exact this
    have hmap : MapAt Tryd.prog 3 w2 (w.heap.size + 1) 0 (fun _ => none) := by
      rw [hw2]
      have := HM.out.fr ((Fr.refl No _).alloc (Obj.cells #[.slice (some ⟨w.heap.size, 0, none⟩) N N, .map (some (w.heap.size + 1)), .slice none 0 0, .int .i64 (-1), .int .i64 0, .bool false] 90)) (fun h => h)
      simpa using this
    have k0 : w2.cell? ⟨w.heap.size + 2, 0, none⟩ = some (.slice (some ⟨w.heap.size, 0, none⟩) N N) := heap_cell (o := 0) hbox rfl
    clear hw2)
  all_goals (
    have HF2 := Lib.hid hF2
    have HBX := Lib.hid hbox
    have HMP := Lib.hid hmap
    clear hF2 hbox hmap)
  all_goals go_wp2_with fail
  all_goals (
    go_loopw [17] (fun i wr => ∃ j : Nat, j ≤ N ∧ i = .int .i64 j ∧ Row wr w.heap.size 92 (laidB b N j) ∧ Fr (fun k => k = w.heap.size) w2 wr) (fun i _ => N - (intOf i).toNat)
    case atStart => exact ⟨0, Nat.zero_le _, rfl, hrow, Fr.refl _ _⟩
    case round =>
      obtain ⟨j, hj, rfl, hrw, hF⟩ := hrel
      by_cases hlt : j < N
      · have HRW := Lib.hid hrw
        have HF := Lib.hid hF
        have hjb := HN.out.2 j hlt
        have k0d : wr.drew.cell? ⟨w.heap.size + 2, 0, none⟩ = some (.slice (some ⟨w.heap.size, 0, none⟩) N N) := hF.cell k0 (fun (e : w.heap.size + 2 = _) => by omega)
        have hsz : wr.heap.size ≥ w.heap.size + 3 := by have := hF.size; omega
        have hwr : IntKind.i64.wrap ((j : Int) * 64) = 64 * (j : Int) := by have := IntWalk.i64_in ((j : Int) * 64) (by omega); rw [this]; omega
        have hq0 : (64 * (j : Int)).toNat = 64 * j := by omega
        have hq1 : (0 ≤ 64 * (j : Int) ∧ 64 * (j : Int) ≤ (b.length : Int)) = True := eq_true ⟨by omega, by omega⟩
        have hq2 : (cap = 64 * j) = False := eq_false (by omega)
        have hsd : Sl wr.drew (.slice (Option.map (fun x => x.add (64 * j)) ad) (b.length - 64 * j) (cap - 64 * j)) (b.length - 64 * j) (bys (b.drop (64 * j))) := by
          have h1 : Fr (fun k => k = w.heap.size) w wr.drew := (HF2.out.no.trans hF).drew
          have := (HV.out.fr h1 (fun k e hne => by have := HV.out.lt e hne; omega)).drop (k := 64 * j) (size := 1) (by omega) (by simp [bys])
          rw [if_neg (by omega)] at this
          simpa [bys, List.map_drop] using this
        obtain ⟨w5, hrw5, hF5, hcp⟩ := Row.copyMin (w := wr.drew) hrw (b.drop (64 * j)) (Option.map (fun x => x.add (64 * j)) ad) (cap - 64 * j) (j * 64) 64 64 (by simp; omega) (by rw [List.length_drop]; exact hsd) (by rw [laidB_len, List.length_drop]; omega)
        rw [List.length_drop] at hcp
        rw [Nat.mul_comm j 64, laidB_step b N j hlt] at hrw5
        have HRW5 := Lib.hid hrw5
        have HF5 := Lib.hid (hF.trans ((Fr.refl (fun k => k = w.heap.size) wr).drew.trans hF5))
        have K0 := Lib.hid k0
        clear hrw hF hrow k0 hsd hrw5 hF5
        go_upto_region 5 with fail
        refine wp_region_held_drew (S := (fun w' => w'.cell? ⟨w.heap.size + 2, 0, none⟩ = some (.slice (some ⟨w.heap.size, 0, none⟩) N N))) (by kernel_rfl) k0d (fun hS0 => ?_)
        refine take_at7 (i := 0) (d := some 20) (v := ?_) rfl rfl (by kernel_rfl) (by kernel_rfl) (by kernel_rfl) (fun _ _ _ h => h) (Or.inl ⟨by rfl, ?_⟩) (by assumption) ?_
        rotate_left
        · intro w hSw; go_simp; try (with_reducible rfl)
        try simp only [Act.put, List.setIfInBounds_toArray, List.set_cons_zero, List.set_cons_succ]
        refine take_at7 (i := 1) (d := some 21) (v := ?_) rfl rfl (by kernel_rfl) (by kernel_rfl) (by kernel_rfl) (fun _ _ _ h => h) (Or.inl ⟨by rfl, ?_⟩) (by assumption) ?_
        rotate_left
        · intro w hSw; go_simp; try (with_reducible rfl)
        try simp only [Act.put, List.setIfInBounds_toArray, List.set_cons_zero, List.set_cons_succ]
        refine take_at7 (i := 2) (d := some 22) (v := ?_) rfl rfl (by kernel_rfl) (by kernel_rfl) (by kernel_rfl) (fun _ _ _ h => h) (Or.inl ⟨by rfl, ?_⟩) (by assumption) ?_
        rotate_left
        · intro w hSw; go_simp; try (with_reducible rfl)
        try simp only [Act.put, List.setIfInBounds_toArray, List.set_cons_zero, List.set_cons_succ]
        refine take_at7 (i := 3) (d := some 23) (v := ?_) rfl rfl (by kernel_rfl) (by kernel_rfl) (by kernel_rfl) (fun _ _ _ h => h) (Or.inl ⟨by rfl, ?_⟩) (by assumption) ?_
        rotate_left
        · intro w hSw; go_simp; try (with_reducible rfl)
        try simp only [Act.put, List.setIfInBounds_toArray, List.set_cons_zero, List.set_cons_succ]
        refine take_at7 (i := 4) (d := some 24) (v := ?_) rfl rfl (by kernel_rfl) (by kernel_rfl) (by kernel_rfl) (fun _ _ _ h => h) (Or.inl ⟨by rfl, ?_⟩) (by assumption) ?_
        rotate_left
        · intro w hSw; go_simp; try (with_reducible rfl)
        try simp only [Act.put, List.setIfInBounds_toArray, List.set_cons_zero, List.set_cons_succ]
        refine take_at7 (i := 5) (d := some 25) (v := ?_) rfl rfl (by kernel_rfl) (by kernel_rfl) (by kernel_rfl) (fun _ _ _ h => h) (Or.inl ⟨by rfl, ?_⟩) (by assumption) ?_
        rotate_left
        · intro w hSw; go_simp; try (with_reducible rfl)
        try simp only [Act.put, List.setIfInBounds_toArray, List.set_cons_zero, List.set_cons_succ]
        refine take_at7 (i := 6) (d := some 26) (v := ?_) rfl rfl (by kernel_rfl) (by kernel_rfl) (by kernel_rfl) (fun _ _ _ h => h) (Or.inl ⟨by rfl, ?_⟩) (by assumption) ?_
        rotate_left
        · intro w hSw; go_simp; try (with_reducible rfl)
        try simp only [Act.put, List.setIfInBounds_toArray, List.set_cons_zero, List.set_cons_succ]
        refine take_at7 (i := 7) (d := some 27) (v := ?_) rfl rfl (by kernel_rfl) (by kernel_rfl) (by kernel_rfl) (fun _ _ _ h => h) (Or.inl ⟨by rfl, ?_⟩) (by assumption) ?_
        rotate_left
        · intro w hSw; go_simp; try (with_reducible rfl)
        try simp only [Act.put, List.setIfInBounds_toArray, List.set_cons_zero, List.set_cons_succ]
        refine take_at7 (i := 8) (d := some 28) (v := ?_) rfl rfl (by kernel_rfl) (by kernel_rfl) (by kernel_rfl) (fun _ _ _ h => h) (Or.inl ⟨by rfl, ?_⟩) (by assumption) ?_
        rotate_left
        · intro w hSw; go_simp; try (with_reducible rfl)
        try simp only [Act.put, List.setIfInBounds_toArray, List.set_cons_zero, List.set_cons_succ]
        refine take_at7 (i := 9) (d := some 29) (v := ?_) rfl rfl (by kernel_rfl) (by kernel_rfl) (by kernel_rfl) (fun _ _ _ h => h) (Or.inl ⟨by rfl, ?_⟩) (by assumption) ?_
        rotate_left
        · intro w hSw; go_simp; try (with_reducible rfl)
        try simp only [Act.put, List.setIfInBounds_toArray, List.set_cons_zero, List.set_cons_succ]
        refine take_at7 (i := 10) (d := some 30) (v := ?_) rfl rfl (by kernel_rfl) (by kernel_rfl) (by kernel_rfl) (fun _ _ _ h => h) (Or.inl ⟨by rfl, ?_⟩) (by assumption) ?_
        rotate_left
        · intro w hSw; go_simp; try (with_reducible rfl)
        try simp only [Act.put, List.setIfInBounds_toArray, List.set_cons_zero, List.set_cons_succ]
        refine one_H7 (i := 11) (d := some 31) rfl rfl rfl (by kernel_rfl) (fun K hK => ?_)
        go_simp
        refine hK.out _ _ (HF5.out.cell K0.out (fun (e : w.heap.size + 2 = _) => by omega)) (fun hHeld => ?_)
        clear hK K
        try simp only [Act.put, List.setIfInBounds_toArray, List.set_cons_zero, List.set_cons_succ]
        refine wpAnyH_done (by kernel_rfl) ?_ _
        go_wp2_with fail
        refine ⟨⟨j + 1, by omega, by go_num, HRW5.out, HF5.out⟩, by simp [intOf]; omega⟩
      · obtain rfl : j = N := by omega
        have HRW := Lib.hid hrw
        have HF := Lib.hid hF
        clear hrw hF hrow k0
        go_wp2_with fail
        go_ret
        have hFa : Fr No w wr := HF2.out.trans' HF.out (fun i hi (e : i = _) => by omega)
        have hsz : wr.heap.size ≥ w.heap.size + 3 := by have := HF.out.size; omega
        refine ⟨w.heap.size + 2, fun k => w.heap.size ≤ k ∧ k < w.heap.size + 3, rfl, ⟨w.heap.size, w.heap.size + 1, .slice none 0 0, 0, ⟨HF.out.heap HBX.out (fun (e : w.heap.size + 2 = _) => by omega), by rw [← HOF.out.2.2]; exact HRW.out, HMP.out.fr HF.out (fun (e : w.heap.size + 1 = _) => by omega), World.ownsRow_nil _ _ _ _, Nat.le_refl _, by omega, hm, ⟨by omega, by omega⟩, ⟨by omega, by omega⟩, fun k e => by simp [Value.ownBlock] at e, ⟨by omega, by omega⟩, fun k hk => by have := hk.2; omega⟩, Nat.le_refl _, HOF.out.1, HOF.out.2.1, fun p hp => by cases hp⟩, hFa, fun k hk => hk.1⟩)
end Go.Proofs.YtpcikbloflpahaaDoor
namespace Go.Proofs.YtpcikbloflpahaaDoor
set_option linter.unusedVariables false
set_option linter.unusedSimpArgs false
open Go.RowKit Go.Shelf Go.Maps

def encP (l : List Int) (j : Nat) : List Int := (l.take j).flatMap fun x => putL (zs 2) 0 x 2
def encN (l : List Int) : List Int := encP l 32
theorem encP_succ (l : List Int) (j : Nat) (h : j < l.length) : encP l (j + 1) = encP l j ++ putL (zs 2) 0 l[j] 2 := by
  unfold encP
  rw [List.take_succ_eq_append_getElem h, List.flatMap_append, List.flatMap_cons, List.flatMap_nil, List.append_nil]
set_option maxHeartbeats 4000000 in
set_option maxRecDepth 1000000 in
theorem nencodeG_calls (l : List Int) (hl : l.length = 32) (hr : ∀ x ∈ l, 0 ≤ x ∧ x ≤ 65535) (w : World) :
    Calls Tryd.prog 69 #[.agg (nds l).toArray] w fun e w' => ∃ r, e = .returned (.tuple #[r, .int .i64 0]) ∧ Fr No w w' ∧ w'.ownsRow w.heap.size 5 1 r 64 (bys (encN l)) := by
  have hmk2 : ∀ w : World, (Instr.makeSlice 30 (.int .i64 2) (.int .i64 2)).run Tryd.prog w = .ok (.slice (some ⟨w.heap.size, 0, none⟩) 2 2) (w.alloc (.cells (bys (zs 2)).toArray 5)) := fun w => mk_bytes w 2 (by omega)
  have hmk := mk_cap64
  have HIX := Lib.hid (fun (w1 : World) j hj => run_index_nd w1 l j hj hl)
  have HR := Lib.hid hr
  have HL := Lib.hid hl
  have HN := Lib.hid (heap_nd (heap_alloc (Obj.cells (bys (zs 64)).toArray 5) (heap_new w (Obj.cells (nds l).toArray 99))) hl)
  clear hl hr
  go_enter Tryd.func69, Tryd.ntmps69
  go_wp2_with (first
    | ((refine load_nd rfl _ rfl w.heap.size 0 l rfl HN.out ?_))
    | fail "arm")
  go_loopw [4, 9] (fun bv i wr => ∃ (j : Nat) (bs : List Int), j ≤ 32 ∧ i = .int .i64 j ∧ bs.length = 2 * j ∧ bs = encP l j ∧ wr.ownsRow w.heap.size 5 1 bv (2 * j) (bys bs) ∧ Fr No w wr) (fun _ i _ => 32 - (intOf i).toNat)
  case atStart => exact ⟨0, [], by omega, rfl, rfl, by simp [encP], ⟨rfl, .inr ⟨_, _, _, rfl, by omega, heap_new2_7 w _ _, by omega, by unfold maxLen; omega, by simp [bys, zs], by simp [bys]⟩⟩, ((Fr.refl No w).alloc _).alloc _⟩
  case round =>
    obtain ⟨j, bs, hj, rfl, hbl, hbr, hown, hF⟩ := hrel
    obtain ⟨ab, cb, rfl⟩ := (Sl.of_owns hown).form
    have HOW := Lib.hid hown
    have HF := Lib.hid hF
    have HBL := Lib.hid hbl
    have HBR := Lib.hid hbr
    clear hown hF hbl hbr
    by_cases hlt : j < 32
    · have hd : decide ((j : Int) < 32) = true := decide_eq_true (by omega)
      have hix := HIX.out wr j (by rw [HL.out]; exact hlt)
      have hx := HR.out _ (List.getElem_mem (h := (by rw [HL.out]; exact hlt : j < l.length)))
      have HTK := Lib.hid (encP_succ l j (by rw [HL.out]; exact hlt))
      revert hix hx HTK
      generalize l[j]'(by rw [HL.out]; exact hlt) = x
      intro hix hx HTK
      have d1 : decide (x < 0) = false := decide_eq_false (by omega)
      have d2 : decide (65535 < x) = false := decide_eq_false (by omega)
      have hwx : IntKind.u64.wrap x = x := IntWalk.u64_in _ (by omega)
      have HPT := Lib.hid (fun (w1 : World) => (put_calls (.slice (some ⟨w1.heap.size, 0, none⟩) 2 2) (zs 2) 0 2 x (w1.alloc (Obj.cells (bys (zs 2)).toArray 5)) (by omega) (by simp [zs]) (by simp [zs]) (by omega) (by simp [zs]) (by have := (Row.new w1 5 (zs 2)).sl; rw [zs_length] at this; exact this) :
        Calls Tryd.prog 79 #[.slice (some ⟨w1.heap.size, 0, none⟩) 2 2, .int .i64 0, .int .i64 2, .int .u64 x] (w1.alloc (Obj.cells (bys (zs 2)).toArray 5)) _))
      have HPL := Lib.hid (putL_length (zs 2) 0 x 2)
      clear hx
      generalize putL (zs 2) 0 x 2 = pl at *
      go_wp2_with fail
      refine (HPT.out _).mono ?_
      rintro e w1 ⟨r, rfl, hF1, hr1⟩
      rw [zs_length] at hr1
      obtain ⟨ar, cr, rfl⟩ := (Sl.of_owns hr1).form
      have HR1 := Lib.hid (Sl.of_owns hr1)
      have HF1 := Lib.hid (show Fr No w1 w1 from Fr.refl _ _)
      have HFW := Lib.hid (show Fr No wr w1 from (((Fr.refl No wr).alloc (Obj.cells (bys (zs 2)).toArray 5)).trans hF1))
      have HOW1 := Lib.hid (ownsRow_fr7 HOW.out HFW.out (fun _ _ h => h))
      have HSZ := Lib.hid (Nat.le_trans HF.out.size HFW.out.size)
      have hb2 : (bys pl).length = 2 * 1 := by rw [bys_len, HPL.out]; rfl
      clear hF1 hr1 HPT
      go_wp2_with (first
        | (at_builtin; (refine append_at7 el_u8 rfl _ (.tmp 22) rfl w.heap.size (.slice ab (2 * j) cb) (2 * j) (bys bs) rfl HOW1.out rfl HR1.out hb2 (bys_one _) (by unfold maxLen; omega) (by omega) HSZ.out ?_; intro a3 n3 c3 w3 hown3 hgrow3 hlie3))
        | fail "arm")
      have HF3 := Lib.hid (show Fr No w w3 from (HF.out.trans HFW.out).trans' (fr_grown7 hgrow3) (fun i hi e => by have := (HOW1.out.lt i e).1; omega))
      have HO3 := Lib.hid hown3
      clear hown3 hgrow3 hlie3
      go_wp2_with fail
      go_roundw
      case rel =>
        refine ⟨j + 1, bs ++ pl, by omega, by go_num, ?_, ?_, ?_, HF3.out⟩
        · rw [List.length_append, HBL.out, HPL.out, zs_length]; omega
        · rw [HTK.out, HBR.out]
        · have h3 := HO3.out
          rw [← bys_app7] at h3
          rw [show 2 * (j + 1) = 2 * j + 2 by omega]
          exact h3
      case measure => simp [intOf]; omega
    · obtain rfl : j = 32 := by omega
      have hd : decide (((32 : Nat) : Int) < 32) = false := by decide
      go_wp2
      go_ret2
      exact ⟨_, rfl, HF.out, by rw [show encN l = bs from HBR.out.symm]; exact HOW.out⟩

theorem putL2 (x : Int) (h0 : 0 ≤ x) (h1 : x ≤ 65535) : putL (zs 2) 0 x 2 = [x % 256, x / 256] := by
  simp only [putL, zs, List.replicate, Nat.mul_zero, Int.pow_zero, Nat.mul_one, Nat.add_zero, Nat.zero_add]
  rw [Int.ediv_one]
  simp only [List.set_cons_zero, List.set_cons_succ, IntKind.wrap_u8]
  have : x / 2 ^ 8 % 256 = x / 256 := by rw [show (2 : Int) ^ 8 = 256 from rfl]; omega
  rw [this]
theorem encN_get (l : List Int) (hl : l.length = 32) (hr : ∀ x ∈ l, 0 ≤ x ∧ x ≤ 65535) (k : Nat) (hk : k < 32) : (encN l).getD (2 * k) 0 = l.getD k 0 % 256 ∧ (encN l).getD (2 * k + 1) 0 = l.getD k 0 / 256 := by
  have h := fun i (hi : i < 2) => flat_get7 (fun x : Int => [Value.int .i64 (x % 256), Value.int .i64 (x / 256)]) 2 (fun _ => rfl) l k i (by omega) hi
  have hf : ∀ (l : List Int), (∀ x ∈ l, 0 ≤ x ∧ x ≤ 65535) → l.flatMap (fun x => putL (zs 2) 0 x 2) = l.flatMap (fun x => [x % 256, x / 256]) := fun l hr => by
    induction l with
    | nil => rfl
    | cons y l ih =>
      rw [List.flatMap_cons, List.flatMap_cons, ih (fun x hx => hr x (List.mem_cons_of_mem _ hx)), putL2 y (hr y (List.mem_cons_self ..)).1 (hr y (List.mem_cons_self ..)).2]
  have hgen : ∀ (l : List Int) (k : Nat), k < l.length → (l.flatMap (fun x => [x % 256, x / 256])).getD (2 * k) 0 = l.getD k 0 % 256 ∧ (l.flatMap (fun x => [x % 256, x / 256])).getD (2 * k + 1) 0 = l.getD k 0 / 256 := by
    intro l
    induction l with
    | nil => intro k hk; simp at hk
    | cons y l ih =>
      intro k hk
      rw [List.flatMap_cons]
      cases k with
      | zero => exact ⟨rfl, rfl⟩
      | succ k =>
        have := ih k (by simpa using hk)
        rw [show 2 * (k + 1) = 2 * k + 1 + 1 from by omega]
        simpa using this
  unfold encN encP
  rw [List.take_of_length_le (by omega), hf l hr]
  exact hgen l k (by omega)
theorem encN_len (l : List Int) (hl : l.length = 32) : (encN l).length = 64 := by
  unfold encN encP
  rw [List.take_of_length_le (by omega)]
  have : ∀ l : List Int, (l.flatMap fun x => putL (zs 2) 0 x 2).length = 2 * l.length := fun l => by
    induction l with
    | nil => rfl
    | cons y l ih => rw [List.flatMap_cons, List.length_append, putL_length, ih, List.length_cons]; simp [zs]; omega
  rw [this, hl]
theorem encN_range (l : List Int) : ∀ b ∈ encN l, 0 ≤ b ∧ b < 256 := by
  intro b hb
  unfold encN encP at hb
  rw [List.mem_flatMap] at hb
  obtain ⟨x, -, hx⟩ := hb
  exact putL_range (zs 2) 0 x 2 (fun b hb => by simp only [zs, List.mem_replicate] at hb; omega) b hx
/-- What is written is read again. -/
theorem decN_encN (l : List Int) (hl : l.length = 32) (hr : ∀ x ∈ l, 0 ≤ x ∧ x ≤ 65535) : decN (encN l) = l := by
  apply List.ext_getElem (by rw [decN_len, hl])
  intro k h1 h2
  have hk : k < 32 := by omega
  simp only [decN, decP, List.getElem_map, List.getElem_range]
  rw [if_pos hk, numL_sum7 _ (encN_range l) _ _ (by omega)]
  obtain ⟨e1, e2⟩ := encN_get l hl hr k hk
  simp only [sumL7, Nat.add_zero, Nat.mul_zero, Nat.pow_zero, Nat.mul_one, Nat.zero_add]
  rw [e1, e2]
  have e3 : l.getD k 0 = l[k] := by rw [List.getD_eq_getElem?_getD, List.getElem?_eq_getElem h2]; rfl
  rw [e3]
  have := hr _ (List.getElem_mem h2)
  rw [show (2 : Nat) ^ 8 = 256 from rfl]
  omega
end Go.Proofs.YtpcikbloflpahaaDoor
