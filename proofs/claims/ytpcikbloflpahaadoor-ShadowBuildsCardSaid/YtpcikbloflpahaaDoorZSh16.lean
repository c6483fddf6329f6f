/-
  Chapter 7: a plan and its writer.
-/
import Derived.Test.YtpcikbloflpahaaDoorZSh15
namespace Go.Proofs.YtpcikbloflpahaaDoor
set_option linter.unusedVariables false
set_option linter.unusedSimpArgs false
open Go.RowKit Go.Shelf Go.Maps

structure LyIn (n : Nat) (w : World) (db mb cb fb wb pb lm gb gc yb yc : Nat) (A : Nat → Prop) (acts : Nat) (l : List Int) (x : Int) (tn lf : List Int) : Prop where
  wr : WrIn w db mb cb fb wb A acts l x
  pl : PlAt n w pb lm gb gc yb yc tn lf
  d : ∀ k, (k = pb ∨ k = lm ∨ k = gb ∨ k = yb) → ¬ A k ∧ k ≠ mb ∧ k ≠ cb ∧ k ≠ fb ∧ k ≠ wb ∧ k ≠ 0
section
variable {n : Nat} {w w' : World} {db mb cb fb wb pb lm gb gc yb yc : Nat} {A A' : Nat → Prop} {acts acts' : Nat} {l l' : List Int} {x x' : Int} {tn lf tn' lf' : List Int}
theorem PlAt.fr {S : Nat → Prop} (h : PlAt n w pb lm gb gc yb yc tn lf) (hF : Fr S w w') (hn : ∀ k, (k = pb ∨ k = lm ∨ k = gb ∨ k = yb) → ¬ S k) : PlAt n w' pb lm gb gc yb yc tn lf :=
  ⟨hF.heap h.box (hn _ (.inl rfl)), h.map.fr hF (hn _ (.inr (.inl rfl))), fun j v hj => hF.cell (h.g j v hj) (hn _ (.inr (.inr (.inl rfl)))), fun j v hj => hF.cell (h.y j v hj) (hn _ (.inr (.inr (.inr rfl)))), h.n1, h.n2, h.n3, h.n4, Nat.lt_of_lt_of_le h.n5 hF.size, Nat.lt_of_lt_of_le h.n6 hF.size, h.d1, h.d2, h.d3, h.d4, h.yc⟩
theorem LyIn.fr0 (h : LyIn n w db mb cb fb wb pb lm gb gc yb yc A acts l x tn lf) (hF : Fr No w w') : LyIn n w' db mb cb fb wb pb lm gb gc yb yc A acts l x tn lf := ⟨h.wr.fr0 hF, h.pl.fr hF (fun _ _ h => h), h.d⟩
theorem LyIn.lt (h : LyIn n w db mb cb fb wb pb lm gb gc yb yc A acts l x tn lf) : ∀ k, (k = pb ∨ k = lm ∨ k = gb ∨ k = yb) → k < w.heap.size := by
  rintro k (rfl | rfl | rfl | rfl)
  · exact heap_lt7 h.pl.box
  · exact h.pl.map.lt
  · exact h.pl.n5
  · exact h.pl.n6
theorem LyIn.off (h : LyIn n w db mb cb fb wb pb lm gb gc yb yc A acts l x tn lf) : ∀ k, (k = pb ∨ k = lm ∨ k = gb ∨ k = yb) → ¬ WrS A cb fb k := fun k hk hs => by
  obtain ⟨a, _, b, c, _⟩ := h.d k hk
  exact hs.elim a (fun e => e.elim b c)
theorem LyIn.wrote (h : LyIn n w db mb cb fb wb pb lm gb gc yb yc A acts l x tn lf) (h1 : WrIn w' db mb cb fb wb A' acts' l' x') (hF : Fr (WrS A cb fb) w w') (hG : Gr7 w A A') : LyIn n w' db mb cb fb wb pb lm gb gc yb yc A' acts' l' x' tn lf :=
  ⟨h1, h.pl.fr hF h.off, fun k hk => ⟨fun hA => (hG k hA).elim (h.d k hk).1 (fun e => by have := h.lt k hk; omega), (h.d k hk).2⟩⟩
theorem LyIn.mapped (h : LyIn n w db mb cb fb wb pb lm gb gc yb yc A acts l x tn lf) (h1 : MapAt Tryd.prog 3 w' lm 1 (f1 lf')) (hF : Fr (fun k => k = lm) w w') (hpl : pb ≠ lm) : LyIn n w' db mb cb fb wb pb lm gb gc yb yc A acts l x tn lf' :=
  ⟨h.wr.fr hF (fun k hk => h.d k (.inr (.inl hk))), ⟨hF.heap h.pl.box hpl, h1, fun j v hj => hF.cell (h.pl.g j v hj) h.pl.d3, fun j v hj => hF.cell (h.pl.y j v hj) h.pl.d4, h.pl.n1, h.pl.n2, h.pl.n3, h.pl.n4, Nat.lt_of_lt_of_le h.pl.n5 hF.size, Nat.lt_of_lt_of_le h.pl.n6 hF.size, h.pl.d1, h.pl.d2, h.pl.d3, h.pl.d4, h.pl.yc⟩, h.d⟩
theorem LyIn.topped (h : LyIn n w db mb cb fb wb pb lm gb gc yb yc A acts l x tn lf) (hl : tn.length = tn'.length) (hpl : pb ≠ lm) : LyIn n (w.setCells pb 1 (nds tn')) db mb cb fb wb pb lm gb gc yb yc A acts l x tn' lf := by
  have hF := fr_setCells7 w pb 1 (nds tn')
  exact ⟨h.wr.fr hF (fun k hk => h.d k (.inl hk)), ⟨plan_set h.pl.box hl, h.pl.map.fr hF (fun (e : lm = pb) => hpl e.symm), fun j v hj => hF.cell (h.pl.g j v hj) h.pl.d1, fun j v hj => hF.cell (h.pl.y j v hj) h.pl.d2, h.pl.n1, h.pl.n2, h.pl.n3, h.pl.n4, Nat.lt_of_lt_of_le h.pl.n5 hF.size, Nat.lt_of_lt_of_le h.pl.n6 hF.size, h.pl.d1, h.pl.d2, h.pl.d3, h.pl.d4, h.pl.yc⟩, h.d⟩
theorem LyIn.pm (h : LyIn n w db mb cb fb wb pb lm gb gc yb yc A acts l x tn lf) : pb ≠ lm := fun e => by
  obtain ⟨D, ⟨es, clock, hb, -⟩, -⟩ := h.pl.map
  have := h.pl.box
  rw [e, hb] at this
  cases this
end
def lcs0 : List Int := List.replicate 10 0

def lcs1 : List Int := lcs0.set 2 1
def lcs2 : List Int := lcs1.set 3 1
def lcs3 : List Int := lcs2.set 4 1
def lfB : List Int := lfA.set 3 2
def tnB : List Int := tnA.set 0 3
theorem wb2_calls {n : Nat} {w : World} {db mb cb fb wb pb lm gb gc yb yc : Nat} {A : Nat → Prop} {acts : Nat} {tn lf : List Int} (h : LyIn n w db mb cb fb wb pb lm gb gc yb yc A acts lcs0 1020 tn lf) (ha : acts < 10) :
    Calls Tryd.prog 66 #[.pointer (some ⟨wb, 0, none⟩), .slice (some ⟨yb, 0, none⟩) 64 yc, .func (.func 67) #[] #[]] w fun e w' => e = .returned (.int .i64 2) ∧ ∃ A', LyIn n w' db mb cb fb wb pb lm gb gc yb yc A' (acts + 1) lcs1 1016 tn lf ∧ Fr (WrS A cb fb) w w' ∧ Gr7 w A A' := by
  refine (writeb_calls h.wr ha 2 (.inl ⟨rfl, rfl⟩) (by decide) yb 0 yc data1 (by simp [bys, data1_len]) (fun w' hF => fun j v hj => hF.cell (h.pl.y j v hj) (h.off _ (.inr (.inr (.inr rfl)))))).mono ?_
  rintro e w' ⟨rfl, A', h1, h2, h3⟩
  exact ⟨rfl, A', h.wrote h1 h2 h3, h2, h3⟩
theorem wn_calls {n : Nat} {w : World} {db mb cb fb wb pb lm gb gc yb yc : Nat} {A : Nat → Prop} {acts : Nat} {tn lf l : List Int} {x : Int} (h : LyIn n w db mb cb fb wb pb lm gb gc yb yc A acts l x tn lf) (ha : acts < 10) (k : Nat) (hk : k = 2 ∧ x = 1020 ∨ k = 3 ∧ x = 1016 ∨ k = 4 ∧ x = 1008) (hc : l[k]? = some 0) (nl : List Int) (hn : nl = lfB ∨ nl = tnB) :
    Calls Tryd.prog 68 #[.pointer (some ⟨wb, 0, none⟩), .agg (nds nl).toArray, .func (.func 69) #[] #[]] w fun e w' => e = .returned (.int .i64 (k : Int)) ∧ ∃ A', LyIn n w' db mb cb fb wb pb lm gb gc yb yc A' (acts + 1) (l.set k 1) (x - (2 ^ k : Nat)) tn lf ∧ Fr (WrS A cb fb) w w' ∧ Gr7 w A A' := by
  refine (writen_calls h.wr ha k hk hc nl (by rcases hn with rfl | rfl <;> rfl) (by rcases hn with rfl | rfl <;> decide)).mono ?_
  rintro e w' ⟨rfl, A', h1, h2, h3⟩
  exact ⟨rfl, A', h.wrote h1 h2 h3, h2, h3⟩
theorem wn3_calls {n : Nat} {w : World} {db mb cb fb wb pb lm gb gc yb yc : Nat} {A : Nat → Prop} {acts : Nat} {tn lf : List Int} (h : LyIn n w db mb cb fb wb pb lm gb gc yb yc A acts lcs1 1016 tn lf) (ha : acts < 10) :
    Calls Tryd.prog 68 #[.pointer (some ⟨wb, 0, none⟩), .agg (nds lfB).toArray, .func (.func 69) #[] #[]] w fun e w' => e = .returned (.int .i64 3) ∧ ∃ A', LyIn n w' db mb cb fb wb pb lm gb gc yb yc A' (acts + 1) lcs2 1008 tn lf ∧ Fr (WrS A cb fb) w w' ∧ Gr7 w A A' :=
  wn_calls h ha 3 (.inr (.inl ⟨rfl, rfl⟩)) (by decide) lfB (.inl rfl)
theorem wn4_calls {n : Nat} {w : World} {db mb cb fb wb pb lm gb gc yb yc : Nat} {A : Nat → Prop} {acts : Nat} {tn lf : List Int} (h : LyIn n w db mb cb fb wb pb lm gb gc yb yc A acts lcs2 1008 tn lf) (ha : acts < 10) :
    Calls Tryd.prog 68 #[.pointer (some ⟨wb, 0, none⟩), .agg (nds tnB).toArray, .func (.func 69) #[] #[]] w fun e w' => e = .returned (.int .i64 4) ∧ ∃ A', LyIn n w' db mb cb fb wb pb lm gb gc yb yc A' (acts + 1) lcs3 992 tn lf ∧ Fr (WrS A cb fb) w w' ∧ Gr7 w A A' :=
  wn_calls h ha 4 (.inr (.inr ⟨rfl, rfl⟩)) (by decide) tnB (.inr rfl)
theorem f1_upd (l l' : List Int) : upd (f1 l) 0 (some (.agg (nds l').toArray)) = f1 l' := by
  funext j
  unfold f1 upd
  split <;> rfl
theorem look1 {w : World} {lm : Nat} {l : List Int} (h : MapAt Tryd.prog 3 w lm 1 (f1 l)) : (Instr.lookup 127 (.map (some lm)) (.int .i64 0) true).run Tryd.prog w = .ok (.tuple #[.agg (nds l).toArray, .bool true]) w := by
  have hz : ∀ w : World, (zeroValue 99).run Tryd.prog w = .ok (.agg (nds nd0).toArray) w := fun _ => by kernel_rfl
  have := (h.look Tryd.underlying3 Tryd.underlying127 (hz _) 0 (by decide)).1
  rw [f1_at] at this
  exact this
theorem look0 {w : World} {lm : Nat} {l : List Int} (h : MapAt Tryd.prog 3 w lm 1 (f1 l)) (i : Int) (hi : i = 1 ∨ i = 2 ∨ i = 3) : (Instr.lookup 127 (.map (some lm)) (.int .i64 i) true).run Tryd.prog w = .ok (.tuple #[.agg (nds nd0).toArray, .bool false]) w := by
  have hz : ∀ w : World, (zeroValue 99).run Tryd.prog w = .ok (.agg (nds nd0).toArray) w := fun _ => by kernel_rfl
  have := (h.look Tryd.underlying3 Tryd.underlying127 (hz _) i (by omega)).1
  have e : f1 l i = none := upd_ne _ _ (by omega)
  rw [e] at this
  exact this
def LyS (A : Nat → Prop) (cb fb pb lm : Nat) : Nat → Prop := fun k => WrS A cb fb k ∨ k = pb ∨ k = lm
theorem LyS.then {A A' : Nat → Prop} {cb fb pb lm : Nat} {w w' w'' : World} (h : Fr (LyS A cb fb pb lm) w w') (k : Fr (LyS A' cb fb pb lm) w' w'') (g : Gr7 w A A') : Fr (LyS A cb fb pb lm) w w'' := h.trans' k (fun i hi hs => by
  rcases hs with (hs | hs) | hs
  · rcases g i hs with e | e
    · exact .inl (.inl e)
    · omega
  · exact .inl (.inr hs)
  · exact .inr hs)

theorem plan33 {w : World} {pb lm : Nat} {pv : Value} {tn : List Int} {old : Int} {sm : Bool} (h : w.heap[pb]? = some (.cells (PlC pv tn lm old sm).toArray 129 (0, 0))) (hl : tn.length = 32) : w.cell? ⟨pb, 33, none⟩ = some (.map (some lm)) := by
  refine heap_cell h ?_
  rw [List.getElem?_toArray, PlC, List.getElem?_cons_succ, List.getElem?_append_right (by rw [nds_len, hl]; omega), nds_len, hl]
  rfl
theorem plan35 {w : World} {pb lm : Nat} {pv : Value} {tn : List Int} {old : Int} {sm : Bool} (h : w.heap[pb]? = some (.cells (PlC pv tn lm old sm).toArray 129 (0, 0))) (hl : tn.length = 32) : w.cell? ⟨pb, 35, none⟩ = some (.bool sm) := by
  refine heap_cell h ?_
  rw [List.getElem?_toArray, PlC, List.getElem?_cons_succ, List.getElem?_append_right (by rw [nds_len, hl]; omega), nds_len, hl]
  rfl
/-- Where the ways meet. -/
def LyM (n : Nat) (w0 w : World) (db mb cb fb wb pb lm gb gc yb yc : Nat) (A : Nat → Prop) (acts : Nat) (l : List Int) (x : Int) (tn lf : List Int) : Prop :=
  ∃ A', LyIn n w db mb cb fb wb pb lm gb gc yb yc A' acts l x tn lf ∧ Fr (LyS A cb fb pb lm) w0.drew w ∧ Gr7 w0.drew A A'
theorem wp_store_nd7 {o : Oper} {a : Act} {w : World} {K : Act → World → Prop} {Q : Exit → Act → World → Prop} (x y : Operand) (ho : o.op = .store 99 x y)
    (b off : Nat) (l : List Int) (hx : a.eval x = .pointer (some ⟨b, off, none⟩)) (hy : a.eval y = .agg (nds l).toArray) (hl : l.length = 32) (ht : w.there b off 32)
    (hK : K (a.put o.dst undef) (w.setCells b off (nds l))) : Oper.wp Tryd.prog o a w K Q := by
  have hr := run_storeAt_mid (P := Tryd.prog) w b off 99 (nds l).toArray (by simpa [nds_len, hl] using ht) (by rw [size_nd, List.size_toArray, nds_len, hl]) (all_oneCell_toArray (nds_one l))
  unfold Oper.wp
  simp only [execOp, ho, hx, hy, Sem.run_bind, hr, Result.andThen]
  exact hK

theorem lfA_len : lfA.length = 32 := by decide
theorem lfB_len : lfB.length = 32 := by decide
theorem tnA_len : tnA.length = 32 := by decide
theorem tnB_len : tnB.length = 32 := by decide
theorem swi_leaf (w1 : World) : Calls Tryd.prog 60 #[.agg (nds lfA).toArray, .int .i64 3, .int .i64 2] w1 fun e w' => e = .returned (.agg (nds lfB).toArray) ∧ Fr No w1 w' := swith_calls lfA rfl 3 (by omega) 2 w1
theorem swi_top (w1 : World) : Calls Tryd.prog 60 #[.agg (nds tnA).toArray, .int .i64 0, .int .i64 3] w1 fun e w' => e = .returned (.agg (nds tnB).toArray) ∧ Fr No w1 w' := swith_calls tnA rfl 0 (by omega) 3 w1
theorem emp_top {w' : World} {pb lm gb gc : Nat} (h : w'.heap[pb]? = some (.cells (PlC (.slice (some ⟨gb, 0, none⟩) 1 gc) tnB lm 0 false).toArray 129 (0, 0))) : Calls Tryd.prog 61 #[.pointer (some ⟨pb, 0, none⟩)] w' fun e w'' => e = .returned (.bool false) ∧ w' = w'' := empty_calls h (.inr rfl)
theorem nodes_same {l l' : List Int} (hl : l.length = 32) (hl' : l'.length = 32) : (nds l).length = (nds l').length := by rw [nds_len, nds_len, hl, hl']
attribute [local irreducible] nd0 lfA lfB tnA tnB lcs0 lcs1 lcs2 lcs3
set_option maxHeartbeats 8000000 in
set_option maxRecDepth 1000000 in
theorem slay_calls {n : Nat} {w : World} {db mb cb fb wb pb lm gb gc yb yc : Nat} {A : Nat → Prop} {acts : Nat} (h : LyIn n w db mb cb fb wb pb lm gb gc yb yc A acts lcs0 1020 tnA lfA) (ha : acts < 8) :
    Calls Tryd.prog 48 #[.pointer (some ⟨pb, 0, none⟩), .pointer (some ⟨wb, 0, none⟩)] w fun e w' => e = .returned (.int .i64 4) ∧ Fr (LyS A cb fb pb lm) w w' := by
  have hz : ∀ w : World, (zeroValue 99).run Tryd.prog w = .ok (.agg (nds nd0).toArray) w := fun _ => by kernel_rfl
  have H := Lib.hid h
  have HPA := Lib.hid path3_calls
  have k35 : w.cell? ⟨pb, 35, none⟩ = some (.bool false) := plan35 h.pl.box tnA_len
  have k0 : w.cell? ⟨pb, 0, none⟩ = some (.slice (some ⟨gb, 0, none⟩) 1 gc) := heap_cell (o := 0) h.pl.box rfl
  have g0 : w.cell? ⟨gb, 0, none⟩ = some (.int .i64 3) := by have := h.pl.g 0 _ rfl; simpa using this
  have g1 : w.cell? ⟨gb, 1, none⟩ = some (.slice (some ⟨yb, 0, none⟩) 64 yc) := by have := h.pl.g 1 _ rfl; simpa using this
  have hpm := h.pm
  clear h
  go_enter Tryd.func48, Tryd.ntmps48
  go_wp2_with fail
  refine wp_loop_rounds 2 ?_
  rw [rounds_succ]
  go_wp2_with fail
  refine (HPA.out _).mono ?_
  rintro e w1 ⟨rfl, rfl⟩
  have hFb : Fr No w (w.alloc (Obj.cells #[.int .i64 3, .slice (some ⟨yb, 0, none⟩) 64 yc] 32)) := (Fr.refl No w).alloc _
  have HWB := Lib.hid (wb2_calls (H.out.fr0 hFb) (by omega))
  have HFb := Lib.hid hFb
  clear hFb
  go_wp2_with fail
  refine HWB.out.mono ?_
  rintro e w2 ⟨rfl, A2, h2, hF2, hG2⟩
  have H2 := Lib.hid h2
  have HF2 : RowKit.Hid (Fr (LyS A cb fb pb lm) w w2) := Lib.hid ((HFb.out.no).trans (hF2.mono (fun k _ hk => .inl hk)))
  have HG2 : RowKit.Hid (Gr7 w A A2) := Lib.hid (fun j hj => (hG2 j hj).imp id (fun h => Nat.le_trans HFb.out.size h))
  clear h2 hF2 hG2 k35 k0 g0 g1 HWB HFb
  have k33 : w2.drew.cell? ⟨pb, 33, none⟩ = some (.map (some lm)) := plan33 (w := w2) H2.out.pl.box tnA_len
  have hlk : ∀ w3 : World, MapAt Tryd.prog 3 w3 lm 1 (f1 lfA) → (Instr.lookup 127 (.map (some lm)) (.int .i64 0) false).run Tryd.prog w3 = .ok (.agg (nds lfA).toArray) w3 := fun w3 hm => by
    have := (hm.look Tryd.underlying3 Tryd.underlying127 (hz _) 0 (by decide)).2
    rw [f1_at] at this
    exact this
  have hlk2 := hlk w2.drew (H2.out.pl.map.fr (Fr.refl No w2).drew (fun h => h))
  have HWI : RowKit.Hid (∀ w1 : World, Calls Tryd.prog 60 #[.agg (nds lfA).toArray, .int .i64 3, .int .i64 2] w1 fun e w' => e = .returned (.agg (nds lfB).toArray) ∧ Fr No w1 w') := Lib.hid swi_leaf
  clear hlk
  go_upto_region 8 with fail
  refine wp_region_held_drew (S := (fun w' => w'.cell? ⟨pb, 33, none⟩ = some (.map (some lm)))) (by kernel_rfl) k33 (fun hS0 => ?_)
  refine take_at7 (i := 0) (d := some 42) (v := ?_) rfl rfl (by kernel_rfl) (by kernel_rfl) (by kernel_rfl) (fun _ _ _ h => h) (Or.inl ⟨by rfl, ?_⟩) (by assumption) ?_
  rotate_left
  · intro w hSw; go_simp; try (with_reducible rfl)
  try simp only [Act.put, List.setIfInBounds_toArray, List.set_cons_zero, List.set_cons_succ]
  refine take_at7 (i := 1) (d := some 43) (v := ?_) rfl rfl (by kernel_rfl) (by kernel_rfl) (by kernel_rfl) (fun _ _ _ h => h) (Or.inl ⟨by rfl, ?_⟩) (by assumption) ?_
  rotate_left
  · intro w hSw; go_simp; try (with_reducible rfl)
  try simp only [Act.put, List.setIfInBounds_toArray, List.set_cons_zero, List.set_cons_succ]
  refine take_at7 (i := 2) (d := some 44) (v := ?_) rfl rfl (by kernel_rfl) (by kernel_rfl) (by kernel_rfl) (fun _ _ _ h => h) (Or.inl ⟨by rfl, ?_⟩) (by assumption) ?_
  rotate_left
  · intro w hSw; go_simp; try (with_reducible rfl)
  try simp only [Act.put, List.setIfInBounds_toArray, List.set_cons_zero, List.set_cons_succ]
  refine take_at7 (i := 3) (d := some 45) (v := ?_) rfl rfl (by kernel_rfl) (by kernel_rfl) (by kernel_rfl) (fun _ _ _ h => h) (Or.inl ⟨by rfl, ?_⟩) (by assumption) ?_
  rotate_left
  · intro w hSw; go_simp; try (with_reducible rfl)
  try simp only [Act.put, List.setIfInBounds_toArray, List.set_cons_zero, List.set_cons_succ]
  refine take_at7 (i := 4) (d := some 46) (v := ?_) rfl rfl (by kernel_rfl) (by kernel_rfl) (by kernel_rfl) (fun _ _ _ h => h) (Or.inl ⟨by rfl, ?_⟩) (by assumption) ?_
  rotate_left
  · intro w hSw; go_simp; try (with_reducible rfl)
  try simp only [Act.put, List.setIfInBounds_toArray, List.set_cons_zero, List.set_cons_succ]
  refine take_at7 (i := 5) (d := some 47) (v := ?_) rfl rfl (by kernel_rfl) (by kernel_rfl) (by kernel_rfl) (fun _ _ _ h => h) (Or.inl ⟨by rfl, ?_⟩) (by assumption) ?_
  rotate_left
  · intro w hSw; go_simp; try (with_reducible rfl)
  try simp only [Act.put, List.setIfInBounds_toArray, List.set_cons_zero, List.set_cons_succ]
  refine take_at7 (i := 6) (d := some 48) (v := ?_) rfl rfl (by kernel_rfl) (by kernel_rfl) (by kernel_rfl) (fun _ _ _ h => h) (Or.inl ⟨by rfl, ?_⟩) (by assumption) ?_
  rotate_left
  · intro w hSw; go_simp; try (with_reducible rfl)
  try simp only [Act.put, List.setIfInBounds_toArray, List.set_cons_zero, List.set_cons_succ]
  refine take_at7 (i := 7) (d := some 49) (v := ?_) rfl rfl (by kernel_rfl) (by kernel_rfl) (by kernel_rfl) (fun _ _ _ h => h) (Or.inl ⟨by rfl, ?_⟩) (by assumption) ?_
  rotate_left
  · intro w hSw; go_simp; try (with_reducible rfl)
  try simp only [Act.put, List.setIfInBounds_toArray, List.set_cons_zero, List.set_cons_succ]
  refine take_at7 (i := 8) (d := some 50) (v := ?_) rfl rfl (by kernel_rfl) (by kernel_rfl) (by kernel_rfl) (fun _ _ _ h => h) (Or.inl ⟨by rfl, ?_⟩) (by assumption) ?_
  rotate_left
  · intro w hSw; go_simp; try (with_reducible rfl)
  try simp only [Act.put, List.setIfInBounds_toArray, List.set_cons_zero, List.set_cons_succ]
  refine take_at7 (i := 9) (d := some 51) (v := ?_) rfl rfl (by kernel_rfl) (by kernel_rfl) (by kernel_rfl) (fun _ _ _ h => h) (Or.inl ⟨by rfl, ?_⟩) (by assumption) ?_
  rotate_left
  · intro w hSw; go_simp; try (with_reducible rfl)
  try simp only [Act.put, List.setIfInBounds_toArray, List.set_cons_zero, List.set_cons_succ]
  refine take_at7 (i := 11) (d := some 53) (v := ?_) rfl rfl (by kernel_rfl) (by kernel_rfl) (by kernel_rfl) (fun _ _ _ h => h) (Or.inl ⟨by rfl, ?_⟩) (by assumption) ?_
  rotate_left
  · intro w hSw; go_simp; try (with_reducible rfl)
  try simp only [Act.put, List.setIfInBounds_toArray, List.set_cons_zero, List.set_cons_succ]
  refine take_at7 (i := 12) (d := some 54) (v := ?_) rfl rfl (by kernel_rfl) (by kernel_rfl) (by kernel_rfl) (fun _ _ _ h => h) (Or.inl ⟨by rfl, ?_⟩) (by assumption) ?_
  rotate_left
  · intro w hSw; go_simp; try (with_reducible rfl)
  try simp only [Act.put, List.setIfInBounds_toArray, List.set_cons_zero, List.set_cons_succ]
  refine one_H7 (i := 10) (d := some 52) rfl rfl rfl (by kernel_rfl) (fun K hK => ?_)
  go_simp
  refine hK.out _ _ k33 (fun hHeld => ?_)
  clear hK K
  try simp only [Act.put, List.setIfInBounds_toArray, List.set_cons_zero, List.set_cons_succ]
  refine one_H7 (i := 13) (d := some 55) rfl rfl rfl (by kernel_rfl) (fun K hK => ?_)
  go_simp
  (go_at_call 60; ((with_reducible refine (HWI.out _).mono ?_); rintro e w3 ⟨rfl, hF3⟩))
  refine hK.out _ _ (hF3.cell k33 (fun h => h)) (fun hHeld => ?_)
  clear hK K
  try simp only [Act.put, List.setIfInBounds_toArray, List.set_cons_zero, List.set_cons_succ]
  have hF23 : Fr No w2 w3 := ((Fr.refl No w2).drew).trans hF3
  refine one_H7 (i := 14) (d := none) rfl rfl rfl (by kernel_rfl) (fun K hK => ?_)
  refine (wp_map_put7 (.tmp 45) (.tmp 46) (.tmp 55) 127 rfl rfl (H2.out.pl.map.fr hF23 (fun h => h)) Tryd.underlying3 Tryd.underlying127 (by unfold maxLen; omega) 0 (by omega) (.agg (nds lfB).toArray) rfl rfl ?_)
  intro w4 hmap4 hF4
  refine hK.out _ _ (hF4.cell (hF3.cell k33 (fun h => h)) (fun (e : pb = lm) => hpm e)) (fun hHeld => ?_)
  clear hK K
  try simp only [Act.put, List.setIfInBounds_toArray, List.set_cons_zero, List.set_cons_succ]
  refine wpAnyH_done (by kernel_rfl) ?_ _
  have hF24 : Fr (fun k => k = lm) w2 w4 := hF23.no.trans hF4
  have H4 : RowKit.Hid (LyIn n w4 db mb cb fb wb pb lm gb gc yb yc A2 (acts + 1) lcs1 1016 tnA lfB) := Lib.hid (H2.out.mapped (by rw [← f1_upd lfA lfB]; simpa [f1_at] using hmap4) hF24 hpm)
  have HF4 := Lib.hid (LyS.then HF2.out (hF24.mono (T := LyS A2 cb fb pb lm) (fun k _ e => .inr (.inr e))) HG2.out)
  have HS4 : RowKit.Hid (w.heap.size ≤ w4.heap.size) := Lib.hid HF4.out.size
  have k33b : w4.cell? ⟨pb, 33, none⟩ = some (.map (some lm)) := plan33 H4.out.pl.box tnA_len
  have hlk4 := look1 H4.out.pl.map
  have HLB : RowKit.Hid (lfB.length = 32) := Lib.hid lfB_len
  have HN3 : RowKit.Hid (∀ (w' : World) (A' : Nat → Prop), LyIn n w' db mb cb fb wb pb lm gb gc yb yc A' (acts + 1) lcs1 1016 tnA lfB → Calls Tryd.prog 68 #[.pointer (some ⟨wb, 0, none⟩), .agg (nds lfB).toArray, .func (.func 69) #[] #[]] w' fun e w'' => e = .returned (.int .i64 3) ∧ ∃ A'', LyIn n w'' db mb cb fb wb pb lm gb gc yb yc A'' (acts + 2) lcs2 1008 tnA lfB ∧ Fr (WrS A' cb fb) w' w'' ∧ Gr7 w' A' A'') := Lib.hid (fun w' A' h => wn3_calls h (by omega))
  have HN4 : RowKit.Hid (∀ (w' : World) (A' : Nat → Prop), LyIn n w' db mb cb fb wb pb lm gb gc yb yc A' (acts + 2) lcs2 1008 tnB lfB → Calls Tryd.prog 68 #[.pointer (some ⟨wb, 0, none⟩), .agg (nds tnB).toArray, .func (.func 69) #[] #[]] w' fun e w'' => e = .returned (.int .i64 4) ∧ ∃ A'', LyIn n w'' db mb cb fb wb pb lm gb gc yb yc A'' (acts + 3) lcs3 992 tnB lfB ∧ Fr (WrS A' cb fb) w' w'' ∧ Gr7 w' A' A'') := Lib.hid (fun w' A' h => wn4_calls h (by omega))
  have HWT : RowKit.Hid (∀ w1 : World, Calls Tryd.prog 60 #[.agg (nds tnA).toArray, .int .i64 0, .int .i64 3] w1 fun e w' => e = .returned (.agg (nds tnB).toArray) ∧ Fr No w1 w') := Lib.hid swi_top
  have HEM : RowKit.Hid (∀ (w' : World), w'.heap[pb]? = some (.cells (PlC (.slice (some ⟨gb, 0, none⟩) 1 gc) tnB lm 0 false).toArray 129 (0, 0)) → Calls Tryd.prog 61 #[.pointer (some ⟨pb, 0, none⟩)] w' fun e w'' => e = .returned (.bool false) ∧ w' = w'') := Lib.hid (fun w' h => emp_top h)
  have HTA : RowKit.Hid (tnA.length = 32) := Lib.hid tnA_len
  have HTB : RowKit.Hid (tnB.length = 32) := Lib.hid tnB_len
  generalize lfB = lf at *
  generalize tnA = ta at *
  generalize tnB = tb at *
  have HBN := Lib.hid (heap_new w4 (Obj.cells (nds nd0).toArray 99))
  have HNN := Lib.hid (heap_nd HBN.out nd0_len)
  clear hF24 hF23 hF3 hF4 hmap4 hHeld hS0 hlk2 k33
  go_wp2_with fail
  rw [rounds_succ]
  go_wp2_with fail
  refine wp_loop_rounds 5 ?_
  rw [rounds_succ]
  go_upto_region 15 with (first
    | (refine alloc_nd rfl rfl ?_)
    | (refine store_nd rfl _ _ rfl w4.heap.size 0 lf rfl rfl HLB.out HNN.out.2.2 ?_; intro hF5; have HB5 := Lib.hid (heap_setCells7 HBN.out (nds lf) (nodes_same nd0_len HLB.out)); have HF5 := Lib.hid (((Fr.refl No w4).alloc (Obj.cells (nds nd0).toArray 99)).trans' hF5 (fun i hi (e : i = _) => by omega)); clear hF5)
    | fail "arm")
  generalize World.setCells (w4.alloc (Obj.cells (nds nd0).toArray 99)) w4.heap.size 0 (nds lf) = W5 at *
  have H5 := Lib.hid ((H4.out.fr0 HF5.out).fr0 (Fr.refl No W5).drew)
  have HT5 : RowKit.Hid (W5.drew.rangeAt pb 1 (nds ta)) := Lib.hid (fun j v hj => (plan_nd H5.out.pl.box HTA.out).2.1 j v hj)
  have HL5 : RowKit.Hid (W5.drew.rangeAt w4.heap.size 0 (nds lf)) := Lib.hid (fun j v hj => by rw [Nat.zero_add]; exact heap_cell (w := W5) HB5.out (by simpa using hj))
  have HSA := Lib.hid (show (Tryd.prog.info? 99).map (·.size) = some (nds ta).length by rw [size_nd, nds_len, HTA.out])
  have HSB := Lib.hid (show (Tryd.prog.info? 99).map (·.size) = some (nds lf).length by rw [size_nd, nds_len, HLB.out])
  refine wp_region_any (by kernel_rfl) ?_
  change wpAny _ _ _ _ _ _ _ (World.drew _)
  refine take_any7 (i := 0) (d := some 70) (v := ?_) rfl rfl (by kernel_rfl) (by kernel_rfl) (by kernel_rfl) (fun _ _ _ h => h) (Or.inl ⟨by rfl, ?_⟩) ?_
  rotate_left
  · intro w; go_simp; try (with_reducible rfl)
  try simp only [Act.put, List.setIfInBounds_toArray, List.set_cons_zero, List.set_cons_succ]
  refine take_any7 (i := 1) (d := some 71) (v := ?_) rfl rfl (by kernel_rfl) (by kernel_rfl) (by kernel_rfl) (fun _ _ _ h => h) (Or.inl ⟨by rfl, ?_⟩) ?_
  rotate_left
  · intro w; go_simp; try (with_reducible rfl)
  try simp only [Act.put, List.setIfInBounds_toArray, List.set_cons_zero, List.set_cons_succ]
  refine take_any7 (i := 2) (d := some 72) (v := ?_) rfl rfl (by kernel_rfl) (by kernel_rfl) (by kernel_rfl) (fun _ _ _ h => h) (Or.inl ⟨by rfl, ?_⟩) ?_
  rotate_left
  · intro w; go_simp; try (with_reducible rfl)
  try simp only [Act.put, List.setIfInBounds_toArray, List.set_cons_zero, List.set_cons_succ]
  refine take_any7 (i := 3) (d := some 73) (v := ?_) rfl rfl (by kernel_rfl) (by kernel_rfl) (by kernel_rfl) (fun _ _ _ h => h) (Or.inl ⟨by rfl, ?_⟩) ?_
  rotate_left
  · intro w; go_simp; try (with_reducible rfl)
  try simp only [Act.put, List.setIfInBounds_toArray, List.set_cons_zero, List.set_cons_succ]
  refine take_any7 (i := 5) (d := some 75) (v := ?_) rfl rfl (by kernel_rfl) (by kernel_rfl) (by kernel_rfl) (fun _ _ _ h => h) (Or.inl ⟨by rfl, ?_⟩) ?_
  rotate_left
  · intro w; go_simp; try (with_reducible rfl)
  try simp only [Act.put, List.setIfInBounds_toArray, List.set_cons_zero, List.set_cons_succ]
  refine take_any7 (i := 6) (d := some 76) (v := ?_) rfl rfl (by kernel_rfl) (by kernel_rfl) (by kernel_rfl) (fun _ _ _ h => h) (Or.inl ⟨by rfl, ?_⟩) ?_
  rotate_left
  · intro w; go_simp; try (with_reducible rfl)
  try simp only [Act.put, List.setIfInBounds_toArray, List.set_cons_zero, List.set_cons_succ]
  refine wpAny_all (rs := [4, 7]) (by kernel_rfl) (by simp) ?_
  intro i hi
  simp only [List.mem_cons, List.not_mem_nil, or_false] at hi
  rcases hi with rfl | rfl
  · refine load_any7 (d := some 74) (v := .agg (nds ta).toArray) (S := fun w' => w'.rangeAt pb 1 (nds ta)) rfl rfl (yieldsIf_load_mid (by rfl) _ _ rfl pb 1 rfl (nds ta) _ (fun _ h => h) Tryd.underlying99 rfl HSA.out) HT5.out ?_
    try simp only [Act.put, List.setIfInBounds_toArray, List.set_cons_zero, List.set_cons_succ]
    refine wpAny_all (rs := [7]) (by kernel_rfl) (by simp) ?_
    intro i hi
    simp only [List.mem_cons, List.not_mem_nil, or_false] at hi
    subst hi
    refine load_any7 (d := some 77) (v := .agg (nds lf).toArray) (S := fun w' => w'.rangeAt w4.heap.size 0 (nds lf)) rfl rfl (yieldsIf_load_mid (by rfl) _ _ rfl w4.heap.size 0 rfl (nds lf) _ (fun _ h => h) Tryd.underlying99 rfl HSB.out) HL5.out ?_
    try simp only [Act.put, List.setIfInBounds_toArray, List.set_cons_zero, List.set_cons_succ]
    refine wpAny_all (rs := [8]) (by kernel_rfl) (by simp) ?_
    intro i hi
    simp only [List.mem_cons, List.not_mem_nil, or_false] at hi
    subst hi
    refine wpOp_step rfl (fun K hK => ?_)
    go_simp
    (go_at_call 68; ((with_reducible refine (HN3.out _ _ H5.out).mono ?_); rintro e w6 ⟨rfl, A6, h6, hF6, hG6⟩))
    refine hK _ _ ?_
    clear hK K
    try simp only [Act.put, List.setIfInBounds_toArray, List.set_cons_zero, List.set_cons_succ]
    have H6 := Lib.hid h6
    have HF6 := Lib.hid hF6
    have HG6 := Lib.hid hG6
    have HT6 : RowKit.Hid (w6.rangeAt pb 1 (nds ta)) := Lib.hid (fun j v hj => (plan_nd h6.pl.box HTA.out).2.1 j v hj)
    clear h6 hF6 hG6
    refine wpAny_all (rs := [9]) (by kernel_rfl) (by simp) ?_
    intro i hi
    simp only [List.mem_cons, List.not_mem_nil, or_false] at hi
    subst hi
    refine wpOp_step rfl (fun K hK => ?_)
    go_simp
    (go_at_call 60; ((with_reducible refine (HWT.out _).mono ?_); rintro e w7 ⟨rfl, hF7⟩))
    refine hK _ _ ?_
    clear hK K
    try simp only [Act.put, List.setIfInBounds_toArray, List.set_cons_zero, List.set_cons_succ]
    refine take_any7 (i := 10) (d := some 80) (v := ?_) rfl rfl (by kernel_rfl) (by kernel_rfl) (by kernel_rfl) (fun _ _ _ h => h) (Or.inl ⟨by rfl, ?_⟩) ?_
    rotate_left
    · intro w; go_simp; try (with_reducible rfl)
    try simp only [Act.put, List.setIfInBounds_toArray, List.set_cons_zero, List.set_cons_succ]
    refine take_any7 (i := 11) (d := some 81) (v := ?_) rfl rfl (by kernel_rfl) (by kernel_rfl) (by kernel_rfl) (fun _ _ _ h => h) (Or.inl ⟨by rfl, ?_⟩) ?_
    rotate_left
    · intro w; go_simp; try (with_reducible rfl)
    try simp only [Act.put, List.setIfInBounds_toArray, List.set_cons_zero, List.set_cons_succ]
    have h7 := H6.out.fr0 hF7
    refine one_any7 (i := 12) (d := none) rfl rfl rfl (by kernel_rfl) (fun K hK => ?_)
    refine wp_store_nd7 _ _ rfl pb 1 tb rfl rfl HTB.out (plan_nd h7.pl.box HTA.out).2.2 ?_
    refine hK _ _ ?_
    clear hK K
    refine wpAny_done (by kernel_rfl) ?_ _
    try simp only [Act.put, List.setIfInBounds_toArray, List.set_cons_zero, List.set_cons_succ]
    have hF8 := fr_setCells7 w7 pb 1 (nds tb)
    have h8 := h7.topped (tn' := tb) (by rw [HTA.out, HTB.out]) hpm
    generalize World.setCells w7 pb 1 (nds tb) = w8 at *
    have Hw8 := Lib.hid h8
    have HFw8 := Lib.hid (((HF6.out.mono (T := LyS A2 cb fb pb lm) (fun k _ hk => .inl hk)).trans hF7.no).trans (hF8.mono (T := LyS A2 cb fb pb lm) (fun k _ e => .inr (.inl e))))
    clear h8 hF7 hF8 h7 HF6
    go_wp2_with fail
    rw [rounds_succ]
    have k33 : w8.cell? ⟨pb, 33, none⟩ = some (.map (some lm)) := plan33 Hw8.out.pl.box HTB.out
    have hlk := look0 Hw8.out.pl.map 1 (by decide)
    have HBN := Lib.hid (heap_new w8 (Obj.cells (nds nd0).toArray 99))
    have HNN := Lib.hid (heap_nd HBN.out nd0_len)
    go_wp2_with (first
      | (refine alloc_nd rfl rfl ?_)
      | (refine store_nd rfl _ _ rfl w8.heap.size 0 nd0 rfl rfl nd0_len HNN.out.2.2 ?_; intro hF; have HQ := Lib.hid (((Fr.refl No w8).alloc (Obj.cells (nds nd0).toArray 99)).trans' hF (fun i hi (e : i = _) => by omega)); clear hF)
      | fail "arm")
    generalize World.setCells (w8.alloc (Obj.cells (nds nd0).toArray 99)) w8.heap.size 0 (nds nd0) = w9 at *
    have Hw9 := Lib.hid (Hw8.out.fr0 HQ.out)
    have HFw9 := Lib.hid (HFw8.out.trans HQ.out.no)
    clear k33 hlk HBN HNN HQ Hw8 HFw8
    rw [rounds_succ]
    have k33 : w9.cell? ⟨pb, 33, none⟩ = some (.map (some lm)) := plan33 Hw9.out.pl.box HTB.out
    have hlk := look0 Hw9.out.pl.map 2 (by decide)
    have HBN := Lib.hid (heap_new w9 (Obj.cells (nds nd0).toArray 99))
    have HNN := Lib.hid (heap_nd HBN.out nd0_len)
    go_wp2_with (first
      | (refine alloc_nd rfl rfl ?_)
      | (refine store_nd rfl _ _ rfl w9.heap.size 0 nd0 rfl rfl nd0_len HNN.out.2.2 ?_; intro hF; have HQ := Lib.hid (((Fr.refl No w9).alloc (Obj.cells (nds nd0).toArray 99)).trans' hF (fun i hi (e : i = _) => by omega)); clear hF)
      | fail "arm")
    generalize World.setCells (w9.alloc (Obj.cells (nds nd0).toArray 99)) w9.heap.size 0 (nds nd0) = w10 at *
    have Hw10 := Lib.hid (Hw9.out.fr0 HQ.out)
    have HFw10 := Lib.hid (HFw9.out.trans HQ.out.no)
    clear k33 hlk HBN HNN HQ Hw9 HFw9
    rw [rounds_succ]
    have k33 : w10.cell? ⟨pb, 33, none⟩ = some (.map (some lm)) := plan33 Hw10.out.pl.box HTB.out
    have hlk := look0 Hw10.out.pl.map 3 (by decide)
    have HBN := Lib.hid (heap_new w10 (Obj.cells (nds nd0).toArray 99))
    have HNN := Lib.hid (heap_nd HBN.out nd0_len)
    go_wp2_with (first
      | (refine alloc_nd rfl rfl ?_)
      | (refine store_nd rfl _ _ rfl w10.heap.size 0 nd0 rfl rfl nd0_len HNN.out.2.2 ?_; intro hF; have HQ := Lib.hid (((Fr.refl No w10).alloc (Obj.cells (nds nd0).toArray 99)).trans' hF (fun i hi (e : i = _) => by omega)); clear hF)
      | fail "arm")
    generalize World.setCells (w10.alloc (Obj.cells (nds nd0).toArray 99)) w10.heap.size 0 (nds nd0) = w11 at *
    have Hw11 := Lib.hid (Hw10.out.fr0 HQ.out)
    have HFw11 := Lib.hid (HFw10.out.trans HQ.out.no)
    clear k33 hlk HBN HNN HQ Hw10 HFw10
    rw [rounds_succ]
    go_wp2_with fail
    refine (HEM.out _ Hw11.out.pl.box).mono ?_
    rintro e w12 ⟨rfl, rfl⟩
    have HNT := Lib.hid (plan_nd Hw11.out.pl.box HTB.out)
    go_wp2_with (first
      | (refine load_nd rfl _ rfl pb 1 tb rfl HNT.out ?_)
      | fail "arm")
    refine (HN4.out _ _ Hw11.out).mono ?_
    rintro e w13 ⟨rfl, A13, h13, hF13, hG13⟩
    have hFa := LyS.then HFw11.out (hF13.mono (T := LyS A6 cb fb pb lm) (fun k _ hk => .inl hk)) HG6.out
    have hFb := LyS.then (HF4.out.trans HF5.out.no).drew hFa HG2.out
    have HFf := Lib.hid hFb
    clear h13 hF13 hG13 hFa hFb
    go_wp2_with fail
    go_ret
    exact ⟨rfl, HFf.out⟩
  · refine load_any7 (d := some 77) (v := .agg (nds lf).toArray) (S := fun w' => w'.rangeAt w4.heap.size 0 (nds lf)) rfl rfl (yieldsIf_load_mid (by rfl) _ _ rfl w4.heap.size 0 rfl (nds lf) _ (fun _ h => h) Tryd.underlying99 rfl HSB.out) HL5.out ?_
    try simp only [Act.put, List.setIfInBounds_toArray, List.set_cons_zero, List.set_cons_succ]
    refine wpAny_all (rs := [4, 8]) (by kernel_rfl) (by simp) ?_
    intro i hi
    simp only [List.mem_cons, List.not_mem_nil, or_false] at hi
    rcases hi with rfl | rfl
    · refine load_any7 (d := some 74) (v := .agg (nds ta).toArray) (S := fun w' => w'.rangeAt pb 1 (nds ta)) rfl rfl (yieldsIf_load_mid (by rfl) _ _ rfl pb 1 rfl (nds ta) _ (fun _ h => h) Tryd.underlying99 rfl HSA.out) HT5.out ?_
      try simp only [Act.put, List.setIfInBounds_toArray, List.set_cons_zero, List.set_cons_succ]
      refine wpAny_all (rs := [8]) (by kernel_rfl) (by simp) ?_
      intro i hi
      simp only [List.mem_cons, List.not_mem_nil, or_false] at hi
      subst hi
      refine wpOp_step rfl (fun K hK => ?_)
      go_simp
      (go_at_call 68; ((with_reducible refine (HN3.out _ _ H5.out).mono ?_); rintro e w6 ⟨rfl, A6, h6, hF6, hG6⟩))
      refine hK _ _ ?_
      clear hK K
      try simp only [Act.put, List.setIfInBounds_toArray, List.set_cons_zero, List.set_cons_succ]
      have H6 := Lib.hid h6
      have HF6 := Lib.hid hF6
      have HG6 := Lib.hid hG6
      have HT6 : RowKit.Hid (w6.rangeAt pb 1 (nds ta)) := Lib.hid (fun j v hj => (plan_nd h6.pl.box HTA.out).2.1 j v hj)
      clear h6 hF6 hG6
      refine wpAny_all (rs := [9]) (by kernel_rfl) (by simp) ?_
      intro i hi
      simp only [List.mem_cons, List.not_mem_nil, or_false] at hi
      subst hi
      refine wpOp_step rfl (fun K hK => ?_)
      go_simp
      (go_at_call 60; ((with_reducible refine (HWT.out _).mono ?_); rintro e w7 ⟨rfl, hF7⟩))
      refine hK _ _ ?_
      clear hK K
      try simp only [Act.put, List.setIfInBounds_toArray, List.set_cons_zero, List.set_cons_succ]
      refine take_any7 (i := 10) (d := some 80) (v := ?_) rfl rfl (by kernel_rfl) (by kernel_rfl) (by kernel_rfl) (fun _ _ _ h => h) (Or.inl ⟨by rfl, ?_⟩) ?_
      rotate_left
      · intro w; go_simp; try (with_reducible rfl)
      try simp only [Act.put, List.setIfInBounds_toArray, List.set_cons_zero, List.set_cons_succ]
      refine take_any7 (i := 11) (d := some 81) (v := ?_) rfl rfl (by kernel_rfl) (by kernel_rfl) (by kernel_rfl) (fun _ _ _ h => h) (Or.inl ⟨by rfl, ?_⟩) ?_
      rotate_left
      · intro w; go_simp; try (with_reducible rfl)
      try simp only [Act.put, List.setIfInBounds_toArray, List.set_cons_zero, List.set_cons_succ]
      have h7 := H6.out.fr0 hF7
      refine one_any7 (i := 12) (d := none) rfl rfl rfl (by kernel_rfl) (fun K hK => ?_)
      refine wp_store_nd7 _ _ rfl pb 1 tb rfl rfl HTB.out (plan_nd h7.pl.box HTA.out).2.2 ?_
      refine hK _ _ ?_
      clear hK K
      refine wpAny_done (by kernel_rfl) ?_ _
      try simp only [Act.put, List.setIfInBounds_toArray, List.set_cons_zero, List.set_cons_succ]
      have hF8 := fr_setCells7 w7 pb 1 (nds tb)
      have h8 := h7.topped (tn' := tb) (by rw [HTA.out, HTB.out]) hpm
      generalize World.setCells w7 pb 1 (nds tb) = w8 at *
      have Hw8 := Lib.hid h8
      have HFw8 := Lib.hid (((HF6.out.mono (T := LyS A2 cb fb pb lm) (fun k _ hk => .inl hk)).trans hF7.no).trans (hF8.mono (T := LyS A2 cb fb pb lm) (fun k _ e => .inr (.inl e))))
      clear h8 hF7 hF8 h7 HF6
      go_wp2_with fail
      rw [rounds_succ]
      have k33 : w8.cell? ⟨pb, 33, none⟩ = some (.map (some lm)) := plan33 Hw8.out.pl.box HTB.out
      have hlk := look0 Hw8.out.pl.map 1 (by decide)
      have HBN := Lib.hid (heap_new w8 (Obj.cells (nds nd0).toArray 99))
      have HNN := Lib.hid (heap_nd HBN.out nd0_len)
      go_wp2_with (first
        | (refine alloc_nd rfl rfl ?_)
        | (refine store_nd rfl _ _ rfl w8.heap.size 0 nd0 rfl rfl nd0_len HNN.out.2.2 ?_; intro hF; have HQ := Lib.hid (((Fr.refl No w8).alloc (Obj.cells (nds nd0).toArray 99)).trans' hF (fun i hi (e : i = _) => by omega)); clear hF)
        | fail "arm")
      generalize World.setCells (w8.alloc (Obj.cells (nds nd0).toArray 99)) w8.heap.size 0 (nds nd0) = w9 at *
      have Hw9 := Lib.hid (Hw8.out.fr0 HQ.out)
      have HFw9 := Lib.hid (HFw8.out.trans HQ.out.no)
      clear k33 hlk HBN HNN HQ Hw8 HFw8
      rw [rounds_succ]
      have k33 : w9.cell? ⟨pb, 33, none⟩ = some (.map (some lm)) := plan33 Hw9.out.pl.box HTB.out
      have hlk := look0 Hw9.out.pl.map 2 (by decide)
      have HBN := Lib.hid (heap_new w9 (Obj.cells (nds nd0).toArray 99))
      have HNN := Lib.hid (heap_nd HBN.out nd0_len)
      go_wp2_with (first
        | (refine alloc_nd rfl rfl ?_)
        | (refine store_nd rfl _ _ rfl w9.heap.size 0 nd0 rfl rfl nd0_len HNN.out.2.2 ?_; intro hF; have HQ := Lib.hid (((Fr.refl No w9).alloc (Obj.cells (nds nd0).toArray 99)).trans' hF (fun i hi (e : i = _) => by omega)); clear hF)
        | fail "arm")
      generalize World.setCells (w9.alloc (Obj.cells (nds nd0).toArray 99)) w9.heap.size 0 (nds nd0) = w10 at *
      have Hw10 := Lib.hid (Hw9.out.fr0 HQ.out)
      have HFw10 := Lib.hid (HFw9.out.trans HQ.out.no)
      clear k33 hlk HBN HNN HQ Hw9 HFw9
      rw [rounds_succ]
      have k33 : w10.cell? ⟨pb, 33, none⟩ = some (.map (some lm)) := plan33 Hw10.out.pl.box HTB.out
      have hlk := look0 Hw10.out.pl.map 3 (by decide)
      have HBN := Lib.hid (heap_new w10 (Obj.cells (nds nd0).toArray 99))
      have HNN := Lib.hid (heap_nd HBN.out nd0_len)
      go_wp2_with (first
        | (refine alloc_nd rfl rfl ?_)
        | (refine store_nd rfl _ _ rfl w10.heap.size 0 nd0 rfl rfl nd0_len HNN.out.2.2 ?_; intro hF; have HQ := Lib.hid (((Fr.refl No w10).alloc (Obj.cells (nds nd0).toArray 99)).trans' hF (fun i hi (e : i = _) => by omega)); clear hF)
        | fail "arm")
      generalize World.setCells (w10.alloc (Obj.cells (nds nd0).toArray 99)) w10.heap.size 0 (nds nd0) = w11 at *
      have Hw11 := Lib.hid (Hw10.out.fr0 HQ.out)
      have HFw11 := Lib.hid (HFw10.out.trans HQ.out.no)
      clear k33 hlk HBN HNN HQ Hw10 HFw10
      rw [rounds_succ]
      go_wp2_with fail
      refine (HEM.out _ Hw11.out.pl.box).mono ?_
      rintro e w12 ⟨rfl, rfl⟩
      have HNT := Lib.hid (plan_nd Hw11.out.pl.box HTB.out)
      go_wp2_with (first
        | (refine load_nd rfl _ rfl pb 1 tb rfl HNT.out ?_)
        | fail "arm")
      refine (HN4.out _ _ Hw11.out).mono ?_
      rintro e w13 ⟨rfl, A13, h13, hF13, hG13⟩
      have hFa := LyS.then HFw11.out (hF13.mono (T := LyS A6 cb fb pb lm) (fun k _ hk => .inl hk)) HG6.out
      have hFb := LyS.then (HF4.out.trans HF5.out.no).drew hFa HG2.out
      have HFf := Lib.hid hFb
      clear h13 hF13 hG13 hFa hFb
      go_wp2_with fail
      go_ret
      exact ⟨rfl, HFf.out⟩
    · refine wpOp_step rfl (fun K hK => ?_)
      go_simp
      (go_at_call 68; ((with_reducible refine (HN3.out _ _ H5.out).mono ?_); rintro e w6 ⟨rfl, A6, h6, hF6, hG6⟩))
      refine hK _ _ ?_
      clear hK K
      try simp only [Act.put, List.setIfInBounds_toArray, List.set_cons_zero, List.set_cons_succ]
      have H6 := Lib.hid h6
      have HF6 := Lib.hid hF6
      have HG6 := Lib.hid hG6
      have HT6 : RowKit.Hid (w6.rangeAt pb 1 (nds ta)) := Lib.hid (fun j v hj => (plan_nd h6.pl.box HTA.out).2.1 j v hj)
      clear h6 hF6 hG6
      refine wpAny_all (rs := [4]) (by kernel_rfl) (by simp) ?_
      intro i hi
      simp only [List.mem_cons, List.not_mem_nil, or_false] at hi
      subst hi
      refine load_any7 (d := some 74) (v := .agg (nds ta).toArray) (S := fun w' => w'.rangeAt pb 1 (nds ta)) rfl rfl (yieldsIf_load_mid (by rfl) _ _ rfl pb 1 rfl (nds ta) _ (fun _ h => h) Tryd.underlying99 rfl HSA.out) HT6.out ?_
      try simp only [Act.put, List.setIfInBounds_toArray, List.set_cons_zero, List.set_cons_succ]
      refine wpAny_all (rs := [9]) (by kernel_rfl) (by simp) ?_
      intro i hi
      simp only [List.mem_cons, List.not_mem_nil, or_false] at hi
      subst hi
      refine wpOp_step rfl (fun K hK => ?_)
      go_simp
      (go_at_call 60; ((with_reducible refine (HWT.out _).mono ?_); rintro e w7 ⟨rfl, hF7⟩))
      refine hK _ _ ?_
      clear hK K
      try simp only [Act.put, List.setIfInBounds_toArray, List.set_cons_zero, List.set_cons_succ]
      refine take_any7 (i := 10) (d := some 80) (v := ?_) rfl rfl (by kernel_rfl) (by kernel_rfl) (by kernel_rfl) (fun _ _ _ h => h) (Or.inl ⟨by rfl, ?_⟩) ?_
      rotate_left
      · intro w; go_simp; try (with_reducible rfl)
      try simp only [Act.put, List.setIfInBounds_toArray, List.set_cons_zero, List.set_cons_succ]
      refine take_any7 (i := 11) (d := some 81) (v := ?_) rfl rfl (by kernel_rfl) (by kernel_rfl) (by kernel_rfl) (fun _ _ _ h => h) (Or.inl ⟨by rfl, ?_⟩) ?_
      rotate_left
      · intro w; go_simp; try (with_reducible rfl)
      try simp only [Act.put, List.setIfInBounds_toArray, List.set_cons_zero, List.set_cons_succ]
      have h7 := H6.out.fr0 hF7
      refine one_any7 (i := 12) (d := none) rfl rfl rfl (by kernel_rfl) (fun K hK => ?_)
      refine wp_store_nd7 _ _ rfl pb 1 tb rfl rfl HTB.out (plan_nd h7.pl.box HTA.out).2.2 ?_
      refine hK _ _ ?_
      clear hK K
      refine wpAny_done (by kernel_rfl) ?_ _
      try simp only [Act.put, List.setIfInBounds_toArray, List.set_cons_zero, List.set_cons_succ]
      have hF8 := fr_setCells7 w7 pb 1 (nds tb)
      have h8 := h7.topped (tn' := tb) (by rw [HTA.out, HTB.out]) hpm
      generalize World.setCells w7 pb 1 (nds tb) = w8 at *
      have Hw8 := Lib.hid h8
      have HFw8 := Lib.hid (((HF6.out.mono (T := LyS A2 cb fb pb lm) (fun k _ hk => .inl hk)).trans hF7.no).trans (hF8.mono (T := LyS A2 cb fb pb lm) (fun k _ e => .inr (.inl e))))
      clear h8 hF7 hF8 h7 HF6
      go_wp2_with fail
      rw [rounds_succ]
      have k33 : w8.cell? ⟨pb, 33, none⟩ = some (.map (some lm)) := plan33 Hw8.out.pl.box HTB.out
      have hlk := look0 Hw8.out.pl.map 1 (by decide)
      have HBN := Lib.hid (heap_new w8 (Obj.cells (nds nd0).toArray 99))
      have HNN := Lib.hid (heap_nd HBN.out nd0_len)
      go_wp2_with (first
        | (refine alloc_nd rfl rfl ?_)
        | (refine store_nd rfl _ _ rfl w8.heap.size 0 nd0 rfl rfl nd0_len HNN.out.2.2 ?_; intro hF; have HQ := Lib.hid (((Fr.refl No w8).alloc (Obj.cells (nds nd0).toArray 99)).trans' hF (fun i hi (e : i = _) => by omega)); clear hF)
        | fail "arm")
      generalize World.setCells (w8.alloc (Obj.cells (nds nd0).toArray 99)) w8.heap.size 0 (nds nd0) = w9 at *
      have Hw9 := Lib.hid (Hw8.out.fr0 HQ.out)
      have HFw9 := Lib.hid (HFw8.out.trans HQ.out.no)
      clear k33 hlk HBN HNN HQ Hw8 HFw8
      rw [rounds_succ]
      have k33 : w9.cell? ⟨pb, 33, none⟩ = some (.map (some lm)) := plan33 Hw9.out.pl.box HTB.out
      have hlk := look0 Hw9.out.pl.map 2 (by decide)
      have HBN := Lib.hid (heap_new w9 (Obj.cells (nds nd0).toArray 99))
      have HNN := Lib.hid (heap_nd HBN.out nd0_len)
      go_wp2_with (first
        | (refine alloc_nd rfl rfl ?_)
        | (refine store_nd rfl _ _ rfl w9.heap.size 0 nd0 rfl rfl nd0_len HNN.out.2.2 ?_; intro hF; have HQ := Lib.hid (((Fr.refl No w9).alloc (Obj.cells (nds nd0).toArray 99)).trans' hF (fun i hi (e : i = _) => by omega)); clear hF)
        | fail "arm")
      generalize World.setCells (w9.alloc (Obj.cells (nds nd0).toArray 99)) w9.heap.size 0 (nds nd0) = w10 at *
      have Hw10 := Lib.hid (Hw9.out.fr0 HQ.out)
      have HFw10 := Lib.hid (HFw9.out.trans HQ.out.no)
      clear k33 hlk HBN HNN HQ Hw9 HFw9
      rw [rounds_succ]
      have k33 : w10.cell? ⟨pb, 33, none⟩ = some (.map (some lm)) := plan33 Hw10.out.pl.box HTB.out
      have hlk := look0 Hw10.out.pl.map 3 (by decide)
      have HBN := Lib.hid (heap_new w10 (Obj.cells (nds nd0).toArray 99))
      have HNN := Lib.hid (heap_nd HBN.out nd0_len)
      go_wp2_with (first
        | (refine alloc_nd rfl rfl ?_)
        | (refine store_nd rfl _ _ rfl w10.heap.size 0 nd0 rfl rfl nd0_len HNN.out.2.2 ?_; intro hF; have HQ := Lib.hid (((Fr.refl No w10).alloc (Obj.cells (nds nd0).toArray 99)).trans' hF (fun i hi (e : i = _) => by omega)); clear hF)
        | fail "arm")
      generalize World.setCells (w10.alloc (Obj.cells (nds nd0).toArray 99)) w10.heap.size 0 (nds nd0) = w11 at *
      have Hw11 := Lib.hid (Hw10.out.fr0 HQ.out)
      have HFw11 := Lib.hid (HFw10.out.trans HQ.out.no)
      clear k33 hlk HBN HNN HQ Hw10 HFw10
      rw [rounds_succ]
      go_wp2_with fail
      refine (HEM.out _ Hw11.out.pl.box).mono ?_
      rintro e w12 ⟨rfl, rfl⟩
      have HNT := Lib.hid (plan_nd Hw11.out.pl.box HTB.out)
      go_wp2_with (first
        | (refine load_nd rfl _ rfl pb 1 tb rfl HNT.out ?_)
        | fail "arm")
      refine (HN4.out _ _ Hw11.out).mono ?_
      rintro e w13 ⟨rfl, A13, h13, hF13, hG13⟩
      have hFa := LyS.then HFw11.out (hF13.mono (T := LyS A6 cb fb pb lm) (fun k _ hk => .inl hk)) HG6.out
      have hFb := LyS.then (HF4.out.trans HF5.out.no).drew hFa HG2.out
      have HFf := Lib.hid hFb
      clear h13 hF13 hG13 hFa hFb
      go_wp2_with fail
      go_ret
      exact ⟨rfl, HFf.out⟩
end Go.Proofs.YtpcikbloflpahaaDoor
