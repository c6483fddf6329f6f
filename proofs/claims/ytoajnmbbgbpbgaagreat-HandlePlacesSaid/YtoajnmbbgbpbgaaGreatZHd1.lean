/-
  Chapter 13: a handle's state.
-/
import Derived.Test.YtoajnmbbgbpbgaaGreatZFs42
import Derived.Test.YtoajnmbbgbpbgaaGreatZH
namespace Go.Proofs.YtoajnmbbgbpbgaaGreat
set_option linter.unusedVariables false
set_option linter.unusedSimpArgs false
open Go.RowKit Go.Shelf Go.Maps

def cellH (h : Int) : Int := 64 + 16 * (h - 1)
/-- A place, or the end. -/
def atF (B : List Int) (h size : Int) : Int := if 0 ≤ getF B (cellH h + 8) ∧ getF B (cellH h + 8) ≤ size then getF B (cellH h + 8) else size
/-- A handle's file, its size, the place; none: it isn't open. -/
def lookF (B : List Int) (h : Int) : Option (Int × Int × Int) :=
  if h < 1 ∨ 4 < h then none else if getF B (cellH h) < 1 ∨ 8 < getF B (cellH h) then none else if (sizeR B (getF B (cellH h) - 1)).2 ≠ 0 then none
  else some (getF B (cellH h) - 1, (sizeR B (getF B (cellH h) - 1)).1, atF B h (sizeR B (getF B (cellH h) - 1)).1)

set_option maxRecDepth 100000 in
theorem hcells_calls (h : Int) (w : World) (h1 : 1 ≤ h ∧ h ≤ 4) :
    Calls Tryz.prog 68 #[.int .i64 h] w fun e w' => e = .returned (.int .i64 (cellH h)) ∧ w = w' := by
  have w1 : IntKind.i64.wrap (h - 1) = h - 1 := IntWalk.i64_in _ (by omega)
  have w2 : IntKind.i64.wrap (16 * (h - 1)) = 16 * (h - 1) := IntWalk.i64_in _ (by omega)
  have w3 : IntKind.i64.wrap (64 + 16 * (h - 1)) = 64 + 16 * (h - 1) := IntWalk.i64_in _ (by omega)
  clear h1
  go_enter Tryz.func68, Tryz.ntmps68
  go_wp2
  go_ret
  exact ⟨rfl, rfl⟩
theorem cellH_range {h : Int} (h1 : 1 ≤ h ∧ h ≤ 4) : 64 ≤ cellH h ∧ cellH h ≤ 112 := by unfold cellH; omega

theorem results_cell_tmp {fn : Func} {p u : Tmp} {ty : TypeId} (h : fn.results = #[.cell p ty, .tmp u]) (tmps : Array Value) (P : Program) (w : World) :
    (results fn tmps).run P w =
      ((asAddr (tmps.getD p undef)).run P w).andThen fun a w₁ => ((loadVar ty a).run P w₁).andThen fun x w₂ => .ok (.tuple #[x, tmps.getD u undef]) w₂ := by
  simp only [results, h]
  simp [Sem.run_bind, Result.andThen]
theorem load_st {w : World} {b : Nat} {x y z : Value} (h0 : w.cell? ⟨b, 0, none⟩ = some x) (h1 : w.cell? ⟨b, 1, none⟩ = some y) (h2 : w.cell? ⟨b, 2, none⟩ = some z) : (loadVar 68 ⟨b, 0, none⟩).run Tryz.prog w = .ok (.agg #[x, y, z]) w :=
  run_loadVar_mid (P := Tryz.prog) w b 0 _ [x, y, z] _ (fun j v hj => by
    rw [Nat.zero_add]
    match j, hj with
    | 0, hj => cases hj; exact h0
    | 1, hj => cases hj; exact h1
    | 2, hj => cases hj; exact h2) Tryz.underlying68 rfl (by kernel_rfl)
theorem ret_st {fn : Func} {p q : Tmp} (hfn : fn.results = #[.cell p 68, .tmp q]) {Q : Ending → World → Prop} {a : Act} {w : World} {b : Nat} {x y z v1 : Value} (hp : a.tmps.getD p undef = .pointer (some ⟨b, 0, none⟩)) (hq : a.tmps.getD q undef = v1)
    (hb : w.heap[b]? = some (.cells #[x, y, z] 68 (0, 0))) (hd : a.defers = []) (hR : Q (.returned (.tuple #[.agg #[x, y, z], v1])) w) : bodyPost Tryz.prog fn Q .ret a w := by
  refine bodyPost_ret ?_ hd hR
  rw [results_cell_tmp hfn, hp, hq]
  simp only [asAddr, Sem.run_pure, Result.andThen_ok, load_st (x := x) (y := y) (z := z) (heap_cell (o := 0) hb rfl) (heap_cell (o := 1) hb rfl) (heap_cell (o := 2) hb rfl)]

def LookP (w : World) (mb : Nat) (A : Nat → Prop) (F B : List Int) (h : Int) (e : Ending) (w' : World) : Prop :=
  ∃ A' a b c, e = .returned (.tuple #[.agg #[.int .i64 a, .int .i64 b, .int .i64 c], .bool (lookF B h).isSome]) ∧ Mp w mb A F B w' A' ∧ ∀ p, lookF B h = some p → p = (a, b, c)

set_option maxHeartbeats 4000000 in
set_option maxRecDepth 1000000 in
theorem look_calls {w : World} {mb : Nat} {A : Nat → Prop} {F B : List Int} (hM : MemAt w mb A F B) (h : Int) :
    Calls Tryz.prog 37 #[.pointer (some ⟨mb, 0, none⟩), .int .i64 h] w (LookP w mb A F B h) := by
  have hFa : Fr No w (w.alloc (Obj.cells #[.int .i64 0, .int .i64 0, .int .i64 0] 68)) := (Fr.refl _ _).alloc _
  have HB4 := Lib.hid (heap_new w (Obj.cells #[.int .i64 0, .int .i64 0, .int .i64 0] 68))
  have HM0 := Lib.hid (hM.fr0 hFa)
  have HLOW := Lib.hid (show ¬ A w.heap.size from fun hA => Nat.lt_irrefl _ (hM.low _ hA))
  have HFA := Lib.hid hFa
  have HM := Lib.hid hM
  clear hFa
  by_cases hh : h < 1 ∨ 4 < h
  · have hl : lookF B h = none := by rw [lookF, if_pos hh]
    have HL := Lib.hid hl
    have hd : decide (h < 1) = true ∨ (decide (h < 1) = false ∧ decide (4 < h) = true) := by
      by_cases h1 : h < 1
      · exact .inl (decide_eq_true h1)
      · exact .inr ⟨decide_eq_false h1, decide_eq_true (by omega)⟩
    clear hM hh hl
    rcases hd with d1 | ⟨d1, d2⟩
    all_goals
      go_enter Tryz.func37, Tryz.ntmps37
      go_wp2
      refine ret_st rfl rfl rfl HB4.out rfl ?_
      exact ⟨A, 0, 0, 0, by rw [HL.out]; rfl, (Mp.refl HM.out).thenFr HFA.out, fun p e => by rw [HL.out] at e; cases e⟩
  · have d1 : decide (h < 1) = false := decide_eq_false (by omega)
    have d2 : decide (4 < h) = false := decide_eq_false (by omega)
    have hc := cellH_range (h := h) (by omega)
    have HCE := Lib.hid (fun w1 => hcells_calls h w1 (by omega))
    have HG1 := Lib.hid (fun (w1 : World) A1 (hM1 : MemAt w1 mb A1 F B) => get_calls hM1 (cellH h) (by omega))
    have HG2 := Lib.hid (fun (w1 : World) A1 (hM1 : MemAt w1 mb A1 F B) => get_calls hM1 (cellH h + 8) (by omega))
    have HSZ := Lib.hid (fun (w1 : World) A1 (hM1 : MemAt w1 mb A1 F B) => fsize_calls hM1 (getF B (cellH h) - 1))
    have hl : lookF B h = if getF B (cellH h) < 1 ∨ 8 < getF B (cellH h) then none else if (sizeR B (getF B (cellH h) - 1)).2 ≠ 0 then none
      else some (getF B (cellH h) - 1, (sizeR B (getF B (cellH h) - 1)).1, atF B h (sizeR B (getF B (cellH h) - 1)).1) := by rw [lookF, if_neg hh]
    rw [show atF B h (sizeR B (getF B (cellH h) - 1)).1 = if 0 ≤ getF B (cellH h + 8) ∧ getF B (cellH h + 8) ≤ (sizeR B (getF B (cellH h) - 1)).1 then getF B (cellH h + 8) else (sizeR B (getF B (cellH h) - 1)).1 from rfl] at hl
    have hw8 : IntKind.i64.wrap (cellH h + 8) = cellH h + 8 := IntWalk.i64_in _ (by omega)
    generalize getF B (cellH h + 8) = at_ at *
    generalize getF B (cellH h) = n at *
    generalize sizeR B (n - 1) = p at *
    obtain ⟨size, x⟩ := p
    dsimp only at hl HSZ
    have HL := Lib.hid hl
    clear hM hh hl hc
    generalize hlk : lookF B h = lk at *
    generalize cellH h = ch at *
    by_cases hn : n < 1 ∨ 8 < n
    · have HN := Lib.hid hn
      have hd : decide (n < 1) = true ∨ (decide (n < 1) = false ∧ decide (8 < n) = true) := by
        by_cases h1 : n < 1
        · exact .inl (decide_eq_true h1)
        · exact .inr ⟨decide_eq_false h1, decide_eq_true (by omega)⟩
      have HK := Lib.hid hlk
      clear hn hlk
      rcases hd with e1 | ⟨e1, e2⟩
      all_goals
        go_enter Tryz.func37, Tryz.ntmps37
        go_wp2_with fail
        refine (HCE.out _).mono ?_
        rintro e w1 ⟨rfl, rfl⟩
        go_wp2_with fail
        refine (HG1.out _ _ HM0.out).mono ?_
        rintro e w1 ⟨A1, rfl, hp⟩
        have HP := Lib.hid (Mp.pre HFA.out hp)
        have HNA : RowKit.Hid (¬ A1 w.heap.size) := Lib.hid (fun h => (hp.2.2 _ h).elim HLOW.out (fun h => by have h2 := heap_lt HB4.out; omega))
        have HB := Lib.hid (hp.2.1.heap HB4.out (fun h => HLOW.out h))
        have c0 := heap_cell (o := 0) HB.out rfl
        have c1 := heap_cell (o := 1) HB.out rfl
        have c2 := heap_cell (o := 2) HB.out rfl
        have f0 := heap_frozen (o := 0) HB.out
        have f1 := heap_frozen (o := 1) HB.out
        have f2 := heap_frozen (o := 2) HB.out
        clear hp
        go_wp2
        refine ret_st rfl rfl rfl (heap_set3' _ _ _ HB.out) rfl ?_
        have hlk : lk = none := by rw [HL.out, if_pos HN.out]
        have hF3 := fr_set3 w1 w.heap.size (.int .i64 0) (.int .i64 0) (.int .i64 0)
        refine ⟨_, 0, 0, 0, by rw [HK.out, hlk]; rfl, ⟨HP.out.1.fr hF3 (fun k e hA => by subst e; exact HNA.out hA), HP.out.2.1.trans' hF3 (fun i hi e => by omega), HP.out.2.2⟩, fun p e => by rw [HK.out, hlk] at e; cases e⟩
    · have HN := Lib.hid hn
      have e1 : decide (n < 1) = false := decide_eq_false (by omega)
      have e2 : decide (8 < n) = false := decide_eq_false (by omega)
      have hw1 : IntKind.i64.wrap (n - 1) = n - 1 := IntWalk.i64_in _ (by omega)
      have HK := Lib.hid hlk
      clear hn hlk
      go_enter Tryz.func37, Tryz.ntmps37
      go_wp2_with fail
      refine (HCE.out _).mono ?_
      rintro e w1 ⟨rfl, rfl⟩
      go_wp2_with fail
      refine (HG1.out _ _ HM0.out).mono ?_
      rintro e w1 ⟨A1, rfl, hp⟩
      have HP := Lib.hid (Mp.pre HFA.out hp)
      have HNA : RowKit.Hid (¬ A1 w.heap.size) := Lib.hid (fun h => (hp.2.2 _ h).elim HLOW.out (fun h => by have h2 := heap_lt HB4.out; omega))
      have HB := Lib.hid (hp.2.1.heap HB4.out (fun h => HLOW.out h))
      clear hp
      have HM1 := Lib.hid (HP.out.1.fr0 ((Fr.refl No w1).alloc (Obj.cells #[.int .i64 (n - 1), .int .i64 0, .int .i64 0] 68)))
      have HLT : RowKit.Hid (w.heap.size < w1.heap.size) := Lib.hid (heap_lt HB.out)
      have HB5 := Lib.hid (heap_alloc (Obj.cells #[.int .i64 (n - 1), .int .i64 0, .int .i64 0] 68) HB.out)
      have HB7 := Lib.hid (heap_new w1 (Obj.cells #[.int .i64 (n - 1), .int .i64 0, .int .i64 0] 68))
      have HF5 : RowKit.Hid (Fr No w1 (w1.alloc (Obj.cells #[.int .i64 (n - 1), .int .i64 0, .int .i64 0] 68))) := Lib.hid ((Fr.refl _ _).alloc _)
      have HNA7 : RowKit.Hid (¬ A1 w1.heap.size) := Lib.hid (fun h => Nat.lt_irrefl _ (HP.out.1.low _ h))
      go_wp2_with fail
      refine (HSZ.out _ _ HM1.out).mono ?_
      rintro e w2 ⟨A2, rfl, hp⟩
      have HP2 := Lib.hid (HP.out.trans (Mp.pre HF5.out hp))
      have HNA2 : RowKit.Hid (¬ A2 w.heap.size ∧ ¬ A2 w1.heap.size) := Lib.hid ⟨fun h => (hp.2.2 _ h).elim HNA.out (fun h => by have := HLT.out; have h2 := heap_lt HB7.out; omega), fun h => (hp.2.2 _ h).elim HNA7.out (fun h => by have h2 := heap_lt HB7.out; omega)⟩
      have HB6 := Lib.hid (hp.2.1.heap HB5.out (fun h => HNA.out h))
      have hb8 := hp.2.1.heap HB7.out (fun h => HNA7.out h)
      clear hp
      generalize hb7 : w1.heap.size = b7 at *
      generalize hb4 : w.heap.size = b4 at *
      have f1 := heap_frozen (o := 1) hb8
      have c1 := heap_cell (o := 1) hb8 rfl
      have hb9 := heap_setAt (cs := [.int .i64 (n - 1), .int .i64 0, .int .i64 0]) hb8 1 (.int .i64 size)
      have f2 := heap_frozen (o := 2) hb9
      have c2 := heap_cell (o := 2) hb9 rfl
      have hb10 := heap_setAt (cs := [.int .i64 (n - 1), .int .i64 size, .int .i64 0]) hb9 2 (.int .i64 size)
      have hFs : Fr (fun k => k = b7) w2 ((w2.setCell ⟨b7, 1, none⟩ (.int .i64 size)).setCell ⟨b7, 2, none⟩ (.int .i64 size)) := ((Fr.refl (fun k => k = b7) w2).setCell (p := ⟨b7, 1, none⟩) (fun _ => rfl) _).setCell (p := ⟨b7, 2, none⟩) (fun _ => rfl) _
      go_upto_region 9 with fail
      generalize (w2.setCell ⟨b7, 1, none⟩ (.int .i64 size)).setCell ⟨b7, 2, none⟩ (.int .i64 size) = w3 at *
      have HP3 : RowKit.Hid (Mp w mb A F B w3 A2) := Lib.hid ⟨HP2.out.1.fr hFs (fun k e hA => by subst e; exact HNA2.out.2 hA), HP2.out.2.1.trans' hFs (fun i hi e => by have := HLT.out; omega), HP2.out.2.2⟩
      have HB43 := Lib.hid (hFs.heap HB6.out (fun e => by have := HLT.out; omega))
      have HB73 := Lib.hid hb10
      clear hb8 f1 c1 hb9 f2 c2 hb10 hFs
      go_wp2_with fail
      refine (HCE.out _).mono ?_
      rintro e w4 ⟨rfl, rfl⟩
      go_wp2_with fail
      refine (HG2.out _ _ HP3.out.1).mono ?_
      rintro e w4 ⟨A4, rfl, hp⟩
      have HP4 := Lib.hid (HP3.out.trans hp)
      have HS3 : RowKit.Hid (b4 < w3.heap.size ∧ b7 < w3.heap.size) := Lib.hid ⟨heap_lt HB43.out, heap_lt HB73.out⟩
      have HNA4 : RowKit.Hid (¬ A4 b4 ∧ ¬ A4 b7) := Lib.hid ⟨fun h => (hp.2.2 _ h).elim HNA2.out.1 (fun h => by have := HS3.out; omega), fun h => (hp.2.2 _ h).elim HNA2.out.2 (fun h => by have := HS3.out; omega)⟩
      have HB44 := Lib.hid (hp.2.1.heap HB43.out (fun h => HNA2.out.1 h))
      have hb74 := hp.2.1.heap HB73.out (fun h => HNA2.out.2 h)
      have HB74 := Lib.hid hb74
      clear hp hb74
      have hres : ∀ a, a = (if 0 ≤ at_ ∧ at_ ≤ size then at_ else size) → (x == 0) = lk.isSome ∧ ∀ p, lk = some p → p = (n - 1, size, a) := by
        intro a ha
        rw [HL.out, if_neg HN.out]
        by_cases hx : x = 0
        · rw [if_neg (by omega)]
          refine ⟨by simp [hx], fun p e => ?_⟩
          cases e; rw [ha]
        · rw [if_pos hx]
          refine ⟨by simp [hx], fun p e => by cases e⟩
      have HRES := Lib.hid hres
      clear hres
      have k0 := heap_cell (o := 0) HB44.out rfl
      have k1 := heap_cell (o := 1) HB44.out rfl
      have k2 := heap_cell (o := 2) HB44.out rfl
      have g0 := heap_frozen (o := 0) HB44.out
      have g1 := heap_frozen (o := 1) HB44.out
      have g2 := heap_frozen (o := 2) HB44.out
      by_cases hat : 0 ≤ at_ ∧ at_ ≤ size
      · have q1 : decide (0 ≤ at_) = true := decide_eq_true hat.1
        have q2 : decide (at_ ≤ size) = true := decide_eq_true hat.2
        have HAT := Lib.hid hat
        clear hat
        have f2 := heap_frozen (o := 2) HB74.out
        have c2 := heap_cell (o := 2) HB74.out rfl
        have hb9 := heap_setAt (cs := [.int .i64 (n - 1), .int .i64 size, .int .i64 size]) HB74.out 2 (.int .i64 at_)
        have hFs : Fr (fun k => k = b7) w4 (w4.setCell ⟨b7, 2, none⟩ (.int .i64 at_)) := (Fr.refl (fun k => k = b7) w4).setCell (p := ⟨b7, 2, none⟩) (fun _ => rfl) _
        clear k0 k1 k2 g0 g1 g2
        go_upto_region 12 with fail
        generalize w4.setCell ⟨b7, 2, none⟩ (.int .i64 at_) = w5 at *
        have HB45 := Lib.hid (hFs.heap HB44.out (fun e => by have := HLT.out; omega))
        have k0 := heap_cell (o := 0) HB45.out rfl
        have k1 := heap_cell (o := 1) HB45.out rfl
        have k2 := heap_cell (o := 2) HB45.out rfl
        have g0 := heap_frozen (o := 0) HB45.out
        have g1 := heap_frozen (o := 1) HB45.out
        have g2 := heap_frozen (o := 2) HB45.out
        have m0 := heap_cell (o := 0) hb9 rfl
        have m1 := heap_cell (o := 1) hb9 rfl
        have m2 := heap_cell (o := 2) hb9 rfl
        have HFS := Lib.hid hFs
        clear hb9 hFs f2 c2
        go_wp2
        refine ret_st rfl rfl rfl (heap_set3' _ _ _ HB45.out) rfl ?_
        obtain ⟨r1, r2⟩ := HRES.out at_ (by rw [if_pos HAT.out])
        have hF3 := fr_set3 w5 b4 (.int .i64 (n - 1)) (.int .i64 size) (.int .i64 at_)
        have hFt := (HFS.out.mono (T := fun k => k = b4 ∨ k = b7) (fun i _ e => Or.inr e)).trans (hF3.mono (fun i _ e => Or.inl e))
        refine ⟨A4, n - 1, size, at_, by rw [HK.out, ← r1]; rfl, ⟨HP4.out.1.fr hFt (fun k e hA => ?_), HP4.out.2.1.trans' hFt (fun i hi e => by have := HLT.out; have := HP.out.2.1.size; omega), HP4.out.2.2⟩, by rw [HK.out]; exact r2⟩
        rcases e with rfl | rfl
        · exact HNA4.out.1 hA
        · exact HNA4.out.2 hA
      · have hd : decide (0 ≤ at_) = false ∨ (decide (0 ≤ at_) = true ∧ decide (at_ ≤ size) = false) := by
          by_cases h1 : 0 ≤ at_
          · exact .inr ⟨decide_eq_true h1, decide_eq_false (fun h2 => hat ⟨h1, h2⟩)⟩
          · exact .inl (decide_eq_false h1)
        have HAT := Lib.hid hat
        clear hat
        have m0 := heap_cell (o := 0) HB74.out rfl
        have m1 := heap_cell (o := 1) HB74.out rfl
        have m2 := heap_cell (o := 2) HB74.out rfl
        rcases hd with q1 | ⟨q1, q2⟩
        all_goals
          go_wp2
          refine ret_st rfl rfl rfl (heap_set3' _ _ _ HB44.out) rfl ?_
          obtain ⟨r1, r2⟩ := HRES.out size (by rw [if_neg HAT.out])
          have hF3 := fr_set3 w4 b4 (.int .i64 (n - 1)) (.int .i64 size) (.int .i64 size)
          exact ⟨A4, n - 1, size, size, by rw [HK.out, ← r1]; rfl, ⟨HP4.out.1.fr hF3 (fun k e hA => by subst e; exact HNA4.out.1 hA), HP4.out.2.1.trans' hF3 (fun i hi e => by omega), HP4.out.2.2⟩, by rw [HK.out]; exact r2⟩
end Go.Proofs.YtoajnmbbgbpbgaaGreat
