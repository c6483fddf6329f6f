/-
  What arguments read as, opened: a slice of calls.
-/
import Derived.Test.YtbjffempiaohpaaOpen4
import Derived.Test.YtbjffempiaohpaaMemZA
import Derived.Test.YtbjffempiaohpaaMemZB
namespace Go.Proofs.Ytbjffempiaohpaa
set_option linter.unusedVariables false
set_option linter.unusedSimpArgs false
open Go.RowKit Go.Deep Go.ChangeShapes Go.WideShapes

section
variable {H : Type} {enc : TypeId × Value → H} {P : Program} {W : World} {base : Nat} {spare : Nat → Bool} {held : Bool}

/-- What an opened call's parts tell. -/
def actOk (W : World) (y : ActT) : Prop := (Lit.int .i64 y.1).wf = true ∧ (Lit.int .i64 y.2.1).wf = true ∧ (Lit.int .i64 y.2.2.1).wf = true ∧
  ∃ xs : List Int, Sl W (.slice y.2.2.2.1 y.2.2.2.2.1 y.2.2.2.2.2) xs.length (bys xs) ∧ xs.length ≤ maxLen ∧ ∀ b ∈ xs, 0 ≤ b ∧ b < 256

theorem open_acts {t e tb : TypeId} {f0 f1 f2 f3 : Field} {fuel : Nat} {v : Value} {x : DataW H × List MemPlace} (ht : P.underlying t = some (.slice e)) (he : P.underlying e = some (.struct #[f0, f1, f2, f3])) (hc : P.cellsOf e = 4)
    (o0 : f0.offset = 0) (o1 : f1.offset = 1) (o2 : f2.offset = 2) (o3 : f3.offset = 3) (c0 : P.cellsOf f0.type = 1) (c1 : P.cellsOf f1.type = 1) (c2 : P.cellsOf f2.type = 1) (c3 : P.cellsOf f3.type = 1)
    (u0 : P.underlying f0.type = some (.int .i64)) (u1 : P.underlying f1.type = some (.int .i64)) (u2 : P.underlying f2.type = some (.int .i64)) (u3 : P.underlying f3.type = some (.slice tb)) (ub : P.underlying tb = some (.int .u8)) (cb : P.cellsOf tb = 1)
    (h : DataW.trod enc P W base spare held fuel t [v] = some x) : ∃ L : List ActT, Sl W v L.length (L.flatMap actCell) ∧ L.length ≤ maxLen ∧ ∀ y ∈ L, actOk W y := by
  refine sl_open actCell (actOk W) ht hc (by decide) (fun _ => rfl) (fun n cs z hl hf => ?_) h
  obtain ⟨xs, m, -, -, -, hxl, hall⟩ := DataW.trod_struct he hf
  match cs, hl with
  | [y0, y1, y2, y3], _ =>
    match xs, hxl with
    | [z0, z1, z2, z3], _ =>
      have a0 := hall 0 f0 rfl
      have a1 := hall 1 f1 rfl
      have a2 := hall 2 f2 rfl
      have a3 := hall 3 f3 rfl
      rw [o0, c0] at a0
      rw [o1, c1] at a1
      rw [o2, c2] at a2
      rw [o3, c3] at a3
      simp at a0 a1 a2 a3
      obtain ⟨k, g0, -, hk⟩ := DataW.trod_int u0 a0
      obtain ⟨a, g1, -, ha⟩ := DataW.trod_int u1 a1
      obtain ⟨n, g2, -, hn⟩ := DataW.trod_int u2 a2
      simp at g0 g1 g2
      subst g0; subst g1; subst g2
      obtain ⟨bs, hs, hb1, hb2⟩ := sl_open_bytes u3 ub cb a3
      obtain ⟨au, cu, e, hs'⟩ := id hs
      subst e
      exact ⟨(k, a, n, au, bs.length, cu), rfl, hk, ha, hn, bs, hs, hb1, hb2⟩
end
end Go.Proofs.Ytbjffempiaohpaa
namespace Go.Proofs.Ytbjffempiaohpaa
set_option linter.unusedVariables false
set_option linter.unusedSimpArgs false
open Go.RowKit Go.Shelf Go.Maps Go.Deep Go.ChangeShapes Go.WideShapes

/-- The library's sort of at most 128 numbers of the call's own. -/
abbrev SortC : Prop := ∀ (zs : List Int) (v : Value) (base : Nat) (w1 : World), zs.length ≤ 128 → w1.ownsRow base 3 1 v zs.length (ints zs) → Calls Try.prog 56 #[v] w1 fun e w' => e = .returned (.tuple #[]) ∧ w'.ownsRow base 3 1 v zs.length (ints (zs.mergeSort fun x y => decide (x ≤ y))) ∧ Fr (fun k => v.ownBlock = some k) w1 w'

set_option maxHeartbeats 2000000 in
set_option maxRecDepth 1000000 in
theorem memActs_calls (SORT : RowKit.Hid SortC) (v : Value) (l : List Int) (va : Value) (L : List ActT) (w : World) (h0 : ∀ b ∈ l, 0 ≤ b ∧ b < 256) (hbig : l.length ≤ 9223372036854775807) (hv : Sl w v l.length (bys l))
    (hL : L.length ≤ 9223372036854775807) (hva : Sl w va L.length (L.flatMap actCell)) (hok : ∀ y ∈ L, actOk w y) :
    Calls Try.prog 7 #[v, va] w fun e w' => e = .returned (.bool true) ∧ Fr No w w' := by
  obtain ⟨av, cap, rfl⟩ := hv.form
  obtain ⟨aa, capa, rfl⟩ := hva.form
  by_cases hlen : l.length ≤ 9000
  · have C1 := Lib.hid (fun w1 (h : Fr No w w1) => flat_calls _ l w1 h0 (hv.fr0 h))
    have C2 := Lib.hid (fun w1 (h : Fr No w w1) => rflat_calls _ l w1 h0 (hv.fr0 h))
    have C3 := Lib.hid (fun w1 (h : Fr No w w1) => few_calls _ L w1 hL (hva.fr0 h))
    have HFL := Lib.hid (flatF_length l)
    have HFR := Lib.hid (flatF_range l h0)
    have HVA := Lib.hid hva
    have HOK := Lib.hid hok
    clear h0 hbig hv hva hok
    generalize flatF l = F at *
    go_enter Try.func7, Try.ntmps7
    go_wp2_with fail
    refine (awake9_calls _).mono ?_
    rintro e w1 ⟨rfl, hF1⟩
    go_wp2_with fail
    refine (C3.out _ hF1).mono ?_
    rintro e wf ⟨bf, rfl, hFf⟩
    have hF01 := hF1.trans hFf
    cases bf
    · go_wp2
      go_ret
      exact ⟨rfl, hF01⟩
    go_wp2_with fail
    refine (C1.out _ hF01).mono ?_
    rintro e w2 ⟨mb, A2, rfl, hM2, hF2, hA2⟩
    have hF02 := hF01.trans hF2
    go_wp2_with fail
    refine (C2.out _ hF02).mono ?_
    rintro e w3 ⟨rb, R3, rfl, hR3, hF3, hR3l⟩
    have hF03 := hF02.trans hF3
    have HA3 := Lib.hid (show ∀ j, A2 j → w.heap.size ≤ j from fun j hj => Nat.le_trans hF01.size (hA2 j hj))
    have HR3 := Lib.hid (show ∀ j, R3 j → w.heap.size ≤ j from fun j hj => Nat.le_trans hF02.size (hR3l j hj))
    have HT3 := Lib.hid (show Two w3 mb A2 rb R3 F F F from ⟨hM2.fr0 hF3, hR3, fun k hk hR => by have := hM2.low k hk; have := hR3l k hR; omega⟩)
    clear hM2 hR3 hA2 hR3l C1 C2 C3
    go_wp2_with fail
    go_loopw [27] (fun i wr => ∃ j : Nat, j ≤ L.length ∧ i = .int .i64 j ∧ ∃ A R B, Two wr mb A rb R F B B ∧ Fr No w wr ∧ (∀ k, A k → w.heap.size ≤ k) ∧ (∀ k, R k → w.heap.size ≤ k)) (fun i _ => L.length - (intOf i).toNat)
    case atStart => exact ⟨0, Nat.zero_le _, rfl, A2, R3, F, HT3.out, hF03, HA3.out, HR3.out⟩
    case round =>
      obtain ⟨j, hj, rfl, A, R, B, hT, hF, hA, hR⟩ := hrel
      by_cases hlt : j < L.length
      · have g0 := flat_get actCell 4 (fun _ => rfl) L j 0 hlt (by omega)
        have g1 := flat_get actCell 4 (fun _ => rfl) L j 1 hlt (by omega)
        have g2 := flat_get actCell 4 (fun _ => rfl) L j 2 hlt (by omega)
        have g3 := flat_get actCell 4 (fun _ => rfl) L j 3 hlt (by omega)
        have hyk := HOK.out _ (List.getElem_mem hlt)
        revert g0 g1 g2 g3 hyk
        generalize L[j] = y
        obtain ⟨d, a, n, au, lu, cu⟩ := y
        intro g0 g1 g2 g3 hyk
        simp only [actCell, List.getElem?_cons_zero, List.getElem?_cons_succ] at g0 g1 g2 g3
        obtain ⟨k1, k2, k3, xs, hsl, hx1, hx2⟩ := hyk
        dsimp only at k1 k2 k3 hsl
        have hva := HVA.out
        obtain ⟨b, off, rfl, hb, hc⟩ := hva.at (by intro e; rw [e] at g0; simp at g0)
        have c0 := hF.cell (hc _ _ g0) (fun h => h)
        have c1 := hF.cell (hc _ _ g1) (fun h => h)
        have c2 := hF.cell (hc _ _ g2) (fun h => h)
        have c3 := hF.cell (hc _ _ g3) (fun h => h)
        simp only [← Nat.add_assoc, Nat.add_zero] at c0 c1 c2 c3
        have hFa : Fr No wr (wr.alloc (Obj.cells #[.int .i64 d, .int .i64 a, .int .i64 n, .slice au lu cu] 56)) := (Fr.refl _ _).alloc _
        have b2 := bounds_i64 k2
        have b3 := bounds_i64 k3
        have HAC := Lib.hid (act_calls mb rb A R F B d a n au lu cu xs (wr.alloc (Obj.cells #[.int .i64 d, .int .i64 a, .int .i64 n, .slice au lu cu] 56)) (hT.fr0 hFa) b2 b3
          (by obtain ⟨_, _, e, _⟩ := id hsl; cases e; exact hsl.fr0 (hF.trans hFa)) (fun k e hne => by
            have h1 := hsl.lt e (fun e2 => hne (by simpa [bys] using e2))
            exact ⟨fun h => by have := hA k h; omega, fun h => by have := hR k h; omega⟩) hx2 (by unfold maxLen at hx1; omega))
        have HA := Lib.hid hA
        have HR := Lib.hid hR
        have HF := Lib.hid (hF.trans hFa)
        clear hc hva g0 g1 g2 g3 hT hF hA hR hsl hx1 hx2 k1 k2 k3 b2 b3
        go_wp2_with fail
        refine HAC.out.mono ?_
        rintro e w5 ⟨rfl, A', R', B', hT', hF', hgA, hgR⟩
        have HT' := Lib.hid hT'
        have HF' := Lib.hid (show Fr No w w5 from HF.out.trans' hF' (fun i hi h => by
          rcases h with h | h
          · have := HA.out i h; omega
          · have := HR.out i h; omega))
        have HA' := Lib.hid (show ∀ k, A' k → w.heap.size ≤ k from fun k hk => by
          rcases hgA k hk with h | h
          · exact HA.out k h
          · exact Nat.le_trans HF.out.size h)
        have HR' := Lib.hid (show ∀ k, R' k → w.heap.size ≤ k from fun k hk => by
          rcases hgR k hk with h | h
          · exact HR.out k h
          · exact Nat.le_trans HF.out.size h)
        clear hT' hF' hgA hgR
        go_wp2
        go_roundw
        case rel => exact ⟨j + 1, by omega, by go_num, A', R', B', HT'.out, HF'.out, HA'.out, HR'.out⟩
        case measure => simp [intOf]; omega
      · obtain ⟨g, capg, gw, hI⟩ := hT.2.1.inn
        have hbl := hT.1.blen
        have HSS := Lib.hid (fun w' (h : Fr A wr w') => ref_conv (hI.fr h hT.2.2))
        have hF0 := Fr.refl A wr
        have hFd := (Fr.refl A wr).drew
        have HBY := Lib.hid (fun (w' : World) (h : Fr No wr w') => bytes_calls (hT.1.fr0 h))
        have HCV := Lib.hid (fun (w' : World) (b : Nat) (h : Row w' b 5 B) => row_conv h hbl)
        have HT := Lib.hid hT
        have HFw := Lib.hid hF
        have HA := Lib.hid hA
        have hdl := dirtyN_length F B 128
        clear hT hI hbl hF hA hR
        generalize strOfNums B = s at *
        go_upto_region 14 with fail
        obtain ⟨e0, e1⟩ := HSS.out _ hFd
        go_region_with (first
          | (go_at_call 21; ((with_reducible refine (HBY.out wr.drew (Fr.refl _ _).drew).mono ?_); rintro e w7 ⟨b7, A7, rfl, hp7, hr7, -, -⟩; have hFn := hFd.trans hp7.2.1; have hcv := HCV.out w7 b7 hr7; obtain ⟨e2, e3⟩ := HSS.out _ hFn; have HM7 : RowKit.Hid (MemAt w7 mb A7 F B) := Lib.hid hp7.1; have HR7 : RowKit.Hid (RefAt w7 rb R F B) := Lib.hid ((HT.out.fr0 (Fr.refl No wr).drew).mem hp7).2.1; clear hr7 hp7))
          | (go_at_call 28; ((with_reducible refine (dirty_calls HM7.out SORT).mono ?_); rintro e w8 ⟨r8, rfl, hF8, hs8⟩; obtain ⟨a8, c8, rfl⟩ := hs8.form; have HS8 := Lib.hid hs8; have HR8 : RowKit.Hid (RefAt w8 rb R F B) := Lib.hid (HR7.out.fr hF8 (fun _ h => h.elim)); have HF8 := Lib.hid hF8; clear hs8 hF8))
          | (go_at_call 29; ((with_reducible refine (rdirty_calls HR8.out HFL.out HFR.out).mono ?_); rintro e w9 ⟨r9, rfl, hF9, hs9⟩; obtain ⟨a9, c9, rfl⟩ := hs9.form; have HI9 := Lib.hid (ints09_calls _ _ (dirtyN F B 128) w9 (by omega) (HS8.out.fr0 hF9) hs9); have HF9 := Lib.hid hF9; clear hs9 hF9))
          | (go_at_call 27; ((with_reducible refine HI9.out.mono ?_); rintro e w10 ⟨rfl, hF10⟩))
          | fail "arm")
        all_goals (
          go_wp2
          go_ret
          exact ⟨rfl, (((HFw.out.trans' hFn (fun i hi h => by have := HA.out i h; omega)).trans HF8.out).trans HF9.out).trans hF10⟩)
  · have hlen' : 9000 < l.length := by omega
    clear h0 hv hva hok hlen
    go_enter Try.func7, Try.ntmps7
    go_wp2_with fail
    refine (awake9_calls _).mono ?_
    rintro e w1 ⟨rfl, hF1⟩
    go_wp2
    go_ret
    exact ⟨rfl, hF1⟩
end Go.Proofs.Ytbjffempiaohpaa
