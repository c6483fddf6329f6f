/-
  The memory of chapter 9: the reference's Load; a call on both.
-/
import Derived.Test.YtbjffempiaohpaaMem15
import Derived.Test.YtbjffempiaohpaaIno2
namespace Go.Proofs.Ytbjffempiaohpaa
set_option linter.unusedVariables false
set_option linter.unusedSimpArgs false
open Go.RowKit Go.Shelf Go.Maps

set_option maxHeartbeats 1000000 in
set_option maxRecDepth 1000000 in
theorem rload_calls {w : World} {rb : Nat} {R : Nat → Prop} {F B : List Int} (h : RefAt w rb R F B) (a n : Int) (N : Nat) (hN : min (max n 0) 8192 = (N : Int)) (ha : -9223372036854775808 ≤ a ∧ a ≤ 9223372036854775807) :
    Calls Try.prog 55 #[.pointer (some ⟨rb, 0, none⟩), .int .i64 a, .int .i64 n] w fun e w' => ∃ b, e = .returned (.slice (some ⟨b, 0, none⟩) N N) ∧ Fr No w w' ∧ Row w' b 5 (loadF B a N) ∧ w.heap.size ≤ b := by
  have hN2 : N ≤ 8192 := by omega
  have hR0 : Row (w.alloc (.cells (bys (zs N)).toArray 5)) w.heap.size 5 (zs N) := Row.new _ _ _
  have hF0 : Fr No w (w.alloc (.cells (bys (zs N)).toArray 5)) := (Fr.refl _ _).alloc _
  obtain ⟨g, cap, gw, h⟩ := h.inn
  have HM0 := Lib.hid (h.fr hF0 (fun _ h => h.elim))
  have HM := Lib.hid h
  have HN := Lib.hid hN
  obtain ⟨ha1, ha2⟩ := ha
  clear h hN
  go_enter Try.func55, Try.ntmps55
  go_upto_region 1 with fail
  go_cut [7] (fun s7 wx => s7 = .slice (some ⟨w.heap.size, 0, none⟩) N N ∧ wx = w.alloc (.cells (bys (zs N)).toArray 5))
  case first =>
    have hN := HN.out
    by_cases h1 : n < 0
    · obtain rfl : N = 0 := by omega
      have hmk : ∀ w : World, (Instr.makeSlice 22 (.int .i64 0) (.int .i64 0)).run Try.prog w = .ok (.slice (some ⟨w.heap.size, 0, none⟩) 0 0) (w.alloc (.cells (bys (zs 0)).toArray 5)) := fun w => mk_bytes w 0 (by omega)
      clear hN
      go_wp2_with fail
      go_meet
      exact ⟨rfl, rfl⟩
    · by_cases h2 : 8192 < n
      · obtain rfl : N = 8192 := by omega
        have hmk : ∀ w : World, (Instr.makeSlice 22 (.int .i64 8192) (.int .i64 8192)).run Try.prog w = .ok (.slice (some ⟨w.heap.size, 0, none⟩) 8192 8192) (w.alloc (.cells (bys (zs 8192)).toArray 5)) := fun w => mk_bytes w 8192 (by omega)
        generalize (bys (zs 8192)).toArray = cs at *
        clear hN
        go_wp2_with fail
        go_meet
        exact ⟨rfl, rfl⟩
      · obtain rfl : n = N := by omega
        have hmk : ∀ w : World, (Instr.makeSlice 22 (.int .i64 N) (.int .i64 N)).run Try.prog w = .ok (.slice (some ⟨w.heap.size, 0, none⟩) N N) (w.alloc (.cells (bys (zs N)).toArray 5)) := fun w => mk_bytes w N (by omega)
        generalize (bys (zs N)).toArray = cs at *
        clear hN
        go_wp2_with fail
        go_meet
        exact ⟨rfl, rfl⟩
  case rest =>
  obtain ⟨rfl, rfl⟩ := hcut
  generalize hW1 : w.alloc _ = W1 at *
  clear hW1
  go_wp2
  go_loopw [15] (fun i wr => ∃ j : Nat, j ≤ N ∧ i = .int .i64 j ∧ Fr (fun k => k = w.heap.size) W1 wr ∧ Row wr w.heap.size 5 (outN B a N j)) (fun i _ => N - (intOf i).toNat)
  case atStart => exact ⟨0, Nat.zero_le _, rfl, Fr.refl _ _, hR0⟩
  case round =>
    obtain ⟨j, hj, rfl, hF, hR⟩ := hrel
    by_cases hlt : j < N
    · have hjl : j < (outN B a N j).length := by rw [outN_length]; exact hlt
      have HF := Lib.hid hF
      have HR := Lib.hid hR
      by_cases hbig : a ≤ 8192
      · have hw : IntKind.i64.wrap (a + (j : Int)) = a + j := IntWalk.i64_in _ (by omega)
        by_cases hin : 0 ≤ a + (j : Int) ∧ a + (j : Int) < 8192
        · obtain ⟨kk, hkk⟩ : ∃ kk : Nat, a + (j : Int) = kk := ⟨(a + (j : Int)).toNat, by omega⟩
          have hk : kk < 8192 := by omega
          have hlow := HM.out.low
          have hMr := HM0.out.fr hF (fun k e hk => by subst e; exact Nat.lt_irrefl _ (hlow _ hk))
          have hkl : kk < B.length := by rw [HM.out.blen]; exact hk
          have hby : byteAt B (a + j) = B[kk] := by rw [byteAt, if_pos hin, hkk]; simp [List.getD, hkl]
          have c0 := heap_cell (o := 0) hMr.box rfl
          have q0 := (hMr.row.cellAt kk (by omega)).trans (bys_get _ _ hkl)
          have q1 := hR.cell hjl
          have q2 := hR.frozen j
          have hst := hR.set j B[kk]
          have hstep : outN B a N (j + 1) = (outN B a N j).set j B[kk] := by rw [outN, hby]
          revert q0 hst hstep
          generalize B[kk] = x
          intro q0 hst hstep
          rw [← hstep] at hst
          have HST := Lib.hid hst
          rw [hkk] at hw
          revert q1
          generalize (outN B a N j)[j] = y
          intro q1
          clear hst hstep hby hin hMr hF hR hkl hjl hlow
          go_wp2
          go_roundw
          case rel => exact ⟨j + 1, by omega, by go_num, HF.out.setCell (p := ⟨w.heap.size, j, none⟩) (fun _ => rfl) _, HST.out⟩
          case measure => simp [intOf]; omega
        · have hsk := outN_skip B a N j hlt (by rw [byteAt, if_neg hin])
          have HSK := Lib.hid hsk
          by_cases h0 : 0 ≤ a + (j : Int)
          · have h1 : ¬ (a + (j : Int) < 8192) := fun h => hin ⟨h0, h⟩
            clear hin hsk hF hR hjl
            go_wp2
            go_roundw
            case rel => exact ⟨j + 1, by omega, by go_num, HF.out, by rw [HSK.out]; exact HR.out⟩
            case measure => simp [intOf]; omega
          · clear hin hsk hF hR hjl
            go_wp2
            go_roundw
            case rel => exact ⟨j + 1, by omega, by go_num, HF.out, by rw [HSK.out]; exact HR.out⟩
            case measure => simp [intOf]; omega
      · have hsk := outN_skip B a N j hlt (by rw [byteAt, if_neg (by omega)])
        have HSK := Lib.hid hsk
        clear hsk hF hR hjl
        go_wp2
        go_roundw
        case rel => exact ⟨j + 1, by omega, by go_num, HF.out, by rw [HSK.out]; exact HR.out⟩
        case measure => simp [intOf]; omega
    · have HF := Lib.hid hF
      have HR := Lib.hid hR
      clear hF hR
      go_wp2
      go_ret
      refine ⟨_, rfl, hF0.trans' HF.out (fun i hi e => by omega), ?_, Nat.le_refl _⟩
      have : N = j := by omega
      subst this
      exact HR.out

/-- Both memories behind a call. -/
def Tp (w : World) (mb : Nat) (A : Nat → Prop) (rb : Nat) (R : Nat → Prop) (F : List Int) (w' : World) : Prop :=
  ∃ A' R' B', Two w' mb A' rb R' F B' B' ∧ Fr (fun k => A k ∨ R k) w w' ∧ Gr w A A' ∧ Gr w R R'
theorem Tp.of {w w1 w2 : World} {mb rb : Nat} {A A1 R R2 : Nat → Prop} {F B B2 : List Int} (h : Two w mb A rb R F B B) (hp : Mp w mb A F B2 w1 A1) (hq : Rp w1 rb R F B2 w2 R2) : Tp w mb A rb R F w2 :=
  ⟨A1, R2, B2, (h.mem hp).ref hq, (hp.2.1.mono (fun i _ h => .inl h)).trans (hq.2.1.mono (fun i _ h => .inr h)), hp.2.2, fun j hj => by
    rcases hq.2.2 j hj with h1 | h1
    · exact .inl h1
    · exact .inr (Nat.le_trans hp.2.1.size h1)⟩
theorem Tp.fr {w w1 w2 : World} {mb rb : Nat} {A R : Nat → Prop} {F : List Int} (h : Tp w mb A rb R F w1) (hF : Fr No w1 w2) : Tp w mb A rb R F w2 := by
  obtain ⟨A', R', B', h1, h2, h3, h4⟩ := h
  exact ⟨A', R', B', h1.fr0 hF, h2.trans hF.no, h3, h4⟩
theorem Tp.ahead {w w1 w2 : World} {mb rb : Nat} {A R : Nat → Prop} {F : List Int} (hF : Fr No w w1) (h : Tp w1 mb A rb R F w2) : Tp w mb A rb R F w2 := by
  obtain ⟨A', R', B', h1, h2, h3, h4⟩ := h
  refine ⟨A', R', B', h1, hF.no.trans h2, fun j hj => ?_, fun j hj => ?_⟩
  · rcases h3 j hj with h5 | h5
    · exact .inl h5
    · exact .inr (Nat.le_trans hF.size h5)
  · rcases h4 j hj with h5 | h5
    · exact .inl h5
    · exact .inr (Nat.le_trans hF.size h5)
end Go.Proofs.Ytbjffempiaohpaa
namespace Go.Proofs.Ytbjffempiaohpaa
set_option linter.unusedVariables false
set_option linter.unusedSimpArgs false
open Go.RowKit Go.Shelf Go.Maps

set_option maxHeartbeats 2000000 in
set_option maxRecDepth 1000000 in
theorem act0_calls (mb rb : Nat) (A R : Nat → Prop) (F B : List Int) (d a n : Int) (au : Option Addr) (lu cu : Nat) (l : List Int) (w : World) (hT : Two w mb A rb R F B B) (ha : -9223372036854775808 ≤ a ∧ a ≤ 9223372036854775807) (hn : -9223372036854775808 ≤ n ∧ n ≤ 9223372036854775807)
    (hu : Sl w (.slice au lu cu) l.length (bys l)) (huA : ∀ k, (Value.slice au lu cu).ownBlock = some k → l ≠ [] → ¬ A k ∧ ¬ R k) (h0 : ∀ b ∈ l, 0 ≤ b ∧ b < 256) (hlen : l.length ≤ 9223372036854775807) (hd : d = 0) :
    Calls Try.prog 26 #[.pointer (some ⟨mb, 0, none⟩), .pointer (some ⟨rb, 0, none⟩), .agg #[.int .i64 d, .int .i64 a, .int .i64 n, .slice au lu cu]] w fun e w' => e = .returned (.bool true) ∧ Tp w mb A rb R F w' := by
  have hF0 : Fr No w (w.alloc (Obj.cells #[.int .i64 d, .int .i64 a, .int .i64 n, .slice au lu cu] 56)) := (Fr.refl _ _).alloc _
  have hb0 := heap_new w (Obj.cells #[.int .i64 d, .int .i64 a, .int .i64 n, .slice au lu cu] 56)
  have hbA : ∀ k, A k ∨ R k → k < w.heap.size := fun k hk => hk.elim (hT.1.low k) (hT.2.1.low k)
  have HT0 := Lib.hid (hT.fr0 hF0)
  have HBA := Lib.hid hbA
  have HA := Lib.hid ha
  have hwa : IntKind.i64.wrap a = a := IntWalk.i64_in _ ha
  have hwn : IntKind.i64.wrap n = n := IntWalk.i64_in _ hn
  have HN := Lib.hid hn
  have HU := Lib.hid hu
  have HUA := Lib.hid huA
  have HL0 := Lib.hid h0
  have c0 := heap_cell (o := 0) hb0 rfl
  have c1 := heap_cell (o := 1) hb0 rfl
  have c2 := heap_cell (o := 2) hb0 rfl
  have c3 := heap_cell (o := 3) hb0 rfl
  have HB0 := Lib.hid hb0
  have hd0 : (d == 0) = true := by simp; omega
  clear hT hbA ha hn hu huA h0 hd hb0
  go_enter Try.func26, Try.ntmps26
  go_upto_region 3 with fail
  generalize w.alloc _ = W at *
  have HTd := Lib.hid (HT0.out.fr0 (Fr.refl No W).drew)
  have HMd : RowKit.Hid (MemAt W.drew mb A F B) := Lib.hid HTd.out.1
  have e1 : W.drew.cell? ⟨w.heap.size, 1, none⟩ = _ := c1
  have e2 : W.drew.cell? ⟨w.heap.size, 2, none⟩ = _ := c2
  go_region_held3 (fun w' => w'.cell? ⟨w.heap.size, 1, none⟩ = some (.int .i64 a) ∧ w'.cell? ⟨w.heap.size, 2, none⟩ = some (.int .i64 n))
    (first | exact ⟨c1, c2⟩ | exact ⟨e1, e2⟩ | exact ⟨f1, f2⟩ | exact ⟨g1, g2⟩ | fail "keep")
    (first
    | (go_at_call 32; ((with_reducible refine (putbyte_calls HMd.out a n HA.out).mono ?_); rintro e w1 ⟨A1, rfl, hp⟩; have HP := Lib.hid hp; have HR1 : RowKit.Hid (RefAt w1 rb R F B) := Lib.hid (HTd.out.mem hp).2.1; have hbx := hp.2.1.heap (show W.drew.heap[w.heap.size]? = _ from HB0.out) (fun h => Nat.lt_irrefl _ (HBA.out _ (.inl h))); have f1 := heap_cell (o := 1) hbx rfl; have f2 := heap_cell (o := 2) hbx rfl; have HB1 := Lib.hid hbx; clear hp hbx))
    | (go_at_call 50; ((with_reducible refine (rputbyte_calls HR1.out a n HA.out).mono ?_); rintro e w2 ⟨rfl, hq⟩; have HQ := Lib.hid hq; have hbx := hq.2.1.heap HB1.out (fun h => Nat.lt_irrefl _ (HBA.out _ (.inr h))); have g1 := heap_cell (o := 1) hbx rfl; have g2 := heap_cell (o := 2) hbx rfl; clear hq hbx))
    | fail "arm")
  all_goals (
    go_wp2
    go_ret
    exact ⟨rfl, (Tp.of HTd.out HP.out HQ.out).ahead (hF0.drew)⟩)

set_option maxHeartbeats 2000000 in
set_option maxRecDepth 1000000 in
theorem act1_calls (mb rb : Nat) (A R : Nat → Prop) (F B : List Int) (d a n : Int) (au : Option Addr) (lu cu : Nat) (l : List Int) (w : World) (hT : Two w mb A rb R F B B) (ha : -9223372036854775808 ≤ a ∧ a ≤ 9223372036854775807) (hn : -9223372036854775808 ≤ n ∧ n ≤ 9223372036854775807)
    (hu : Sl w (.slice au lu cu) l.length (bys l)) (huA : ∀ k, (Value.slice au lu cu).ownBlock = some k → l ≠ [] → ¬ A k ∧ ¬ R k) (h0 : ∀ b ∈ l, 0 ≤ b ∧ b < 256) (hlen : l.length ≤ 9223372036854775807) (hd : d = 1) :
    Calls Try.prog 26 #[.pointer (some ⟨mb, 0, none⟩), .pointer (some ⟨rb, 0, none⟩), .agg #[.int .i64 d, .int .i64 a, .int .i64 n, .slice au lu cu]] w fun e w' => e = .returned (.bool true) ∧ Tp w mb A rb R F w' := by
  have hF0 : Fr No w (w.alloc (Obj.cells #[.int .i64 d, .int .i64 a, .int .i64 n, .slice au lu cu] 56)) := (Fr.refl _ _).alloc _
  have hb0 := heap_new w (Obj.cells #[.int .i64 d, .int .i64 a, .int .i64 n, .slice au lu cu] 56)
  have hbA : ∀ k, A k ∨ R k → k < w.heap.size := fun k hk => hk.elim (hT.1.low k) (hT.2.1.low k)
  have HT0 := Lib.hid (hT.fr0 hF0)
  have HBA := Lib.hid hbA
  have HA := Lib.hid ha
  have hwa : IntKind.i64.wrap a = a := IntWalk.i64_in _ ha
  have hwn : IntKind.i64.wrap n = n := IntWalk.i64_in _ hn
  have HN := Lib.hid hn
  have HU := Lib.hid hu
  have HUA := Lib.hid huA
  have HL0 := Lib.hid h0
  have c0 := heap_cell (o := 0) hb0 rfl
  have c1 := heap_cell (o := 1) hb0 rfl
  have c2 := heap_cell (o := 2) hb0 rfl
  have c3 := heap_cell (o := 3) hb0 rfl
  have HB0 := Lib.hid hb0
  have hd0 : (d == 0) = false := by simp; omega
  have hd1 : (d == 1) = true := by simp; omega
  clear hT hbA ha hn hu huA h0 hd hb0
  go_enter Try.func26, Try.ntmps26
  go_upto_region 5 with fail
  generalize w.alloc _ = W at *
  have HTd := Lib.hid (HT0.out.fr0 (Fr.refl No W).drew)
  have HMd : RowKit.Hid (MemAt W.drew mb A F B) := Lib.hid HTd.out.1
  have e1 : W.drew.cell? ⟨w.heap.size, 1, none⟩ = _ := c1
  have e2 : W.drew.cell? ⟨w.heap.size, 2, none⟩ = _ := c2
  go_region_held3 (fun w' => w'.cell? ⟨w.heap.size, 1, none⟩ = some (.int .i64 a) ∧ w'.cell? ⟨w.heap.size, 2, none⟩ = some (.int .i64 n))
    (first | exact ⟨c1, c2⟩ | exact ⟨e1, e2⟩ | exact ⟨f1, f2⟩ | exact ⟨g1, g2⟩ | fail "keep")
    (first
    | (go_at_call 22; ((with_reducible refine (putcell_calls HMd.out a n HA.out).mono ?_); rintro e w1 ⟨A1, rfl, hp⟩; have HP := Lib.hid hp; have HR1 : RowKit.Hid (RefAt w1 rb R F B) := Lib.hid (HTd.out.mem hp).2.1; have hbx := hp.2.1.heap (show W.drew.heap[w.heap.size]? = _ from HB0.out) (fun h => Nat.lt_irrefl _ (HBA.out _ (.inl h))); have f1 := heap_cell (o := 1) hbx rfl; have f2 := heap_cell (o := 2) hbx rfl; have HB1 := Lib.hid hbx; clear hp hbx))
    | (go_at_call 51; ((with_reducible refine (rputcellm_calls HR1.out a n HA.out).mono ?_); rintro e w2 ⟨R2, rfl, hq⟩; have HQ := Lib.hid hq; have hbx := hq.2.1.heap HB1.out (fun h => Nat.lt_irrefl _ (HBA.out _ (.inr h))); have g1 := heap_cell (o := 1) hbx rfl; have g2 := heap_cell (o := 2) hbx rfl; clear hq hbx))
    | fail "arm")
  all_goals (
    go_wp2
    go_ret
    exact ⟨rfl, (Tp.of HTd.out HP.out HQ.out).ahead (hF0.drew)⟩)

set_option maxHeartbeats 2000000 in
set_option maxRecDepth 1000000 in
theorem act2_calls (mb rb : Nat) (A R : Nat → Prop) (F B : List Int) (d a n : Int) (au : Option Addr) (lu cu : Nat) (l : List Int) (w : World) (hT : Two w mb A rb R F B B) (ha : -9223372036854775808 ≤ a ∧ a ≤ 9223372036854775807) (hn : -9223372036854775808 ≤ n ∧ n ≤ 9223372036854775807)
    (hu : Sl w (.slice au lu cu) l.length (bys l)) (huA : ∀ k, (Value.slice au lu cu).ownBlock = some k → l ≠ [] → ¬ A k ∧ ¬ R k) (h0 : ∀ b ∈ l, 0 ≤ b ∧ b < 256) (hlen : l.length ≤ 9223372036854775807) (hd : d = 2) :
    Calls Try.prog 26 #[.pointer (some ⟨mb, 0, none⟩), .pointer (some ⟨rb, 0, none⟩), .agg #[.int .i64 d, .int .i64 a, .int .i64 n, .slice au lu cu]] w fun e w' => e = .returned (.bool true) ∧ Tp w mb A rb R F w' := by
  have hF0 : Fr No w (w.alloc (Obj.cells #[.int .i64 d, .int .i64 a, .int .i64 n, .slice au lu cu] 56)) := (Fr.refl _ _).alloc _
  have hb0 := heap_new w (Obj.cells #[.int .i64 d, .int .i64 a, .int .i64 n, .slice au lu cu] 56)
  have hbA : ∀ k, A k ∨ R k → k < w.heap.size := fun k hk => hk.elim (hT.1.low k) (hT.2.1.low k)
  have HT0 := Lib.hid (hT.fr0 hF0)
  have HBA := Lib.hid hbA
  have HA := Lib.hid ha
  have hwa : IntKind.i64.wrap a = a := IntWalk.i64_in _ ha
  have hwn : IntKind.i64.wrap n = n := IntWalk.i64_in _ hn
  have HN := Lib.hid hn
  have HU := Lib.hid hu
  have HUA := Lib.hid huA
  have HL0 := Lib.hid h0
  have c0 := heap_cell (o := 0) hb0 rfl
  have c1 := heap_cell (o := 1) hb0 rfl
  have c2 := heap_cell (o := 2) hb0 rfl
  have c3 := heap_cell (o := 3) hb0 rfl
  have HB0 := Lib.hid hb0
  have hd0 : (d == 0) = false := by simp; omega
  have hd1 : (d == 1) = false := by simp; omega
  have hd2 : (d == 2) = true := by simp; omega
  clear hT hbA ha hn hu huA h0 hd hb0
  go_enter Try.func26, Try.ntmps26
  go_wp2_with fail
  generalize w.alloc _ = W at *
  have HM0 : RowKit.Hid (MemAt W mb A F B) := Lib.hid HT0.out.1
  refine (mset_calls HM0.out a n HA.out).mono ?_
  rintro e w1 ⟨A1, rfl, hp⟩
  have HP := Lib.hid hp
  have HR1 : RowKit.Hid (RefAt w1 rb R F B) := Lib.hid (HT0.out.mem hp).2.1
  have hbx := hp.2.1.heap HB0.out (fun h => Nat.lt_irrefl _ (HBA.out _ (.inl h)))
  have f1 := heap_cell (o := 1) hbx rfl
  have f2 := heap_cell (o := 2) hbx rfl
  clear hp hbx c0 c1 c2 c3
  go_wp2_with fail
  refine (rset_calls HR1.out a n HA.out).mono ?_
  rintro e w2 ⟨R2, rfl, hq⟩
  have HQ := Lib.hid hq
  clear hq
  go_wp2
  go_ret
  exact ⟨rfl, (Tp.of HT0.out HP.out HQ.out).ahead hF0⟩

set_option maxHeartbeats 2000000 in
set_option maxRecDepth 1000000 in
theorem act3_calls (mb rb : Nat) (A R : Nat → Prop) (F B : List Int) (d a n : Int) (au : Option Addr) (lu cu : Nat) (l : List Int) (w : World) (hT : Two w mb A rb R F B B) (ha : -9223372036854775808 ≤ a ∧ a ≤ 9223372036854775807) (hn : -9223372036854775808 ≤ n ∧ n ≤ 9223372036854775807)
    (hu : Sl w (.slice au lu cu) l.length (bys l)) (huA : ∀ k, (Value.slice au lu cu).ownBlock = some k → l ≠ [] → ¬ A k ∧ ¬ R k) (h0 : ∀ b ∈ l, 0 ≤ b ∧ b < 256) (hlen : l.length ≤ 9223372036854775807) (hd : d = 3) :
    Calls Try.prog 26 #[.pointer (some ⟨mb, 0, none⟩), .pointer (some ⟨rb, 0, none⟩), .agg #[.int .i64 d, .int .i64 a, .int .i64 n, .slice au lu cu]] w fun e w' => e = .returned (.bool true) ∧ Tp w mb A rb R F w' := by
  have hF0 : Fr No w (w.alloc (Obj.cells #[.int .i64 d, .int .i64 a, .int .i64 n, .slice au lu cu] 56)) := (Fr.refl _ _).alloc _
  have hb0 := heap_new w (Obj.cells #[.int .i64 d, .int .i64 a, .int .i64 n, .slice au lu cu] 56)
  have hbA : ∀ k, A k ∨ R k → k < w.heap.size := fun k hk => hk.elim (hT.1.low k) (hT.2.1.low k)
  have HT0 := Lib.hid (hT.fr0 hF0)
  have HBA := Lib.hid hbA
  have HA := Lib.hid ha
  have hwa : IntKind.i64.wrap a = a := IntWalk.i64_in _ ha
  have hwn : IntKind.i64.wrap n = n := IntWalk.i64_in _ hn
  have HN := Lib.hid hn
  have HU := Lib.hid hu
  have HUA := Lib.hid huA
  have HL0 := Lib.hid h0
  have c0 := heap_cell (o := 0) hb0 rfl
  have c1 := heap_cell (o := 1) hb0 rfl
  have c2 := heap_cell (o := 2) hb0 rfl
  have c3 := heap_cell (o := 3) hb0 rfl
  have HB0 := Lib.hid hb0
  have hd0 : (d == 0) = false := by simp; omega
  have hd1 : (d == 1) = false := by simp; omega
  have hd2 : (d == 2) = false := by simp; omega
  have hd3 : (d == 3) = true := by simp; omega
  clear hT hbA ha hn hu huA h0 hd hb0
  go_enter Try.func26, Try.ntmps26
  go_wp2_with fail
  generalize w.alloc _ = W at *
  have HM0 : RowKit.Hid (MemAt W mb A F B) := Lib.hid HT0.out.1
  have hu0 := HU.out.fr0 hF0
  refine (lay_calls HM0.out a (.slice au lu cu) l hu0 (fun k e hne => (HUA.out k e hne).1) HL0.out hlen HA.out).mono ?_
  rintro e w1 ⟨A1, rfl, hp⟩
  have HP := Lib.hid hp
  have HR1 : RowKit.Hid (RefAt w1 rb R F B) := Lib.hid (HT0.out.mem hp).2.1
  have HU1 := Lib.hid (hu0.fr hp.2.1 (fun k e hne => (HUA.out k e (fun e2 => hne (by rw [e2]; rfl))).1))
  have hbx := hp.2.1.heap HB0.out (fun h => Nat.lt_irrefl _ (HBA.out _ (.inl h)))
  have f1 := heap_cell (o := 1) hbx rfl
  have f3 := heap_cell (o := 3) hbx rfl
  clear hp hbx c0 c1 c2 c3 hu0
  go_wp2_with fail
  refine (rlay_calls HR1.out a (.slice au lu cu) l HU1.out (fun k e hne => (HUA.out k e hne).2) HL0.out hlen HA.out).mono ?_
  rintro e w2 ⟨rfl, hq⟩
  have HQ := Lib.hid hq
  clear hq
  go_wp2
  go_ret
  exact ⟨rfl, (Tp.of HT0.out HP.out HQ.out).ahead hF0⟩

set_option maxHeartbeats 2000000 in
set_option maxRecDepth 1000000 in
theorem act4_calls (mb rb : Nat) (A R : Nat → Prop) (F B : List Int) (d a n : Int) (au : Option Addr) (lu cu : Nat) (l : List Int) (w : World) (hT : Two w mb A rb R F B B) (ha : -9223372036854775808 ≤ a ∧ a ≤ 9223372036854775807) (hn : -9223372036854775808 ≤ n ∧ n ≤ 9223372036854775807)
    (hu : Sl w (.slice au lu cu) l.length (bys l)) (huA : ∀ k, (Value.slice au lu cu).ownBlock = some k → l ≠ [] → ¬ A k ∧ ¬ R k) (h0 : ∀ b ∈ l, 0 ≤ b ∧ b < 256) (hlen : l.length ≤ 9223372036854775807) (hd : d = 4) :
    Calls Try.prog 26 #[.pointer (some ⟨mb, 0, none⟩), .pointer (some ⟨rb, 0, none⟩), .agg #[.int .i64 d, .int .i64 a, .int .i64 n, .slice au lu cu]] w fun e w' => e = .returned (.bool true) ∧ Tp w mb A rb R F w' := by
  have hF0 : Fr No w (w.alloc (Obj.cells #[.int .i64 d, .int .i64 a, .int .i64 n, .slice au lu cu] 56)) := (Fr.refl _ _).alloc _
  have hb0 := heap_new w (Obj.cells #[.int .i64 d, .int .i64 a, .int .i64 n, .slice au lu cu] 56)
  have hbA : ∀ k, A k ∨ R k → k < w.heap.size := fun k hk => hk.elim (hT.1.low k) (hT.2.1.low k)
  have HT0 := Lib.hid (hT.fr0 hF0)
  have HBA := Lib.hid hbA
  have HA := Lib.hid ha
  have hwa : IntKind.i64.wrap a = a := IntWalk.i64_in _ ha
  have hwn : IntKind.i64.wrap n = n := IntWalk.i64_in _ hn
  have HN := Lib.hid hn
  have HU := Lib.hid hu
  have HUA := Lib.hid huA
  have HL0 := Lib.hid h0
  have c0 := heap_cell (o := 0) hb0 rfl
  have c1 := heap_cell (o := 1) hb0 rfl
  have c2 := heap_cell (o := 2) hb0 rfl
  have c3 := heap_cell (o := 3) hb0 rfl
  have HB0 := Lib.hid hb0
  have hd0 : (d == 0) = false := by simp; omega
  have hd1 : (d == 1) = false := by simp; omega
  have hd2 : (d == 2) = false := by simp; omega
  have hd3 : (d == 3) = false := by simp; omega
  have hd4 : (d == 4) = true := by simp; omega
  have HCm := Lib.hid (fun (w1 : World) (h : MemAt w1 mb A F B) => byte_calls h a ha)
  have HCr := Lib.hid (fun (w1 : World) (h : RefAt w1 rb R F B) => rbyte_calls h a ha)
  generalize (if insF a 1 0 8192 = 0 then byteAt B a else 0) = x at *
  generalize insF a 1 0 8192 = t at *
  clear hT hbA ha hn hu huA h0 hd hb0
  go_enter Try.func26, Try.ntmps26
  go_wp2_with fail
  generalize w.alloc _ = W at *
  have HM0 : RowKit.Hid (MemAt W mb A F B) := Lib.hid HT0.out.1
  refine (HCm.out _ HM0.out).mono ?_
  rintro e w1 ⟨A1, rfl, hp⟩
  have HP := Lib.hid hp
  have HR1 : RowKit.Hid (RefAt w1 rb R F B) := Lib.hid (HT0.out.mem hp).2.1
  have hbx := hp.2.1.heap HB0.out (fun h => Nat.lt_irrefl _ (HBA.out _ (.inl h)))
  have f1 := heap_cell (o := 1) hbx rfl
  clear hp hbx c0 c1 c2 c3
  go_wp2_with fail
  refine (HCr.out _ HR1.out).mono ?_
  rintro e w2 ⟨rfl, rfl⟩
  go_wp2
  go_ret
  exact ⟨rfl, (Tp.of HT0.out HP.out ⟨HR1.out, Fr.refl _ _, Gr.refl _ _⟩).ahead hF0⟩

set_option maxHeartbeats 2000000 in
set_option maxRecDepth 1000000 in
theorem act5_calls (mb rb : Nat) (A R : Nat → Prop) (F B : List Int) (d a n : Int) (au : Option Addr) (lu cu : Nat) (l : List Int) (w : World) (hT : Two w mb A rb R F B B) (ha : -9223372036854775808 ≤ a ∧ a ≤ 9223372036854775807) (hn : -9223372036854775808 ≤ n ∧ n ≤ 9223372036854775807)
    (hu : Sl w (.slice au lu cu) l.length (bys l)) (huA : ∀ k, (Value.slice au lu cu).ownBlock = some k → l ≠ [] → ¬ A k ∧ ¬ R k) (h0 : ∀ b ∈ l, 0 ≤ b ∧ b < 256) (hlen : l.length ≤ 9223372036854775807) (hd : d = 5) :
    Calls Try.prog 26 #[.pointer (some ⟨mb, 0, none⟩), .pointer (some ⟨rb, 0, none⟩), .agg #[.int .i64 d, .int .i64 a, .int .i64 n, .slice au lu cu]] w fun e w' => e = .returned (.bool true) ∧ Tp w mb A rb R F w' := by
  have hF0 : Fr No w (w.alloc (Obj.cells #[.int .i64 d, .int .i64 a, .int .i64 n, .slice au lu cu] 56)) := (Fr.refl _ _).alloc _
  have hb0 := heap_new w (Obj.cells #[.int .i64 d, .int .i64 a, .int .i64 n, .slice au lu cu] 56)
  have hbA : ∀ k, A k ∨ R k → k < w.heap.size := fun k hk => hk.elim (hT.1.low k) (hT.2.1.low k)
  have HT0 := Lib.hid (hT.fr0 hF0)
  have HBA := Lib.hid hbA
  have HA := Lib.hid ha
  have hwa : IntKind.i64.wrap a = a := IntWalk.i64_in _ ha
  have hwn : IntKind.i64.wrap n = n := IntWalk.i64_in _ hn
  have HN := Lib.hid hn
  have HU := Lib.hid hu
  have HUA := Lib.hid huA
  have HL0 := Lib.hid h0
  have c0 := heap_cell (o := 0) hb0 rfl
  have c1 := heap_cell (o := 1) hb0 rfl
  have c2 := heap_cell (o := 2) hb0 rfl
  have c3 := heap_cell (o := 3) hb0 rfl
  have HB0 := Lib.hid hb0
  have hd0 : (d == 0) = false := by simp; omega
  have hd1 : (d == 1) = false := by simp; omega
  have hd2 : (d == 2) = false := by simp; omega
  have hd3 : (d == 3) = false := by simp; omega
  have hd4 : (d == 4) = false := by simp; omega
  have hd5 : (d == 5) = true := by simp; omega
  have HCm := Lib.hid (fun (w1 : World) (h : MemAt w1 mb A F B) => cell_calls h a ha)
  have HCr := Lib.hid (fun (w1 : World) (h : RefAt w1 rb R F B) => rcell_calls h a ha)
  generalize (if insF a 8 0 8192 = 0 then getF B a else 0) = x at *
  generalize insF a 8 0 8192 = t at *
  clear hT hbA ha hn hu huA h0 hd hb0
  go_enter Try.func26, Try.ntmps26
  go_wp2_with fail
  generalize w.alloc _ = W at *
  have HM0 : RowKit.Hid (MemAt W mb A F B) := Lib.hid HT0.out.1
  refine (HCm.out _ HM0.out).mono ?_
  rintro e w1 ⟨A1, rfl, hp⟩
  have HP := Lib.hid hp
  have HR1 : RowKit.Hid (RefAt w1 rb R F B) := Lib.hid (HT0.out.mem hp).2.1
  have hbx := hp.2.1.heap HB0.out (fun h => Nat.lt_irrefl _ (HBA.out _ (.inl h)))
  have f1 := heap_cell (o := 1) hbx rfl
  clear hp hbx c0 c1 c2 c3
  go_wp2_with fail
  refine (HCr.out _ HR1.out).mono ?_
  rintro e w2 ⟨rfl, rfl⟩
  go_wp2
  go_ret
  exact ⟨rfl, (Tp.of HT0.out HP.out ⟨HR1.out, Fr.refl _ _, Gr.refl _ _⟩).ahead hF0⟩

set_option maxHeartbeats 2000000 in
set_option maxRecDepth 1000000 in
theorem act6_calls (mb rb : Nat) (A R : Nat → Prop) (F B : List Int) (d a n : Int) (au : Option Addr) (lu cu : Nat) (l : List Int) (w : World) (hT : Two w mb A rb R F B B) (ha : -9223372036854775808 ≤ a ∧ a ≤ 9223372036854775807) (hn : -9223372036854775808 ≤ n ∧ n ≤ 9223372036854775807)
    (hu : Sl w (.slice au lu cu) l.length (bys l)) (huA : ∀ k, (Value.slice au lu cu).ownBlock = some k → l ≠ [] → ¬ A k ∧ ¬ R k) (h0 : ∀ b ∈ l, 0 ≤ b ∧ b < 256) (hlen : l.length ≤ 9223372036854775807) (hd : d = 6) :
    Calls Try.prog 26 #[.pointer (some ⟨mb, 0, none⟩), .pointer (some ⟨rb, 0, none⟩), .agg #[.int .i64 d, .int .i64 a, .int .i64 n, .slice au lu cu]] w fun e w' => e = .returned (.bool true) ∧ Tp w mb A rb R F w' := by
  have hF0 : Fr No w (w.alloc (Obj.cells #[.int .i64 d, .int .i64 a, .int .i64 n, .slice au lu cu] 56)) := (Fr.refl _ _).alloc _
  have hb0 := heap_new w (Obj.cells #[.int .i64 d, .int .i64 a, .int .i64 n, .slice au lu cu] 56)
  have hbA : ∀ k, A k ∨ R k → k < w.heap.size := fun k hk => hk.elim (hT.1.low k) (hT.2.1.low k)
  have HT0 := Lib.hid (hT.fr0 hF0)
  have HBA := Lib.hid hbA
  have HA := Lib.hid ha
  have hwa : IntKind.i64.wrap a = a := IntWalk.i64_in _ ha
  have hwn : IntKind.i64.wrap n = n := IntWalk.i64_in _ hn
  have HN := Lib.hid hn
  have HU := Lib.hid hu
  have HUA := Lib.hid huA
  have HL0 := Lib.hid h0
  have c0 := heap_cell (o := 0) hb0 rfl
  have c1 := heap_cell (o := 1) hb0 rfl
  have c2 := heap_cell (o := 2) hb0 rfl
  have c3 := heap_cell (o := 3) hb0 rfl
  have HB0 := Lib.hid hb0
  have hd0 : (d == 0) = false := by simp; omega
  have hd1 : (d == 1) = false := by simp; omega
  have hd2 : (d == 2) = false := by simp; omega
  have hd3 : (d == 3) = false := by simp; omega
  have hd4 : (d == 4) = false := by simp; omega
  have hd5 : (d == 5) = false := by simp; omega
  have hd6 : (d == 6) = true := by simp; omega
  have HCm := Lib.hid (fun (w1 : World) (h : MemAt w1 mb A F B) => get_calls h a ha)
  have HCr := Lib.hid (fun (w1 : World) (h : RefAt w1 rb R F B) => rget_calls h a ha)
  generalize getF B a = x at *
  clear hT hbA ha hn hu huA h0 hd hb0
  go_enter Try.func26, Try.ntmps26
  go_upto_region 23 with fail
  generalize w.alloc _ = W at *
  have HTd := Lib.hid (HT0.out.fr0 (Fr.refl No W).drew)
  have HMd : RowKit.Hid (MemAt W.drew mb A F B) := Lib.hid HTd.out.1
  have e1 : W.drew.cell? ⟨w.heap.size, 1, none⟩ = _ := c1
  go_region_held3 (fun w' => w'.cell? ⟨w.heap.size, 1, none⟩ = some (.int .i64 a))
    (first | exact c1 | exact e1 | exact f1 | fail "keep")
    (first
    | (go_at_call 33; ((with_reducible refine (HCm.out _ HMd.out).mono ?_); rintro e w1 ⟨A1, rfl, hp⟩; have HP := Lib.hid hp; have HR1 : RowKit.Hid (RefAt w1 rb R F B) := Lib.hid (HTd.out.mem hp).2.1; have hbx := hp.2.1.heap (show W.drew.heap[w.heap.size]? = _ from HB0.out) (fun h => Nat.lt_irrefl _ (HBA.out _ (.inl h))); have f1 := heap_cell (o := 1) hbx rfl; clear hp hbx))
    | (go_at_call 54; ((with_reducible refine (HCr.out _ HR1.out).mono ?_); rintro e w2 ⟨rfl, rfl⟩))
    | fail "arm")
  all_goals (
    go_wp2
    go_ret
    exact ⟨rfl, (Tp.of HTd.out HP.out ⟨HR1.out, Fr.refl _ _, Gr.refl _ _⟩).ahead (hF0.drew)⟩)

end Go.Proofs.Ytbjffempiaohpaa
namespace Go.Proofs.Ytbjffempiaohpaa
set_option linter.unusedVariables false
set_option linter.unusedSimpArgs false
open Go.RowKit Go.Shelf Go.Maps

theorem row_convN {w : World} {b : Nat} {B : List Int} {a : Int} {N : Nat} (h : Row w b 5 (loadF B a N)) :
    (convert 22 9 (.slice (some ⟨b, 0, none⟩) N N)).run Try.prog w = .ok (.string (strOfNums (loadF B a N))) w := by
  have h2 := conv_sl (w := w) (a := some ⟨b, 0, none⟩) (cap := N) (l := loadF B a N) (by have := h.sl; rw [loadF_length] at this ⊢; exact this)
  rw [loadF_length] at h2
  exact h2

set_option maxHeartbeats 2000000 in
set_option maxRecDepth 1000000 in
theorem act7_calls (mb rb : Nat) (A R : Nat → Prop) (F B : List Int) (d a n : Int) (au : Option Addr) (lu cu : Nat) (l : List Int) (w : World) (hT : Two w mb A rb R F B B) (ha : -9223372036854775808 ≤ a ∧ a ≤ 9223372036854775807) (hn : -9223372036854775808 ≤ n ∧ n ≤ 9223372036854775807)
    (hu : Sl w (.slice au lu cu) l.length (bys l)) (huA : ∀ k, (Value.slice au lu cu).ownBlock = some k → l ≠ [] → ¬ A k ∧ ¬ R k) (h0 : ∀ b ∈ l, 0 ≤ b ∧ b < 256) (hlen : l.length ≤ 9223372036854775807) (hd : d < 0 ∨ 6 < d) :
    Calls Try.prog 26 #[.pointer (some ⟨mb, 0, none⟩), .pointer (some ⟨rb, 0, none⟩), .agg #[.int .i64 d, .int .i64 a, .int .i64 n, .slice au lu cu]] w fun e w' => e = .returned (.bool true) ∧ Tp w mb A rb R F w' := by
  have hF0 : Fr No w (w.alloc (Obj.cells #[.int .i64 d, .int .i64 a, .int .i64 n, .slice au lu cu] 56)) := (Fr.refl _ _).alloc _
  have hb0 := heap_new w (Obj.cells #[.int .i64 d, .int .i64 a, .int .i64 n, .slice au lu cu] 56)
  have hbA : ∀ k, A k ∨ R k → k < w.heap.size := fun k hk => hk.elim (hT.1.low k) (hT.2.1.low k)
  have HT0 := Lib.hid (hT.fr0 hF0)
  have HBA := Lib.hid hbA
  have HA := Lib.hid ha
  have hwa : IntKind.i64.wrap a = a := IntWalk.i64_in _ ha
  have hwn : IntKind.i64.wrap n = n := IntWalk.i64_in _ hn
  have HN := Lib.hid hn
  have HU := Lib.hid hu
  have HUA := Lib.hid huA
  have HL0 := Lib.hid h0
  have c0 := heap_cell (o := 0) hb0 rfl
  have c1 := heap_cell (o := 1) hb0 rfl
  have c2 := heap_cell (o := 2) hb0 rfl
  have c3 := heap_cell (o := 3) hb0 rfl
  have HB0 := Lib.hid hb0
  have hd0 : (d == 0) = false := by simp; omega
  have hd1 : (d == 1) = false := by simp; omega
  have hd2 : (d == 2) = false := by simp; omega
  have hd3 : (d == 3) = false := by simp; omega
  have hd4 : (d == 4) = false := by simp; omega
  have hd5 : (d == 5) = false := by simp; omega
  have hd6 : (d == 6) = false := by simp; omega
  obtain ⟨N, hN⟩ : ∃ N : Nat, min (max n 0) 8192 = (N : Int) := ⟨(min (max n 0) 8192).toNat, by omega⟩
  have HNN := Lib.hid hN
  have HCV := Lib.hid (fun (w' : World) (b : Nat) (h : Row w' b 5 (loadF B a N)) => row_convN h)
  have HLr := Lib.hid (fun (w1 : World) (h : RefAt w1 rb R F B) => rload_calls h a n N hN ha)
  clear hN
  clear hT hbA ha hn hu huA h0 hd hb0
  go_enter Try.func26, Try.ntmps26
  go_upto_region 24 with fail
  generalize w.alloc _ = W at *
  have HTd := Lib.hid (HT0.out.fr0 (Fr.refl No W).drew)
  have HLm := Lib.hid (load_calls HTd.out.1 a n N HNN.out HA.out)
  generalize strOfNums (loadF B a N) = st at *
  have e1 : W.drew.cell? ⟨w.heap.size, 1, none⟩ = _ := c1
  have e2 : W.drew.cell? ⟨w.heap.size, 2, none⟩ = _ := c2
  refine wp_region_held_drew (S := (fun w' => w'.cell? ⟨w.heap.size, 1, none⟩ = some (.int .i64 a) ∧ w'.cell? ⟨w.heap.size, 2, none⟩ = some (.int .i64 n))) (by kernel_rfl) ⟨e1, e2⟩ (fun hS0 => ?_)
  refine take_at (i := 0) (d := some 134) (v := ?_) rfl rfl (by kernel_rfl) (by kernel_rfl) (by kernel_rfl) (fun _ _ _ h => h) (Or.inl ⟨by rfl, ?_⟩) (by assumption) ?_
  rotate_left
  · intro w hSw; go_simp; try (with_reducible rfl)
  try simp only [Act.put, List.setIfInBounds_toArray, List.set_cons_zero, List.set_cons_succ]
  refine take_at (i := 1) (d := some 135) (v := ?_) rfl rfl (by kernel_rfl) (by kernel_rfl) (by kernel_rfl) (fun _ _ _ h => h) (Or.inl ⟨by rfl, ?_⟩) (by assumption) ?_
  rotate_left
  · intro w hSw; go_simp; try (with_reducible rfl)
  try simp only [Act.put, List.setIfInBounds_toArray, List.set_cons_zero, List.set_cons_succ]
  refine take_at (i := 2) (d := some 136) (v := ?_) rfl rfl (by kernel_rfl) (by kernel_rfl) (by kernel_rfl) (fun _ _ _ h => h) (Or.inl ⟨by rfl, ?_⟩) (by assumption) ?_
  rotate_left
  · intro w hSw; go_simp; try (with_reducible rfl)
  try simp only [Act.put, List.setIfInBounds_toArray, List.set_cons_zero, List.set_cons_succ]
  refine take_at (i := 3) (d := some 137) (v := ?_) rfl rfl (by kernel_rfl) (by kernel_rfl) (by kernel_rfl) (fun _ _ _ h => h) (Or.inl ⟨by rfl, ?_⟩) (by assumption) ?_
  rotate_left
  · intro w hSw; go_simp; try (with_reducible rfl)
  try simp only [Act.put, List.setIfInBounds_toArray, List.set_cons_zero, List.set_cons_succ]
  refine take_at (i := 4) (d := some 138) (v := ?_) rfl rfl (by kernel_rfl) (by kernel_rfl) (by kernel_rfl) (fun _ _ _ h => h) (Or.inl ⟨by rfl, ?_⟩) (by assumption) ?_
  rotate_left
  · intro w hSw; go_simp; try (with_reducible rfl)
  try simp only [Act.put, List.setIfInBounds_toArray, List.set_cons_zero, List.set_cons_succ]
  refine take_at (i := 7) (d := some 141) (v := ?_) rfl rfl (by kernel_rfl) (by kernel_rfl) (by kernel_rfl) (fun _ _ _ h => h) (Or.inl ⟨by rfl, ?_⟩) (by assumption) ?_
  rotate_left
  · intro w hSw; go_simp; try (with_reducible rfl)
  try simp only [Act.put, List.setIfInBounds_toArray, List.set_cons_zero, List.set_cons_succ]
  refine take_at (i := 8) (d := some 142) (v := ?_) rfl rfl (by kernel_rfl) (by kernel_rfl) (by kernel_rfl) (fun _ _ _ h => h) (Or.inl ⟨by rfl, ?_⟩) (by assumption) ?_
  rotate_left
  · intro w hSw; go_simp; try (with_reducible rfl)
  try simp only [Act.put, List.setIfInBounds_toArray, List.set_cons_zero, List.set_cons_succ]
  refine take_at (i := 9) (d := some 143) (v := ?_) rfl rfl (by kernel_rfl) (by kernel_rfl) (by kernel_rfl) (fun _ _ _ h => h) (Or.inl ⟨by rfl, ?_⟩) (by assumption) ?_
  rotate_left
  · intro w hSw; go_simp; try (with_reducible rfl)
  try simp only [Act.put, List.setIfInBounds_toArray, List.set_cons_zero, List.set_cons_succ]
  refine take_at (i := 10) (d := some 144) (v := ?_) rfl rfl (by kernel_rfl) (by kernel_rfl) (by kernel_rfl) (fun _ _ _ h => h) (Or.inl ⟨by rfl, ?_⟩) (by assumption) ?_
  rotate_left
  · intro w hSw; go_simp; try (with_reducible rfl)
  try simp only [Act.put, List.setIfInBounds_toArray, List.set_cons_zero, List.set_cons_succ]
  refine take_at (i := 11) (d := some 145) (v := ?_) rfl rfl (by kernel_rfl) (by kernel_rfl) (by kernel_rfl) (fun _ _ _ h => h) (Or.inl ⟨by rfl, ?_⟩) (by assumption) ?_
  rotate_left
  · intro w hSw; go_simp; try (with_reducible rfl)
  try simp only [Act.put, List.setIfInBounds_toArray, List.set_cons_zero, List.set_cons_succ]
  refine wpAnyH_ready (rs := [5]) (by kernel_rfl) (by simp) ?_
  refine AllReadyH.cons rfl (fun K hK => ?_) AllReadyH.nil
  go_simp
  go_wp2_with (go_at_call 20; ((with_reducible refine HLm.out.mono ?_); rintro e w1 ⟨b1, A1, rfl, hp, hr, hnA, hlb⟩; have HP := Lib.hid hp; have HR1 : RowKit.Hid (RefAt w1 rb R F B) := Lib.hid (HTd.out.mem hp).2.1; have hbx := hp.2.1.heap (show W.drew.heap[w.heap.size]? = _ from HB0.out) (fun h => Nat.lt_irrefl _ (HBA.out _ (.inl h))); have f1 := heap_cell (o := 1) hbx rfl; have f2 := heap_cell (o := 2) hbx rfl; have q1 := HCV.out w1 b1 hr; have HRW := Lib.hid hr; have HBX := Lib.hid hbx; clear hp hbx hr hnA hlb))
  refine hK.out _ _ ⟨f1, f2⟩ (fun hHeld => ?_)
  clear hK K
  try simp only [Act.put, List.setIfInBounds_toArray, List.set_cons_zero, List.set_cons_succ]
  refine wpAnyH_ready (rs := [6, 12]) (by kernel_rfl) (by simp) ?_
  refine AllReadyH.cons rfl (fun K hK => ?_) (AllReadyH.cons rfl (fun K hK => ?_) AllReadyH.nil)
  · go_simp
    refine hK.out _ _ ⟨f1, f2⟩ (fun hHeld => ?_)
    clear hK K
    try simp only [Act.put, List.setIfInBounds_toArray, List.set_cons_zero, List.set_cons_succ]
    refine wpAnyH_ready (rs := [12]) (by kernel_rfl) (by simp) ?_
    refine AllReadyH.cons rfl (fun K hK => ?_) AllReadyH.nil
    go_simp
    go_wp2_with (go_at_call 55; ((with_reducible refine (HLr.out _ HR1.out).mono ?_); rintro e w2 ⟨b2, rfl, hF2, hr2, hlb2⟩; have g1 := hF2.cell f1 (fun h => h); have g2 := hF2.cell f2 (fun h => h); have q2 := HCV.out w2 b1 (HRW.out.fr hF2 (fun h => h)); have q3 := HCV.out w2 b2 hr2; have HF2 := Lib.hid hF2; clear hF2 hr2 hlb2))
    refine hK.out _ _ ⟨g1, g2⟩ (fun hHeld => ?_)
    clear hK K
    try simp only [Act.put, List.setIfInBounds_toArray, List.set_cons_zero, List.set_cons_succ]
    refine wpAnyH_ready (rs := [13]) (by kernel_rfl) (by simp) ?_
    refine AllReadyH.cons rfl (fun K hK => ?_) AllReadyH.nil
    go_simp
    refine hK.out _ _ ⟨g1, g2⟩ (fun hHeld => ?_)
    clear hK K
    try simp only [Act.put, List.setIfInBounds_toArray, List.set_cons_zero, List.set_cons_succ]
    refine take_at (i := 14) (d := some 148) (v := ?_) rfl rfl (by kernel_rfl) (by kernel_rfl) (by kernel_rfl) (fun _ _ _ h => h) (Or.inl ⟨by rfl, ?_⟩) (by assumption) ?_
    rotate_left
    · intro w hSw; go_simp; try (with_reducible rfl)
    try simp only [Act.put, List.setIfInBounds_toArray, List.set_cons_zero, List.set_cons_succ]
    refine take_at (i := 15) (d := some 6) (v := ?_) rfl rfl (by kernel_rfl) (by kernel_rfl) (by kernel_rfl) (fun _ _ _ h => h) (Or.inl ⟨by rfl, ?_⟩) (by assumption) ?_
    rotate_left
    · intro w hSw; go_simp; try (with_reducible rfl)
    try simp only [Act.put, List.setIfInBounds_toArray, List.set_cons_zero, List.set_cons_succ]
    refine wpAnyH_done (by kernel_rfl) ?_ _
    go_wp2
    go_ret
    exact ⟨rfl, ((Tp.of HTd.out HP.out ⟨HR1.out, Fr.refl _ _, Gr.refl _ _⟩).fr HF2.out).ahead (hF0.drew)⟩
  · go_simp
    go_wp2_with (go_at_call 55; ((with_reducible refine (HLr.out _ HR1.out).mono ?_); rintro e w2 ⟨b2, rfl, hF2, hr2, hlb2⟩; have g1 := hF2.cell f1 (fun h => h); have g2 := hF2.cell f2 (fun h => h); have q2 := HCV.out w2 b1 (HRW.out.fr hF2 (fun h => h)); have q3 := HCV.out w2 b2 hr2; have HF2 := Lib.hid hF2; clear hF2 hr2 hlb2))
    refine hK.out _ _ ⟨g1, g2⟩ (fun hHeld => ?_)
    clear hK K
    try simp only [Act.put, List.setIfInBounds_toArray, List.set_cons_zero, List.set_cons_succ]
    refine wpAnyH_ready (rs := [6, 13]) (by kernel_rfl) (by simp) ?_
    refine AllReadyH.cons rfl (fun K hK => ?_) (AllReadyH.cons rfl (fun K hK => ?_) AllReadyH.nil)
    · go_simp
      refine hK.out _ _ ⟨g1, g2⟩ (fun hHeld => ?_)
      clear hK K
      try simp only [Act.put, List.setIfInBounds_toArray, List.set_cons_zero, List.set_cons_succ]
      refine wpAnyH_ready (rs := [13]) (by kernel_rfl) (by simp) ?_
      refine AllReadyH.cons rfl (fun K hK => ?_) AllReadyH.nil
      go_simp
      refine hK.out _ _ ⟨g1, g2⟩ (fun hHeld => ?_)
      clear hK K
      try simp only [Act.put, List.setIfInBounds_toArray, List.set_cons_zero, List.set_cons_succ]
      refine take_at (i := 14) (d := some 148) (v := ?_) rfl rfl (by kernel_rfl) (by kernel_rfl) (by kernel_rfl) (fun _ _ _ h => h) (Or.inl ⟨by rfl, ?_⟩) (by assumption) ?_
      rotate_left
      · intro w hSw; go_simp; try (with_reducible rfl)
      try simp only [Act.put, List.setIfInBounds_toArray, List.set_cons_zero, List.set_cons_succ]
      refine take_at (i := 15) (d := some 6) (v := ?_) rfl rfl (by kernel_rfl) (by kernel_rfl) (by kernel_rfl) (fun _ _ _ h => h) (Or.inl ⟨by rfl, ?_⟩) (by assumption) ?_
      rotate_left
      · intro w hSw; go_simp; try (with_reducible rfl)
      try simp only [Act.put, List.setIfInBounds_toArray, List.set_cons_zero, List.set_cons_succ]
      refine wpAnyH_done (by kernel_rfl) ?_ _
      go_wp2
      go_ret
      exact ⟨rfl, ((Tp.of HTd.out HP.out ⟨HR1.out, Fr.refl _ _, Gr.refl _ _⟩).fr HF2.out).ahead (hF0.drew)⟩
    · go_simp
      refine hK.out _ _ ⟨g1, g2⟩ (fun hHeld => ?_)
      clear hK K
      try simp only [Act.put, List.setIfInBounds_toArray, List.set_cons_zero, List.set_cons_succ]
      refine wpAnyH_ready (rs := [6]) (by kernel_rfl) (by simp) ?_
      refine AllReadyH.cons rfl (fun K hK => ?_) AllReadyH.nil
      go_simp
      refine hK.out _ _ ⟨g1, g2⟩ (fun hHeld => ?_)
      clear hK K
      try simp only [Act.put, List.setIfInBounds_toArray, List.set_cons_zero, List.set_cons_succ]
      refine take_at (i := 14) (d := some 148) (v := ?_) rfl rfl (by kernel_rfl) (by kernel_rfl) (by kernel_rfl) (fun _ _ _ h => h) (Or.inl ⟨by rfl, ?_⟩) (by assumption) ?_
      rotate_left
      · intro w hSw; go_simp; try (with_reducible rfl)
      try simp only [Act.put, List.setIfInBounds_toArray, List.set_cons_zero, List.set_cons_succ]
      refine take_at (i := 15) (d := some 6) (v := ?_) rfl rfl (by kernel_rfl) (by kernel_rfl) (by kernel_rfl) (fun _ _ _ h => h) (Or.inl ⟨by rfl, ?_⟩) (by assumption) ?_
      rotate_left
      · intro w hSw; go_simp; try (with_reducible rfl)
      try simp only [Act.put, List.setIfInBounds_toArray, List.set_cons_zero, List.set_cons_succ]
      refine wpAnyH_done (by kernel_rfl) ?_ _
      go_wp2
      go_ret
      exact ⟨rfl, ((Tp.of HTd.out HP.out ⟨HR1.out, Fr.refl _ _, Gr.refl _ _⟩).fr HF2.out).ahead (hF0.drew)⟩

end Go.Proofs.Ytbjffempiaohpaa
namespace Go.Proofs.Ytbjffempiaohpaa
set_option linter.unusedVariables false
set_option linter.unusedSimpArgs false
open Go.RowKit Go.Shelf Go.Maps

theorem act_calls (mb rb : Nat) (A R : Nat → Prop) (F B : List Int) (d a n : Int) (au : Option Addr) (lu cu : Nat) (l : List Int) (w : World) (hT : Two w mb A rb R F B B) (ha : -9223372036854775808 ≤ a ∧ a ≤ 9223372036854775807) (hn : -9223372036854775808 ≤ n ∧ n ≤ 9223372036854775807)
    (hu : Sl w (.slice au lu cu) l.length (bys l)) (huA : ∀ k, (Value.slice au lu cu).ownBlock = some k → l ≠ [] → ¬ A k ∧ ¬ R k) (h0 : ∀ b ∈ l, 0 ≤ b ∧ b < 256) (hlen : l.length ≤ 9223372036854775807) :
    Calls Try.prog 26 #[.pointer (some ⟨mb, 0, none⟩), .pointer (some ⟨rb, 0, none⟩), .agg #[.int .i64 d, .int .i64 a, .int .i64 n, .slice au lu cu]] w fun e w' => e = .returned (.bool true) ∧ Tp w mb A rb R F w' := by
  by_cases h : d < 0 ∨ 6 < d
  · exact act7_calls mb rb A R F B d a n au lu cu l w hT ha hn hu huA h0 hlen h
  · rcases (by omega : d = 0 ∨ d = 1 ∨ d = 2 ∨ d = 3 ∨ d = 4 ∨ d = 5 ∨ d = 6) with h | h | h | h | h | h | h
    · exact act0_calls mb rb A R F B d a n au lu cu l w hT ha hn hu huA h0 hlen h
    · exact act1_calls mb rb A R F B d a n au lu cu l w hT ha hn hu huA h0 hlen h
    · exact act2_calls mb rb A R F B d a n au lu cu l w hT ha hn hu huA h0 hlen h
    · exact act3_calls mb rb A R F B d a n au lu cu l w hT ha hn hu huA h0 hlen h
    · exact act4_calls mb rb A R F B d a n au lu cu l w hT ha hn hu huA h0 hlen h
    · exact act5_calls mb rb A R F B d a n au lu cu l w hT ha hn hu huA h0 hlen h
    · exact act6_calls mb rb A R F B d a n au lu cu l w hT ha hn hu huA h0 hlen h

/-- A call as a value: its kind, two numbers, a slice. -/
abbrev ActT := Int × Int × Int × Option Addr × Nat × Nat
def actCell (y : ActT) : List Value := [.int .i64 y.1, .int .i64 y.2.1, .int .i64 y.2.2.1, .slice y.2.2.2.1 y.2.2.2.2.1 y.2.2.2.2.2]
theorem flat_get {α : Type} (cells : α → List Value) (sz : Nat) (hcl : ∀ y, (cells y).length = sz) (L : List α) (k i : Nat) (hk : k < L.length) (hi : i < sz) : (L.flatMap cells)[k * sz + i]? = (cells L[k])[i]? := by
  induction L generalizing k with
  | nil => simp at hk
  | cons y L ih =>
    rw [List.flatMap_cons]
    cases k with
    | zero => rw [List.getElem?_append_left (by rw [hcl]; omega)]; simp
    | succ k =>
      rw [List.getElem?_append_right (by rw [hcl, Nat.succ_mul]; omega), hcl]
      have := ih k (by simp at hk; omega)
      rw [show (k + 1) * sz + i - sz = k * sz + i by rw [Nat.succ_mul]; omega]
      simpa using this

set_option maxHeartbeats 1000000 in
set_option maxRecDepth 1000000 in
theorem few_calls (v : Value) (L : List ActT) (w : World) (hlen : L.length ≤ 9223372036854775807) (hv : Sl w v L.length (L.flatMap actCell)) :
    Calls Try.prog 25 #[v] w fun e w' => ∃ b, e = .returned (.bool b) ∧ Fr No w w' := by
  obtain ⟨av, cap, rfl⟩ := hv.form
  go_enter Try.func25, Try.ntmps25
  go_wp2
  go_loopw [3, 8] (fun s i wr => ∃ (j : Nat) (x : Int), j ≤ L.length ∧ i = .int .i64 j ∧ s = .int .i64 x ∧ Fr No w wr) (fun _ i _ => L.length - (intOf i).toNat)
  case atStart => exact ⟨0, 0, Nat.zero_le _, rfl, rfl, Fr.refl _ _⟩
  case round =>
    obtain ⟨j, x, hj, rfl, rfl, hF⟩ := hrel
    by_cases hlt : j < L.length
    · have g0 := flat_get actCell 4 (fun _ => rfl) L j 0 hlt (by omega)
      have g1 := flat_get actCell 4 (fun _ => rfl) L j 1 hlt (by omega)
      have g2 := flat_get actCell 4 (fun _ => rfl) L j 2 hlt (by omega)
      have g3 := flat_get actCell 4 (fun _ => rfl) L j 3 hlt (by omega)
      revert g0 g1 g2 g3
      generalize L[j] = y
      obtain ⟨d, a, n, au, lu, cu⟩ := y
      intro g0 g1 g2 g3
      simp only [actCell, List.getElem?_cons_zero, List.getElem?_cons_succ] at g0 g1 g2 g3
      obtain ⟨b, off, rfl, hb, hc⟩ := hv.at (by intro e; rw [e] at g0; simp at g0)
      have c0 := hF.cell (hc _ _ g0) (fun h => h)
      have c1 := hF.cell (hc _ _ g1) (fun h => h)
      have c2 := hF.cell (hc _ _ g2) (fun h => h)
      have c3 := hF.cell (hc _ _ g3) (fun h => h)
      simp only [← Nat.add_assoc, Nat.add_zero] at c0 c1 c2 c3
      have HF := Lib.hid hF
      clear hc hv g0 g1 g2 g3 hF
      go_wp2
      all_goals exact ⟨⟨j + 1, _, by omega, by go_num, rfl, HF.out.alloc _⟩, by simp [intOf]; omega⟩
    · have HF := Lib.hid hF
      clear hF hv
      go_wp2
      go_ret
      exact ⟨_, rfl, HF.out⟩
end Go.Proofs.Ytbjffempiaohpaa
namespace Go.Proofs.Ytbjffempiaohpaa
set_option linter.unusedVariables false
set_option linter.unusedSimpArgs false
open Go.RowKit Go.Shelf Go.Maps

set_option maxHeartbeats 1000000 in
set_option maxRecDepth 1000000 in
theorem ints09_calls (va vb : Value) (xs : List Int) (w : World) (hlen : xs.length ≤ 1000000) (h1 : Sl w va xs.length (ints xs)) (h2 : Sl w vb xs.length (ints xs)) :
    Calls Try.prog 27 #[va, vb] w fun e w' => e = .returned (.bool true) ∧ Fr No w w' := by
  obtain ⟨a1, cap1, rfl⟩ := h1.form
  obtain ⟨a2, cap2, rfl⟩ := h2.form
  go_enter Try.func27, Try.ntmps27
  go_wp2
  go_loopw [13] (fun i wr => ∃ j : Nat, j ≤ xs.length ∧ i = .int .i64 j ∧ Fr No w wr) (fun i _ => xs.length - (intOf i).toNat)
  case atStart => exact ⟨0, Nat.zero_le _, rfl, Fr.refl _ _⟩
  case round =>
    obtain ⟨j, hj, rfl, hF⟩ := hrel
    by_cases hlt : j < xs.length
    · obtain ⟨b1, o1, rfl, hb1, hc1⟩ := h1.at (ints_ne _ j hlt)
      obtain ⟨b2, o2, rfl, hb2, hc2⟩ := h2.at (ints_ne _ j hlt)
      have q1 := hF.cell (hc1 _ _ (ints_get _ j hlt)) (fun h => h)
      have q2 := hF.cell (hc2 _ _ (ints_get _ j hlt)) (fun h => h)
      revert q1 q2
      generalize xs[j] = x
      intro q1 q2
      have HF := Lib.hid hF
      clear h1 h2 hc1 hc2 hF
      go_wp2
      go_quiet (fail)
      go_wp2
      exact ⟨⟨j + 1, by omega, by go_num, HF.out.drewN _⟩, by simp [intOf]; omega⟩
    · have HF := Lib.hid hF
      clear h1 h2 hF
      go_wp2
      go_ret
      exact ⟨rfl, HF.out⟩

/-- The pages that differ, of the first so many. -/
def dirtyN (F B : List Int) : Nat → List Int
  | 0 => []
  | p + 1 => if pg B p = pg F p then dirtyN F B p else dirtyN F B p ++ [(p : Int)]
theorem dirtyN_length (F B : List Int) (p : Nat) : (dirtyN F B p).length ≤ p := by
  induction p with
  | zero => simp [dirtyN]
  | succ p ih => rw [dirtyN]; split
                 · omega
                 · simp; omega
theorem sub_conv {w : World} {g cap p : Nat} {B : List Int} (hB : B.length = 8192) (hp : p < 128) (h : Sl w (.slice (some ⟨g, 0, none⟩) 8192 cap) 8192 (bys B)) :
    (convert 22 9 (.slice (some ⟨g, p * 64, none⟩) 64 (cap - p * 64))).run Try.prog w = .ok (.string (strOfNums (pg B p))) w := by
  have hl := pg_length B p hB hp
  have hcap := h.le
  have h3 := (h.drop (k := p * 64) (size := 1) (by omega) (by rw [bys_len]; omega))
  rw [if_neg (by omega)] at h3
  have h4 := h3.take (k := 64) (by omega) 1
  have h5 : Sl w (.slice (some ⟨g, p * 64, none⟩) 64 (cap - p * 64)) 64 (bys (pg B p)) := by
    rw [show bys (pg B p) = ((bys B).drop (p * 64 * 1)).take (64 * 1) by simp [pg, bys, List.map_take, List.map_drop, Nat.mul_comm]]
    have : (⟨g, 0, none⟩ : Addr).add (p * 64) = ⟨g, p * 64, none⟩ := by simp only [Addr.add]; split <;> simp_all
    simpa [this] using h4
  have h2 := conv_sl (w := w) (a := some ⟨g, p * 64, none⟩) (cap := cap - p * 64) (l := pg B p) (by rw [hl]; exact h5)
  rw [hl] at h2
  exact h2

theorem neq_str (w : World) (x y : ByteArray) (h : ¬ x = y) : (binOp BinOp.neq 9 (.string x) (.string y)).run Try.prog w = .ok (.bool true) w := by
  have h2 : ¬ x.data.toList = y.data.toList := fun e => h (ByteArray.ext (Array.toList_inj.1 e))
  simp [binOp, Op.stringOp, go_sem, h]
  rw [ByteArray.toList_eq, ByteArray.toList_eq]
  simpa using h2

set_option maxHeartbeats 1000000 in
set_option maxRecDepth 1000000 in
theorem rdirty_calls {w : World} {rb : Nat} {R : Nat → Prop} {F B : List Int} (h : RefAt w rb R F B) (hFl : F.length = 8192) (hFr : ∀ b ∈ F, 0 ≤ b ∧ b < 256) :
    Calls Try.prog 29 #[.pointer (some ⟨rb, 0, none⟩)] w fun e w' => ∃ r, e = .returned r ∧ Fr No w w' ∧ Sl w' r (dirtyN F B 128).length (ints (dirtyN F B 128)) := by
  obtain ⟨g, cap, gw, h⟩ := h.inn
  have HM := Lib.hid h
  clear h
  go_enter Try.func29, Try.ntmps29
  go_wp2
  go_loopw [3, 4] (fun o i wr => ∃ p : Nat, p ≤ 128 ∧ i = .int .i64 p ∧ wr.ownsRow w.heap.size 3 1 o (dirtyN F B p).length (ints (dirtyN F B p)) ∧ Fr No w wr) (fun _ i _ => 128 - (intOf i).toNat)
  case atStart => exact ⟨0, Nat.zero_le _, rfl, World.ownsRow_nil _ _ _ _, Fr.refl _ _⟩
  case round =>
    obtain ⟨p, hp, rfl, hrow, hF⟩ := hrel
    by_cases hlt : p < 128
    · obtain ⟨a4, cap4, rfl⟩ := (Sl.of_owns hrow).form
      have hM := HM.out.fr hF (fun _ h => h.elim)
      have c0 := heap_cell (o := 0) hM.box rfl
      have c1 := heap_cell (o := 1) hM.box rfl
      have hcap := (Sl.of_owns hM.row).le
      have q1 : ∀ n, (convert 22 9 (.slice (some ⟨g, p * 64, none⟩) 64 (cap - p * 64))).run Try.prog (wr.drewN n) = .ok (.string (strOfNums (pg B p))) (wr.drewN n) := fun n =>
        sub_conv hM.blen hlt ((Sl.of_owns hM.row).fr0 ((Fr.refl No wr).drewN n))
      have q2 : ∀ n, (convert 22 9 (.slice (some ⟨gw, p * 64, none⟩) 64 (8192 - p * 64))).run Try.prog (wr.drewN n) = .ok (.string (strOfNums (pg F p))) (wr.drewN n) := fun n =>
        sub_conv hFl hlt (by have := (hM.was.fr (S := No) ((Fr.refl No wr).drewN n) (fun h => h)).sl; rw [hFl] at this; exact this)
      have hs : dirtyN F B (p + 1) = if pg B p = pg F p then dirtyN F B p else dirtyN F B p ++ [(p : Int)] := rfl
      have hin : strOfNums (pg B p) = strOfNums (pg F p) → pg B p = pg F p := fun e => strOfNums_inj (pg_range B p hM.brange) (pg_range F p hFr) e
      have hm1 : IntKind.i64.wrap ((p : Int) * 64) = (p : Int) * 64 := IntWalk.i64_in _ (by omega)
      have hm2 : IntKind.i64.wrap ((p : Int) + 1) = (p : Int) + 1 := IntWalk.i64_in _ (by omega)
      have hm3 : IntKind.i64.wrap (((p : Int) + 1) * 64) = ((p : Int) + 1) * 64 := IntWalk.i64_in _ (by omega)
      have hm4 : ((p : Int) * 64).toNat = p * 64 := by omega
      have hm5 : (((p : Int) + 1) * 64).toNat = p * 64 + 64 := by omega
      have hm6 : (0 : Int) ≤ (p : Int) * 64 := by omega
      have hm7 : (p : Int) * 64 ≤ ((p : Int) + 1) * 64 := by omega
      have hm8 : ((p : Int) + 1) * 64 ≤ 8192 := by omega
      have hm9 : ((p : Int) + 1) * 64 ≤ cap := by omega
      have hm10 : p * 64 + 64 - p * 64 = 64 := by omega
      have hm11 : ¬ cap = p * 64 := by omega
      have hm12 : ¬ 8192 = p * 64 := by omega
      have HS := Lib.hid hs
      have HIN := Lib.hid hin
      have hq0 : pg B p = pg F p ∨ ∀ w, (binOp BinOp.neq 9 (.string (strOfNums (pg B p))) (.string (strOfNums (pg F p)))).run Try.prog w = .ok (.bool true) w := by
        by_cases he : pg B p = pg F p
        · exact .inl he
        · exact .inr (fun w => neq_str w _ _ (fun e => he (hin e)))
      have HF := Lib.hid hF
      have HROW := Lib.hid hrow
      clear hs hin hF hM hrow
      by_cases he : pg B p = pg F p
      · have HD := Lib.hid (show dirtyN F B (p + 1) = dirtyN F B p by rw [HS.out, if_pos he])
        rw [he] at q1
        clear he hq0
        go_wp2
        go_quiet (fail)
        go_wp2
        exact ⟨⟨p + 1, by omega, by go_num, by rw [HD.out]; exact HROW.out, HF.out.drewN _⟩, by simp [intOf]; omega⟩
      · have hne := hq0.resolve_left he
        have HD := Lib.hid (show dirtyN F B (p + 1) = dirtyN F B p ++ [(p : Int)] by rw [HS.out, if_neg he])
        have hdl := dirtyN_length F B p
        have H3 := Lib.hid (show ¬ strOfNums (pg B p) = strOfNums (pg F p) from fun e => he (HIN.out e))
        clear he hq0 hne
        go_wp2
        go_quiet (fail)
        go_wp2_with (at_builtin; refine append_out el_int rfl _ _ rfl w.heap.size (.slice a4 (dirtyN F B p).length cap4) _ _ rfl (World.ownsRow.alloc (w := wr.drewN _) HROW.out _) ⟨wr.heap.size, 0, none⟩ 1 1 [.int .i64 (p : Int)] rfl rfl (cell_one_new _ _ _) (by simp [Value.oneCell']) (by unfold maxLen; omega) (by omega) (by have := HF.out.size; simp; omega) ?_; intro v' w3 hown' hgrow _)
        · exact ⟨⟨p + 1, by omega, by go_num, by rw [HD.out, List.length_append, show ints (dirtyN F B p ++ [(p : Int)]) = ints (dirtyN F B p) ++ [.int .i64 (p : Int)] by simp [ints]]; exact hown', HF.out.grown (grownBy_drewN_alloc hgrow) (fun k e hk => by have := (HROW.out.lt k e).1; omega)⟩, by simp [intOf]; omega⟩
        · rename_i h5
          exfalso
          have h6 : (strOfNums (pg B p)).toList = (strOfNums (pg F p)).toList := by simpa using h5
          rw [ByteArray.toList_eq, ByteArray.toList_eq] at h6
          exact H3.out (ByteArray.ext (Array.toList_inj.1 h6))
    · have HF := Lib.hid hF
      have HROW := Lib.hid hrow
      clear hrow hF
      go_wp2
      go_ret
      refine ⟨_, rfl, HF.out, ?_⟩
      have : p = 128 := by omega
      subst this
      exact Sl.of_owns HROW.out
end Go.Proofs.Ytbjffempiaohpaa
