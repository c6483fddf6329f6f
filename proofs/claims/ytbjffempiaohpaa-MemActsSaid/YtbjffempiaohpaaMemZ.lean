/-
  The memory of chapter 9: the reference's Load; a call on both.
-/
import Derived.Test.YtbjffempiaohpaaMem15
import Derived.Test.YtbjffempiaohpaaIno2
import Derived.Maps.RangeWalk
import Derived.Test.YtbjffempiaohpaaDec1
import Derived.Test.YtbjffempiaohpaaOpen4
import Derived.Shelf.Sort.Plain
import Derived.Shelf.Slices.In.SortNone
import Derived.Test.YtbjffempiaohpaaChecked
import Derived.Sort.OwnSortedInts
namespace Go.Proofs.Ytbjffempiaohpaa
set_option linter.unusedVariables false
set_option linter.unusedSimpArgs false
open Go.RowKit Go.Shelf Go.Maps

set_option maxHeartbeats 1000000 in
set_option maxRecDepth 1000000 in
theorem rload_calls {w : World} {rb : Nat} {R : Nat → Prop} {F B : List Int} (h : RefAt w rb R F B) (a n : Int) (N : Nat) (hN : min (max n 0) 8192 = (N : Int)) (ha : -9223372036854775808 ≤ a ∧ a ≤ 9223372036854775807) :
    Calls Try.prog 55 #[.pointer (some ⟨rb, 0, none⟩), .int .i64 a, .int .i64 n] w fun e w' => ∃ b, e = .returned (.slice (some ⟨b, 0, none⟩) N N) ∧ Fr No w w' ∧ Row w' b 5 (loadF B a N) ∧ w.heap.size ≤ b := by
  have hN2 : N ≤ 8192 := by omega
  have hR0 : Row (w.alloc (.cells (bys (zs N)).toArray 5)) w.heap.size 5 (zs N) := Row.new _ _ _
  have hF0 : Fr No w (w.alloc (.cells (bys (zs N)).toArray 5)) := (Fr.refl _ _).alloc _
  obtain ⟨g, cap, gw, h⟩ := h.inn
  have HM0 := Lib.hid (h.fr hF0 (fun _ h => h.elim))
  have HM := Lib.hid h
  have HN := Lib.hid hN
  obtain ⟨ha1, ha2⟩ := ha
  clear h hN
  go_enter Try.func55, Try.ntmps55
  go_upto_region 1 with fail
  go_cut [7] (fun s7 wx => s7 = .slice (some ⟨w.heap.size, 0, none⟩) N N ∧ wx = w.alloc (.cells (bys (zs N)).toArray 5))
  case first =>
    have hN := HN.out
    by_cases h1 : n < 0
    · obtain rfl : N = 0 := by omega
      have hmk : ∀ w : World, (Instr.makeSlice 22 (.int .i64 0) (.int .i64 0)).run Try.prog w = .ok (.slice (some ⟨w.heap.size, 0, none⟩) 0 0) (w.alloc (.cells (bys (zs 0)).toArray 5)) := fun w => mk_bytes w 0 (by omega)
      clear hN
      go_wp2_with fail
      go_meet
      exact ⟨rfl, rfl⟩
    · by_cases h2 : 8192 < n
      · obtain rfl : N = 8192 := by omega
        have hmk : ∀ w : World, (Instr.makeSlice 22 (.int .i64 8192) (.int .i64 8192)).run Try.prog w = .ok (.slice (some ⟨w.heap.size, 0, none⟩) 8192 8192) (w.alloc (.cells (bys (zs 8192)).toArray 5)) := fun w => mk_bytes w 8192 (by omega)
        generalize (bys (zs 8192)).toArray = cs at *
        clear hN
        go_wp2_with fail
        go_meet
        exact ⟨rfl, rfl⟩
      · obtain rfl : n = N := by omega
        have hmk : ∀ w : World, (Instr.makeSlice 22 (.int .i64 N) (.int .i64 N)).run Try.prog w = .ok (.slice (some ⟨w.heap.size, 0, none⟩) N N) (w.alloc (.cells (bys (zs N)).toArray 5)) := fun w => mk_bytes w N (by omega)
        generalize (bys (zs N)).toArray = cs at *
        clear hN
        go_wp2_with fail
        go_meet
        exact ⟨rfl, rfl⟩
  case rest =>
  obtain ⟨rfl, rfl⟩ := hcut
  generalize hW1 : w.alloc _ = W1 at *
  clear hW1
  go_wp2
  go_loopw [15] (fun i wr => ∃ j : Nat, j ≤ N ∧ i = .int .i64 j ∧ Fr (fun k => k = w.heap.size) W1 wr ∧ Row wr w.heap.size 5 (outN B a N j)) (fun i _ => N - (intOf i).toNat)
  case atStart => exact ⟨0, Nat.zero_le _, rfl, Fr.refl _ _, hR0⟩
  case round =>
    obtain ⟨j, hj, rfl, hF, hR⟩ := hrel
    by_cases hlt : j < N
    · have hjl : j < (outN B a N j).length := by rw [outN_length]; exact hlt
      have HF := Lib.hid hF
      have HR := Lib.hid hR
      by_cases hbig : a ≤ 8192
      · have hw : IntKind.i64.wrap (a + (j : Int)) = a + j := IntWalk.i64_in _ (by omega)
        by_cases hin : 0 ≤ a + (j : Int) ∧ a + (j : Int) < 8192
        · obtain ⟨kk, hkk⟩ : ∃ kk : Nat, a + (j : Int) = kk := ⟨(a + (j : Int)).toNat, by omega⟩
          have hk : kk < 8192 := by omega
          have hlow := HM.out.low
          have hMr := HM0.out.fr hF (fun k e hk => by subst e; exact Nat.lt_irrefl _ (hlow _ hk))
          have hkl : kk < B.length := by rw [HM.out.blen]; exact hk
          have hby : byteAt B (a + j) = B[kk] := by rw [byteAt, if_pos hin, hkk]; simp [List.getD, hkl]
          have c0 := heap_cell (o := 0) hMr.box rfl
          have q0 := (hMr.row.cellAt kk (by omega)).trans (bys_get _ _ hkl)
          have q1 := hR.cell hjl
          have q2 := hR.frozen j
          have hst := hR.set j B[kk]
          have hstep : outN B a N (j + 1) = (outN B a N j).set j B[kk] := by rw [outN, hby]
          revert q0 hst hstep
          generalize B[kk] = x
          intro q0 hst hstep
          rw [← hstep] at hst
          have HST := Lib.hid hst
          rw [hkk] at hw
          revert q1
          generalize (outN B a N j)[j] = y
          intro q1
          clear hst hstep hby hin hMr hF hR hkl hjl hlow
          go_wp2
          go_roundw
          case rel => exact ⟨j + 1, by omega, by go_num, HF.out.setCell (p := ⟨w.heap.size, j, none⟩) (fun _ => rfl) _, HST.out⟩
          case measure => simp [intOf]; omega
        · have hsk := outN_skip B a N j hlt (by rw [byteAt, if_neg hin])
          have HSK := Lib.hid hsk
          by_cases h0 : 0 ≤ a + (j : Int)
          · have h1 : ¬ (a + (j : Int) < 8192) := fun h => hin ⟨h0, h⟩
            clear hin hsk hF hR hjl
            go_wp2
            go_roundw
            case rel => exact ⟨j + 1, by omega, by go_num, HF.out, by rw [HSK.out]; exact HR.out⟩
            case measure => simp [intOf]; omega
          · clear hin hsk hF hR hjl
            go_wp2
            go_roundw
            case rel => exact ⟨j + 1, by omega, by go_num, HF.out, by rw [HSK.out]; exact HR.out⟩
            case measure => simp [intOf]; omega
      · have hsk := outN_skip B a N j hlt (by rw [byteAt, if_neg (by omega)])
        have HSK := Lib.hid hsk
        clear hsk hF hR hjl
        go_wp2
        go_roundw
        case rel => exact ⟨j + 1, by omega, by go_num, HF.out, by rw [HSK.out]; exact HR.out⟩
        case measure => simp [intOf]; omega
    · have HF := Lib.hid hF
      have HR := Lib.hid hR
      clear hF hR
      go_wp2
      go_ret
      refine ⟨_, rfl, hF0.trans' HF.out (fun i hi e => by omega), ?_, Nat.le_refl _⟩
      have : N = j := by omega
      subst this
      exact HR.out

/-- Both memories behind a call. -/
def Tp (w : World) (mb : Nat) (A : Nat → Prop) (rb : Nat) (R : Nat → Prop) (F : List Int) (w' : World) : Prop :=
  ∃ A' R' B', Two w' mb A' rb R' F B' B' ∧ Fr (fun k => A k ∨ R k) w w' ∧ Gr w A A' ∧ Gr w R R'
theorem Tp.of {w w1 w2 : World} {mb rb : Nat} {A A1 R R2 : Nat → Prop} {F B B2 : List Int} (h : Two w mb A rb R F B B) (hp : Mp w mb A F B2 w1 A1) (hq : Rp w1 rb R F B2 w2 R2) : Tp w mb A rb R F w2 :=
  ⟨A1, R2, B2, (h.mem hp).ref hq, (hp.2.1.mono (fun i _ h => .inl h)).trans (hq.2.1.mono (fun i _ h => .inr h)), hp.2.2, fun j hj => by
    rcases hq.2.2 j hj with h1 | h1
    · exact .inl h1
    · exact .inr (Nat.le_trans hp.2.1.size h1)⟩
theorem Tp.fr {w w1 w2 : World} {mb rb : Nat} {A R : Nat → Prop} {F : List Int} (h : Tp w mb A rb R F w1) (hF : Fr No w1 w2) : Tp w mb A rb R F w2 := by
  obtain ⟨A', R', B', h1, h2, h3, h4⟩ := h
  exact ⟨A', R', B', h1.fr0 hF, h2.trans hF.no, h3, h4⟩
theorem Tp.ahead {w w1 w2 : World} {mb rb : Nat} {A R : Nat → Prop} {F : List Int} (hF : Fr No w w1) (h : Tp w1 mb A rb R F w2) : Tp w mb A rb R F w2 := by
  obtain ⟨A', R', B', h1, h2, h3, h4⟩ := h
  refine ⟨A', R', B', h1, hF.no.trans h2, fun j hj => ?_, fun j hj => ?_⟩
  · rcases h3 j hj with h5 | h5
    · exact .inl h5
    · exact .inr (Nat.le_trans hF.size h5)
  · rcases h4 j hj with h5 | h5
    · exact .inl h5
    · exact .inr (Nat.le_trans hF.size h5)
end Go.Proofs.Ytbjffempiaohpaa
namespace Go.Proofs.Ytbjffempiaohpaa
set_option linter.unusedVariables false
set_option linter.unusedSimpArgs false
open Go.RowKit Go.Shelf Go.Maps

set_option maxHeartbeats 2000000 in
set_option maxRecDepth 1000000 in
theorem act0_calls (mb rb : Nat) (A R : Nat → Prop) (F B : List Int) (d a n : Int) (au : Option Addr) (lu cu : Nat) (l : List Int) (w : World) (hT : Two w mb A rb R F B B) (ha : -9223372036854775808 ≤ a ∧ a ≤ 9223372036854775807) (hn : -9223372036854775808 ≤ n ∧ n ≤ 9223372036854775807)
    (hu : Sl w (.slice au lu cu) l.length (bys l)) (huA : ∀ k, (Value.slice au lu cu).ownBlock = some k → l ≠ [] → ¬ A k ∧ ¬ R k) (h0 : ∀ b ∈ l, 0 ≤ b ∧ b < 256) (hlen : l.length ≤ 9223372036854775807) (hd : d = 0) :
    Calls Try.prog 26 #[.pointer (some ⟨mb, 0, none⟩), .pointer (some ⟨rb, 0, none⟩), .agg #[.int .i64 d, .int .i64 a, .int .i64 n, .slice au lu cu]] w fun e w' => e = .returned (.bool true) ∧ Tp w mb A rb R F w' := by
  have hF0 : Fr No w (w.alloc (Obj.cells #[.int .i64 d, .int .i64 a, .int .i64 n, .slice au lu cu] 56)) := (Fr.refl _ _).alloc _
  have hb0 := heap_new w (Obj.cells #[.int .i64 d, .int .i64 a, .int .i64 n, .slice au lu cu] 56)
  have hbA : ∀ k, A k ∨ R k → k < w.heap.size := fun k hk => hk.elim (hT.1.low k) (hT.2.1.low k)
  have HT0 := Lib.hid (hT.fr0 hF0)
  have HBA := Lib.hid hbA
  have HA := Lib.hid ha
  have hwa : IntKind.i64.wrap a = a := IntWalk.i64_in _ ha
  have hwn : IntKind.i64.wrap n = n := IntWalk.i64_in _ hn
  have HN := Lib.hid hn
  have HU := Lib.hid hu
  have HUA := Lib.hid huA
  have HL0 := Lib.hid h0
  have c0 := heap_cell (o := 0) hb0 rfl
  have c1 := heap_cell (o := 1) hb0 rfl
  have c2 := heap_cell (o := 2) hb0 rfl
  have c3 := heap_cell (o := 3) hb0 rfl
  have HB0 := Lib.hid hb0
  have hd0 : (d == 0) = true := by simp; omega
  clear hT hbA ha hn hu huA h0 hd hb0
  go_enter Try.func26, Try.ntmps26
  go_upto_region 3 with fail
  generalize w.alloc _ = W at *
  have HTd := Lib.hid (HT0.out.fr0 (Fr.refl No W).drew)
  have HMd : RowKit.Hid (MemAt W.drew mb A F B) := Lib.hid HTd.out.1
  have e1 : W.drew.cell? ⟨w.heap.size, 1, none⟩ = _ := c1
  have e2 : W.drew.cell? ⟨w.heap.size, 2, none⟩ = _ := c2
  go_region_held3 (fun w' => w'.cell? ⟨w.heap.size, 1, none⟩ = some (.int .i64 a) ∧ w'.cell? ⟨w.heap.size, 2, none⟩ = some (.int .i64 n))
    (first | exact ⟨c1, c2⟩ | exact ⟨e1, e2⟩ | exact ⟨f1, f2⟩ | exact ⟨g1, g2⟩ | fail "keep")
    (first
    | (go_at_call 32; ((with_reducible refine (putbyte_calls HMd.out a n HA.out).mono ?_); rintro e w1 ⟨A1, rfl, hp⟩; have HP := Lib.hid hp; have HR1 : RowKit.Hid (RefAt w1 rb R F B) := Lib.hid (HTd.out.mem hp).2.1; have hbx := hp.2.1.heap (show W.drew.heap[w.heap.size]? = _ from HB0.out) (fun h => Nat.lt_irrefl _ (HBA.out _ (.inl h))); have f1 := heap_cell (o := 1) hbx rfl; have f2 := heap_cell (o := 2) hbx rfl; have HB1 := Lib.hid hbx; clear hp hbx))
    | (go_at_call 50; ((with_reducible refine (rputbyte_calls HR1.out a n HA.out).mono ?_); rintro e w2 ⟨rfl, hq⟩; have HQ := Lib.hid hq; have hbx := hq.2.1.heap HB1.out (fun h => Nat.lt_irrefl _ (HBA.out _ (.inr h))); have g1 := heap_cell (o := 1) hbx rfl; have g2 := heap_cell (o := 2) hbx rfl; clear hq hbx))
    | fail "arm")
  all_goals (
    go_wp2
    go_ret
    exact ⟨rfl, (Tp.of HTd.out HP.out HQ.out).ahead (hF0.drew)⟩)

set_option maxHeartbeats 2000000 in
set_option maxRecDepth 1000000 in
theorem act1_calls (mb rb : Nat) (A R : Nat → Prop) (F B : List Int) (d a n : Int) (au : Option Addr) (lu cu : Nat) (l : List Int) (w : World) (hT : Two w mb A rb R F B B) (ha : -9223372036854775808 ≤ a ∧ a ≤ 9223372036854775807) (hn : -9223372036854775808 ≤ n ∧ n ≤ 9223372036854775807)
    (hu : Sl w (.slice au lu cu) l.length (bys l)) (huA : ∀ k, (Value.slice au lu cu).ownBlock = some k → l ≠ [] → ¬ A k ∧ ¬ R k) (h0 : ∀ b ∈ l, 0 ≤ b ∧ b < 256) (hlen : l.length ≤ 9223372036854775807) (hd : d = 1) :
    Calls Try.prog 26 #[.pointer (some ⟨mb, 0, none⟩), .pointer (some ⟨rb, 0, none⟩), .agg #[.int .i64 d, .int .i64 a, .int .i64 n, .slice au lu cu]] w fun e w' => e = .returned (.bool true) ∧ Tp w mb A rb R F w' := by
  have hF0 : Fr No w (w.alloc (Obj.cells #[.int .i64 d, .int .i64 a, .int .i64 n, .slice au lu cu] 56)) := (Fr.refl _ _).alloc _
  have hb0 := heap_new w (Obj.cells #[.int .i64 d, .int .i64 a, .int .i64 n, .slice au lu cu] 56)
  have hbA : ∀ k, A k ∨ R k → k < w.heap.size := fun k hk => hk.elim (hT.1.low k) (hT.2.1.low k)
  have HT0 := Lib.hid (hT.fr0 hF0)
  have HBA := Lib.hid hbA
  have HA := Lib.hid ha
  have hwa : IntKind.i64.wrap a = a := IntWalk.i64_in _ ha
  have hwn : IntKind.i64.wrap n = n := IntWalk.i64_in _ hn
  have HN := Lib.hid hn
  have HU := Lib.hid hu
  have HUA := Lib.hid huA
  have HL0 := Lib.hid h0
  have c0 := heap_cell (o := 0) hb0 rfl
  have c1 := heap_cell (o := 1) hb0 rfl
  have c2 := heap_cell (o := 2) hb0 rfl
  have c3 := heap_cell (o := 3) hb0 rfl
  have HB0 := Lib.hid hb0
  have hd0 : (d == 0) = false := by simp; omega
  have hd1 : (d == 1) = true := by simp; omega
  clear hT hbA ha hn hu huA h0 hd hb0
  go_enter Try.func26, Try.ntmps26
  go_upto_region 5 with fail
  generalize w.alloc _ = W at *
  have HTd := Lib.hid (HT0.out.fr0 (Fr.refl No W).drew)
  have HMd : RowKit.Hid (MemAt W.drew mb A F B) := Lib.hid HTd.out.1
  have e1 : W.drew.cell? ⟨w.heap.size, 1, none⟩ = _ := c1
  have e2 : W.drew.cell? ⟨w.heap.size, 2, none⟩ = _ := c2
  go_region_held3 (fun w' => w'.cell? ⟨w.heap.size, 1, none⟩ = some (.int .i64 a) ∧ w'.cell? ⟨w.heap.size, 2, none⟩ = some (.int .i64 n))
    (first | exact ⟨c1, c2⟩ | exact ⟨e1, e2⟩ | exact ⟨f1, f2⟩ | exact ⟨g1, g2⟩ | fail "keep")
    (first
    | (go_at_call 22; ((with_reducible refine (putcell_calls HMd.out a n HA.out).mono ?_); rintro e w1 ⟨A1, rfl, hp⟩; have HP := Lib.hid hp; have HR1 : RowKit.Hid (RefAt w1 rb R F B) := Lib.hid (HTd.out.mem hp).2.1; have hbx := hp.2.1.heap (show W.drew.heap[w.heap.size]? = _ from HB0.out) (fun h => Nat.lt_irrefl _ (HBA.out _ (.inl h))); have f1 := heap_cell (o := 1) hbx rfl; have f2 := heap_cell (o := 2) hbx rfl; have HB1 := Lib.hid hbx; clear hp hbx))
    | (go_at_call 51; ((with_reducible refine (rputcellm_calls HR1.out a n HA.out).mono ?_); rintro e w2 ⟨R2, rfl, hq⟩; have HQ := Lib.hid hq; have hbx := hq.2.1.heap HB1.out (fun h => Nat.lt_irrefl _ (HBA.out _ (.inr h))); have g1 := heap_cell (o := 1) hbx rfl; have g2 := heap_cell (o := 2) hbx rfl; clear hq hbx))
    | fail "arm")
  all_goals (
    go_wp2
    go_ret
    exact ⟨rfl, (Tp.of HTd.out HP.out HQ.out).ahead (hF0.drew)⟩)

set_option maxHeartbeats 2000000 in
set_option maxRecDepth 1000000 in
theorem act2_calls (mb rb : Nat) (A R : Nat → Prop) (F B : List Int) (d a n : Int) (au : Option Addr) (lu cu : Nat) (l : List Int) (w : World) (hT : Two w mb A rb R F B B) (ha : -9223372036854775808 ≤ a ∧ a ≤ 9223372036854775807) (hn : -9223372036854775808 ≤ n ∧ n ≤ 9223372036854775807)
    (hu : Sl w (.slice au lu cu) l.length (bys l)) (huA : ∀ k, (Value.slice au lu cu).ownBlock = some k → l ≠ [] → ¬ A k ∧ ¬ R k) (h0 : ∀ b ∈ l, 0 ≤ b ∧ b < 256) (hlen : l.length ≤ 9223372036854775807) (hd : d = 2) :
    Calls Try.prog 26 #[.pointer (some ⟨mb, 0, none⟩), .pointer (some ⟨rb, 0, none⟩), .agg #[.int .i64 d, .int .i64 a, .int .i64 n, .slice au lu cu]] w fun e w' => e = .returned (.bool true) ∧ Tp w mb A rb R F w' := by
  have hF0 : Fr No w (w.alloc (Obj.cells #[.int .i64 d, .int .i64 a, .int .i64 n, .slice au lu cu] 56)) := (Fr.refl _ _).alloc _
  have hb0 := heap_new w (Obj.cells #[.int .i64 d, .int .i64 a, .int .i64 n, .slice au lu cu] 56)
  have hbA : ∀ k, A k ∨ R k → k < w.heap.size := fun k hk => hk.elim (hT.1.low k) (hT.2.1.low k)
  have HT0 := Lib.hid (hT.fr0 hF0)
  have HBA := Lib.hid hbA
  have HA := Lib.hid ha
  have hwa : IntKind.i64.wrap a = a := IntWalk.i64_in _ ha
  have hwn : IntKind.i64.wrap n = n := IntWalk.i64_in _ hn
  have HN := Lib.hid hn
  have HU := Lib.hid hu
  have HUA := Lib.hid huA
  have HL0 := Lib.hid h0
  have c0 := heap_cell (o := 0) hb0 rfl
  have c1 := heap_cell (o := 1) hb0 rfl
  have c2 := heap_cell (o := 2) hb0 rfl
  have c3 := heap_cell (o := 3) hb0 rfl
  have HB0 := Lib.hid hb0
  have hd0 : (d == 0) = false := by simp; omega
  have hd1 : (d == 1) = false := by simp; omega
  have hd2 : (d == 2) = true := by simp; omega
  clear hT hbA ha hn hu huA h0 hd hb0
  go_enter Try.func26, Try.ntmps26
  go_wp2_with fail
  generalize w.alloc _ = W at *
  have HM0 : RowKit.Hid (MemAt W mb A F B) := Lib.hid HT0.out.1
  refine (mset_calls HM0.out a n HA.out).mono ?_
  rintro e w1 ⟨A1, rfl, hp⟩
  have HP := Lib.hid hp
  have HR1 : RowKit.Hid (RefAt w1 rb R F B) := Lib.hid (HT0.out.mem hp).2.1
  have hbx := hp.2.1.heap HB0.out (fun h => Nat.lt_irrefl _ (HBA.out _ (.inl h)))
  have f1 := heap_cell (o := 1) hbx rfl
  have f2 := heap_cell (o := 2) hbx rfl
  clear hp hbx c0 c1 c2 c3
  go_wp2_with fail
  refine (rset_calls HR1.out a n HA.out).mono ?_
  rintro e w2 ⟨R2, rfl, hq⟩
  have HQ := Lib.hid hq
  clear hq
  go_wp2
  go_ret
  exact ⟨rfl, (Tp.of HT0.out HP.out HQ.out).ahead hF0⟩

set_option maxHeartbeats 2000000 in
set_option maxRecDepth 1000000 in
theorem act3_calls (mb rb : Nat) (A R : Nat → Prop) (F B : List Int) (d a n : Int) (au : Option Addr) (lu cu : Nat) (l : List Int) (w : World) (hT : Two w mb A rb R F B B) (ha : -9223372036854775808 ≤ a ∧ a ≤ 9223372036854775807) (hn : -9223372036854775808 ≤ n ∧ n ≤ 9223372036854775807)
    (hu : Sl w (.slice au lu cu) l.length (bys l)) (huA : ∀ k, (Value.slice au lu cu).ownBlock = some k → l ≠ [] → ¬ A k ∧ ¬ R k) (h0 : ∀ b ∈ l, 0 ≤ b ∧ b < 256) (hlen : l.length ≤ 9223372036854775807) (hd : d = 3) :
    Calls Try.prog 26 #[.pointer (some ⟨mb, 0, none⟩), .pointer (some ⟨rb, 0, none⟩), .agg #[.int .i64 d, .int .i64 a, .int .i64 n, .slice au lu cu]] w fun e w' => e = .returned (.bool true) ∧ Tp w mb A rb R F w' := by
  have hF0 : Fr No w (w.alloc (Obj.cells #[.int .i64 d, .int .i64 a, .int .i64 n, .slice au lu cu] 56)) := (Fr.refl _ _).alloc _
  have hb0 := heap_new w (Obj.cells #[.int .i64 d, .int .i64 a, .int .i64 n, .slice au lu cu] 56)
  have hbA : ∀ k, A k ∨ R k → k < w.heap.size := fun k hk => hk.elim (hT.1.low k) (hT.2.1.low k)
  have HT0 := Lib.hid (hT.fr0 hF0)
  have HBA := Lib.hid hbA
  have HA := Lib.hid ha
  have hwa : IntKind.i64.wrap a = a := IntWalk.i64_in _ ha
  have hwn : IntKind.i64.wrap n = n := IntWalk.i64_in _ hn
  have HN := Lib.hid hn
  have HU := Lib.hid hu
  have HUA := Lib.hid huA
  have HL0 := Lib.hid h0
  have c0 := heap_cell (o := 0) hb0 rfl
  have c1 := heap_cell (o := 1) hb0 rfl
  have c2 := heap_cell (o := 2) hb0 rfl
  have c3 := heap_cell (o := 3) hb0 rfl
  have HB0 := Lib.hid hb0
  have hd0 : (d == 0) = false := by simp; omega
  have hd1 : (d == 1) = false := by simp; omega
  have hd2 : (d == 2) = false := by simp; omega
  have hd3 : (d == 3) = true := by simp; omega
  clear hT hbA ha hn hu huA h0 hd hb0
  go_enter Try.func26, Try.ntmps26
  go_wp2_with fail
  generalize w.alloc _ = W at *
  have HM0 : RowKit.Hid (MemAt W mb A F B) := Lib.hid HT0.out.1
  have hu0 := HU.out.fr0 hF0
  refine (lay_calls HM0.out a (.slice au lu cu) l hu0 (fun k e hne => (HUA.out k e hne).1) HL0.out hlen HA.out).mono ?_
  rintro e w1 ⟨A1, rfl, hp⟩
  have HP := Lib.hid hp
  have HR1 : RowKit.Hid (RefAt w1 rb R F B) := Lib.hid (HT0.out.mem hp).2.1
  have HU1 := Lib.hid (hu0.fr hp.2.1 (fun k e hne => (HUA.out k e (fun e2 => hne (by rw [e2]; rfl))).1))
  have hbx := hp.2.1.heap HB0.out (fun h => Nat.lt_irrefl _ (HBA.out _ (.inl h)))
  have f1 := heap_cell (o := 1) hbx rfl
  have f3 := heap_cell (o := 3) hbx rfl
  clear hp hbx c0 c1 c2 c3 hu0
  go_wp2_with fail
  refine (rlay_calls HR1.out a (.slice au lu cu) l HU1.out (fun k e hne => (HUA.out k e hne).2) HL0.out hlen HA.out).mono ?_
  rintro e w2 ⟨rfl, hq⟩
  have HQ := Lib.hid hq
  clear hq
  go_wp2
  go_ret
  exact ⟨rfl, (Tp.of HT0.out HP.out HQ.out).ahead hF0⟩

set_option maxHeartbeats 2000000 in
set_option maxRecDepth 1000000 in
theorem act4_calls (mb rb : Nat) (A R : Nat → Prop) (F B : List Int) (d a n : Int) (au : Option Addr) (lu cu : Nat) (l : List Int) (w : World) (hT : Two w mb A rb R F B B) (ha : -9223372036854775808 ≤ a ∧ a ≤ 9223372036854775807) (hn : -9223372036854775808 ≤ n ∧ n ≤ 9223372036854775807)
    (hu : Sl w (.slice au lu cu) l.length (bys l)) (huA : ∀ k, (Value.slice au lu cu).ownBlock = some k → l ≠ [] → ¬ A k ∧ ¬ R k) (h0 : ∀ b ∈ l, 0 ≤ b ∧ b < 256) (hlen : l.length ≤ 9223372036854775807) (hd : d = 4) :
    Calls Try.prog 26 #[.pointer (some ⟨mb, 0, none⟩), .pointer (some ⟨rb, 0, none⟩), .agg #[.int .i64 d, .int .i64 a, .int .i64 n, .slice au lu cu]] w fun e w' => e = .returned (.bool true) ∧ Tp w mb A rb R F w' := by
  have hF0 : Fr No w (w.alloc (Obj.cells #[.int .i64 d, .int .i64 a, .int .i64 n, .slice au lu cu] 56)) := (Fr.refl _ _).alloc _
  have hb0 := heap_new w (Obj.cells #[.int .i64 d, .int .i64 a, .int .i64 n, .slice au lu cu] 56)
  have hbA : ∀ k, A k ∨ R k → k < w.heap.size := fun k hk => hk.elim (hT.1.low k) (hT.2.1.low k)
  have HT0 := Lib.hid (hT.fr0 hF0)
  have HBA := Lib.hid hbA
  have HA := Lib.hid ha
  have hwa : IntKind.i64.wrap a = a := IntWalk.i64_in _ ha
  have hwn : IntKind.i64.wrap n = n := IntWalk.i64_in _ hn
  have HN := Lib.hid hn
  have HU := Lib.hid hu
  have HUA := Lib.hid huA
  have HL0 := Lib.hid h0
  have c0 := heap_cell (o := 0) hb0 rfl
  have c1 := heap_cell (o := 1) hb0 rfl
  have c2 := heap_cell (o := 2) hb0 rfl
  have c3 := heap_cell (o := 3) hb0 rfl
  have HB0 := Lib.hid hb0
  have hd0 : (d == 0) = false := by simp; omega
  have hd1 : (d == 1) = false := by simp; omega
  have hd2 : (d == 2) = false := by simp; omega
  have hd3 : (d == 3) = false := by simp; omega
  have hd4 : (d == 4) = true := by simp; omega
  have HCm := Lib.hid (fun (w1 : World) (h : MemAt w1 mb A F B) => byte_calls h a ha)
  have HCr := Lib.hid (fun (w1 : World) (h : RefAt w1 rb R F B) => rbyte_calls h a ha)
  generalize (if insF a 1 0 8192 = 0 then byteAt B a else 0) = x at *
  generalize insF a 1 0 8192 = t at *
  clear hT hbA ha hn hu huA h0 hd hb0
  go_enter Try.func26, Try.ntmps26
  go_wp2_with fail
  generalize w.alloc _ = W at *
  have HM0 : RowKit.Hid (MemAt W mb A F B) := Lib.hid HT0.out.1
  refine (HCm.out _ HM0.out).mono ?_
  rintro e w1 ⟨A1, rfl, hp⟩
  have HP := Lib.hid hp
  have HR1 : RowKit.Hid (RefAt w1 rb R F B) := Lib.hid (HT0.out.mem hp).2.1
  have hbx := hp.2.1.heap HB0.out (fun h => Nat.lt_irrefl _ (HBA.out _ (.inl h)))
  have f1 := heap_cell (o := 1) hbx rfl
  clear hp hbx c0 c1 c2 c3
  go_wp2_with fail
  refine (HCr.out _ HR1.out).mono ?_
  rintro e w2 ⟨rfl, rfl⟩
  go_wp2
  go_ret
  exact ⟨rfl, (Tp.of HT0.out HP.out ⟨HR1.out, Fr.refl _ _, Gr.refl _ _⟩).ahead hF0⟩

set_option maxHeartbeats 2000000 in
set_option maxRecDepth 1000000 in
theorem act5_calls (mb rb : Nat) (A R : Nat → Prop) (F B : List Int) (d a n : Int) (au : Option Addr) (lu cu : Nat) (l : List Int) (w : World) (hT : Two w mb A rb R F B B) (ha : -9223372036854775808 ≤ a ∧ a ≤ 9223372036854775807) (hn : -9223372036854775808 ≤ n ∧ n ≤ 9223372036854775807)
    (hu : Sl w (.slice au lu cu) l.length (bys l)) (huA : ∀ k, (Value.slice au lu cu).ownBlock = some k → l ≠ [] → ¬ A k ∧ ¬ R k) (h0 : ∀ b ∈ l, 0 ≤ b ∧ b < 256) (hlen : l.length ≤ 9223372036854775807) (hd : d = 5) :
    Calls Try.prog 26 #[.pointer (some ⟨mb, 0, none⟩), .pointer (some ⟨rb, 0, none⟩), .agg #[.int .i64 d, .int .i64 a, .int .i64 n, .slice au lu cu]] w fun e w' => e = .returned (.bool true) ∧ Tp w mb A rb R F w' := by
  have hF0 : Fr No w (w.alloc (Obj.cells #[.int .i64 d, .int .i64 a, .int .i64 n, .slice au lu cu] 56)) := (Fr.refl _ _).alloc _
  have hb0 := heap_new w (Obj.cells #[.int .i64 d, .int .i64 a, .int .i64 n, .slice au lu cu] 56)
  have hbA : ∀ k, A k ∨ R k → k < w.heap.size := fun k hk => hk.elim (hT.1.low k) (hT.2.1.low k)
  have HT0 := Lib.hid (hT.fr0 hF0)
  have HBA := Lib.hid hbA
  have HA := Lib.hid ha
  have hwa : IntKind.i64.wrap a = a := IntWalk.i64_in _ ha
  have hwn : IntKind.i64.wrap n = n := IntWalk.i64_in _ hn
  have HN := Lib.hid hn
  have HU := Lib.hid hu
  have HUA := Lib.hid huA
  have HL0 := Lib.hid h0
  have c0 := heap_cell (o := 0) hb0 rfl
  have c1 := heap_cell (o := 1) hb0 rfl
  have c2 := heap_cell (o := 2) hb0 rfl
  have c3 := heap_cell (o := 3) hb0 rfl
  have HB0 := Lib.hid hb0
  have hd0 : (d == 0) = false := by simp; omega
  have hd1 : (d == 1) = false := by simp; omega
  have hd2 : (d == 2) = false := by simp; omega
  have hd3 : (d == 3) = false := by simp; omega
  have hd4 : (d == 4) = false := by simp; omega
  have hd5 : (d == 5) = true := by simp; omega
  have HCm := Lib.hid (fun (w1 : World) (h : MemAt w1 mb A F B) => cell_calls h a ha)
  have HCr := Lib.hid (fun (w1 : World) (h : RefAt w1 rb R F B) => rcell_calls h a ha)
  generalize (if insF a 8 0 8192 = 0 then getF B a else 0) = x at *
  generalize insF a 8 0 8192 = t at *
  clear hT hbA ha hn hu huA h0 hd hb0
  go_enter Try.func26, Try.ntmps26
  go_wp2_with fail
  generalize w.alloc _ = W at *
  have HM0 : RowKit.Hid (MemAt W mb A F B) := Lib.hid HT0.out.1
  refine (HCm.out _ HM0.out).mono ?_
  rintro e w1 ⟨A1, rfl, hp⟩
  have HP := Lib.hid hp
  have HR1 : RowKit.Hid (RefAt w1 rb R F B) := Lib.hid (HT0.out.mem hp).2.1
  have hbx := hp.2.1.heap HB0.out (fun h => Nat.lt_irrefl _ (HBA.out _ (.inl h)))
  have f1 := heap_cell (o := 1) hbx rfl
  clear hp hbx c0 c1 c2 c3
  go_wp2_with fail
  refine (HCr.out _ HR1.out).mono ?_
  rintro e w2 ⟨rfl, rfl⟩
  go_wp2
  go_ret
  exact ⟨rfl, (Tp.of HT0.out HP.out ⟨HR1.out, Fr.refl _ _, Gr.refl _ _⟩).ahead hF0⟩

set_option maxHeartbeats 2000000 in
set_option maxRecDepth 1000000 in
theorem act6_calls (mb rb : Nat) (A R : Nat → Prop) (F B : List Int) (d a n : Int) (au : Option Addr) (lu cu : Nat) (l : List Int) (w : World) (hT : Two w mb A rb R F B B) (ha : -9223372036854775808 ≤ a ∧ a ≤ 9223372036854775807) (hn : -9223372036854775808 ≤ n ∧ n ≤ 9223372036854775807)
    (hu : Sl w (.slice au lu cu) l.length (bys l)) (huA : ∀ k, (Value.slice au lu cu).ownBlock = some k → l ≠ [] → ¬ A k ∧ ¬ R k) (h0 : ∀ b ∈ l, 0 ≤ b ∧ b < 256) (hlen : l.length ≤ 9223372036854775807) (hd : d = 6) :
    Calls Try.prog 26 #[.pointer (some ⟨mb, 0, none⟩), .pointer (some ⟨rb, 0, none⟩), .agg #[.int .i64 d, .int .i64 a, .int .i64 n, .slice au lu cu]] w fun e w' => e = .returned (.bool true) ∧ Tp w mb A rb R F w' := by
  have hF0 : Fr No w (w.alloc (Obj.cells #[.int .i64 d, .int .i64 a, .int .i64 n, .slice au lu cu] 56)) := (Fr.refl _ _).alloc _
  have hb0 := heap_new w (Obj.cells #[.int .i64 d, .int .i64 a, .int .i64 n, .slice au lu cu] 56)
  have hbA : ∀ k, A k ∨ R k → k < w.heap.size := fun k hk => hk.elim (hT.1.low k) (hT.2.1.low k)
  have HT0 := Lib.hid (hT.fr0 hF0)
  have HBA := Lib.hid hbA
  have HA := Lib.hid ha
  have hwa : IntKind.i64.wrap a = a := IntWalk.i64_in _ ha
  have hwn : IntKind.i64.wrap n = n := IntWalk.i64_in _ hn
  have HN := Lib.hid hn
  have HU := Lib.hid hu
  have HUA := Lib.hid huA
  have HL0 := Lib.hid h0
  have c0 := heap_cell (o := 0) hb0 rfl
  have c1 := heap_cell (o := 1) hb0 rfl
  have c2 := heap_cell (o := 2) hb0 rfl
  have c3 := heap_cell (o := 3) hb0 rfl
  have HB0 := Lib.hid hb0
  have hd0 : (d == 0) = false := by simp; omega
  have hd1 : (d == 1) = false := by simp; omega
  have hd2 : (d == 2) = false := by simp; omega
  have hd3 : (d == 3) = false := by simp; omega
  have hd4 : (d == 4) = false := by simp; omega
  have hd5 : (d == 5) = false := by simp; omega
  have hd6 : (d == 6) = true := by simp; omega
  have HCm := Lib.hid (fun (w1 : World) (h : MemAt w1 mb A F B) => get_calls h a ha)
  have HCr := Lib.hid (fun (w1 : World) (h : RefAt w1 rb R F B) => rget_calls h a ha)
  generalize getF B a = x at *
  clear hT hbA ha hn hu huA h0 hd hb0
  go_enter Try.func26, Try.ntmps26
  go_upto_region 23 with fail
  generalize w.alloc _ = W at *
  have HTd := Lib.hid (HT0.out.fr0 (Fr.refl No W).drew)
  have HMd : RowKit.Hid (MemAt W.drew mb A F B) := Lib.hid HTd.out.1
  have e1 : W.drew.cell? ⟨w.heap.size, 1, none⟩ = _ := c1
  go_region_held3 (fun w' => w'.cell? ⟨w.heap.size, 1, none⟩ = some (.int .i64 a))
    (first | exact c1 | exact e1 | exact f1 | fail "keep")
    (first
    | (go_at_call 33; ((with_reducible refine (HCm.out _ HMd.out).mono ?_); rintro e w1 ⟨A1, rfl, hp⟩; have HP := Lib.hid hp; have HR1 : RowKit.Hid (RefAt w1 rb R F B) := Lib.hid (HTd.out.mem hp).2.1; have hbx := hp.2.1.heap (show W.drew.heap[w.heap.size]? = _ from HB0.out) (fun h => Nat.lt_irrefl _ (HBA.out _ (.inl h))); have f1 := heap_cell (o := 1) hbx rfl; clear hp hbx))
    | (go_at_call 54; ((with_reducible refine (HCr.out _ HR1.out).mono ?_); rintro e w2 ⟨rfl, rfl⟩))
    | fail "arm")
  all_goals (
    go_wp2
    go_ret
    exact ⟨rfl, (Tp.of HTd.out HP.out ⟨HR1.out, Fr.refl _ _, Gr.refl _ _⟩).ahead (hF0.drew)⟩)

end Go.Proofs.Ytbjffempiaohpaa
namespace Go.Proofs.Ytbjffempiaohpaa
set_option linter.unusedVariables false
set_option linter.unusedSimpArgs false
open Go.RowKit Go.Shelf Go.Maps

theorem row_convN {w : World} {b : Nat} {B : List Int} {a : Int} {N : Nat} (h : Row w b 5 (loadF B a N)) :
    (convert 22 9 (.slice (some ⟨b, 0, none⟩) N N)).run Try.prog w = .ok (.string (strOfNums (loadF B a N))) w := by
  have h2 := conv_sl (w := w) (a := some ⟨b, 0, none⟩) (cap := N) (l := loadF B a N) (by have := h.sl; rw [loadF_length] at this ⊢; exact this)
  rw [loadF_length] at h2
  exact h2

set_option maxHeartbeats 2000000 in
set_option maxRecDepth 1000000 in
theorem act7_calls (mb rb : Nat) (A R : Nat → Prop) (F B : List Int) (d a n : Int) (au : Option Addr) (lu cu : Nat) (l : List Int) (w : World) (hT : Two w mb A rb R F B B) (ha : -9223372036854775808 ≤ a ∧ a ≤ 9223372036854775807) (hn : -9223372036854775808 ≤ n ∧ n ≤ 9223372036854775807)
    (hu : Sl w (.slice au lu cu) l.length (bys l)) (huA : ∀ k, (Value.slice au lu cu).ownBlock = some k → l ≠ [] → ¬ A k ∧ ¬ R k) (h0 : ∀ b ∈ l, 0 ≤ b ∧ b < 256) (hlen : l.length ≤ 9223372036854775807) (hd : d < 0 ∨ 6 < d) :
    Calls Try.prog 26 #[.pointer (some ⟨mb, 0, none⟩), .pointer (some ⟨rb, 0, none⟩), .agg #[.int .i64 d, .int .i64 a, .int .i64 n, .slice au lu cu]] w fun e w' => e = .returned (.bool true) ∧ Tp w mb A rb R F w' := by
  have hF0 : Fr No w (w.alloc (Obj.cells #[.int .i64 d, .int .i64 a, .int .i64 n, .slice au lu cu] 56)) := (Fr.refl _ _).alloc _
  have hb0 := heap_new w (Obj.cells #[.int .i64 d, .int .i64 a, .int .i64 n, .slice au lu cu] 56)
  have hbA : ∀ k, A k ∨ R k → k < w.heap.size := fun k hk => hk.elim (hT.1.low k) (hT.2.1.low k)
  have HT0 := Lib.hid (hT.fr0 hF0)
  have HBA := Lib.hid hbA
  have HA := Lib.hid ha
  have hwa : IntKind.i64.wrap a = a := IntWalk.i64_in _ ha
  have hwn : IntKind.i64.wrap n = n := IntWalk.i64_in _ hn
  have HN := Lib.hid hn
  have HU := Lib.hid hu
  have HUA := Lib.hid huA
  have HL0 := Lib.hid h0
  have c0 := heap_cell (o := 0) hb0 rfl
  have c1 := heap_cell (o := 1) hb0 rfl
  have c2 := heap_cell (o := 2) hb0 rfl
  have c3 := heap_cell (o := 3) hb0 rfl
  have HB0 := Lib.hid hb0
  have hd0 : (d == 0) = false := by simp; omega
  have hd1 : (d == 1) = false := by simp; omega
  have hd2 : (d == 2) = false := by simp; omega
  have hd3 : (d == 3) = false := by simp; omega
  have hd4 : (d == 4) = false := by simp; omega
  have hd5 : (d == 5) = false := by simp; omega
  have hd6 : (d == 6) = false := by simp; omega
  obtain ⟨N, hN⟩ : ∃ N : Nat, min (max n 0) 8192 = (N : Int) := ⟨(min (max n 0) 8192).toNat, by omega⟩
  have HNN := Lib.hid hN
  have HCV := Lib.hid (fun (w' : World) (b : Nat) (h : Row w' b 5 (loadF B a N)) => row_convN h)
  have HLr := Lib.hid (fun (w1 : World) (h : RefAt w1 rb R F B) => rload_calls h a n N hN ha)
  clear hN
  clear hT hbA ha hn hu huA h0 hd hb0
  go_enter Try.func26, Try.ntmps26
  go_upto_region 24 with fail
  generalize w.alloc _ = W at *
  have HTd := Lib.hid (HT0.out.fr0 (Fr.refl No W).drew)
  have HLm := Lib.hid (load_calls HTd.out.1 a n N HNN.out HA.out)
  generalize strOfNums (loadF B a N) = st at *
  have e1 : W.drew.cell? ⟨w.heap.size, 1, none⟩ = _ := c1
  have e2 : W.drew.cell? ⟨w.heap.size, 2, none⟩ = _ := c2
  refine wp_region_held_drew (S := (fun w' => w'.cell? ⟨w.heap.size, 1, none⟩ = some (.int .i64 a) ∧ w'.cell? ⟨w.heap.size, 2, none⟩ = some (.int .i64 n))) (by kernel_rfl) ⟨e1, e2⟩ (fun hS0 => ?_)
  refine take_at (i := 0) (d := some 134) (v := ?_) rfl rfl (by kernel_rfl) (by kernel_rfl) (by kernel_rfl) (fun _ _ _ h => h) (Or.inl ⟨by rfl, ?_⟩) (by assumption) ?_
  rotate_left
  · intro w hSw; go_simp; try (with_reducible rfl)
  try simp only [Act.put, List.setIfInBounds_toArray, List.set_cons_zero, List.set_cons_succ]
  refine take_at (i := 1) (d := some 135) (v := ?_) rfl rfl (by kernel_rfl) (by kernel_rfl) (by kernel_rfl) (fun _ _ _ h => h) (Or.inl ⟨by rfl, ?_⟩) (by assumption) ?_
  rotate_left
  · intro w hSw; go_simp; try (with_reducible rfl)
  try simp only [Act.put, List.setIfInBounds_toArray, List.set_cons_zero, List.set_cons_succ]
  refine take_at (i := 2) (d := some 136) (v := ?_) rfl rfl (by kernel_rfl) (by kernel_rfl) (by kernel_rfl) (fun _ _ _ h => h) (Or.inl ⟨by rfl, ?_⟩) (by assumption) ?_
  rotate_left
  · intro w hSw; go_simp; try (with_reducible rfl)
  try simp only [Act.put, List.setIfInBounds_toArray, List.set_cons_zero, List.set_cons_succ]
  refine take_at (i := 3) (d := some 137) (v := ?_) rfl rfl (by kernel_rfl) (by kernel_rfl) (by kernel_rfl) (fun _ _ _ h => h) (Or.inl ⟨by rfl, ?_⟩) (by assumption) ?_
  rotate_left
  · intro w hSw; go_simp; try (with_reducible rfl)
  try simp only [Act.put, List.setIfInBounds_toArray, List.set_cons_zero, List.set_cons_succ]
  refine take_at (i := 4) (d := some 138) (v := ?_) rfl rfl (by kernel_rfl) (by kernel_rfl) (by kernel_rfl) (fun _ _ _ h => h) (Or.inl ⟨by rfl, ?_⟩) (by assumption) ?_
  rotate_left
  · intro w hSw; go_simp; try (with_reducible rfl)
  try simp only [Act.put, List.setIfInBounds_toArray, List.set_cons_zero, List.set_cons_succ]
  refine take_at (i := 7) (d := some 141) (v := ?_) rfl rfl (by kernel_rfl) (by kernel_rfl) (by kernel_rfl) (fun _ _ _ h => h) (Or.inl ⟨by rfl, ?_⟩) (by assumption) ?_
  rotate_left
  · intro w hSw; go_simp; try (with_reducible rfl)
  try simp only [Act.put, List.setIfInBounds_toArray, List.set_cons_zero, List.set_cons_succ]
  refine take_at (i := 8) (d := some 142) (v := ?_) rfl rfl (by kernel_rfl) (by kernel_rfl) (by kernel_rfl) (fun _ _ _ h => h) (Or.inl ⟨by rfl, ?_⟩) (by assumption) ?_
  rotate_left
  · intro w hSw; go_simp; try (with_reducible rfl)
  try simp only [Act.put, List.setIfInBounds_toArray, List.set_cons_zero, List.set_cons_succ]
  refine take_at (i := 9) (d := some 143) (v := ?_) rfl rfl (by kernel_rfl) (by kernel_rfl) (by kernel_rfl) (fun _ _ _ h => h) (Or.inl ⟨by rfl, ?_⟩) (by assumption) ?_
  rotate_left
  · intro w hSw; go_simp; try (with_reducible rfl)
  try simp only [Act.put, List.setIfInBounds_toArray, List.set_cons_zero, List.set_cons_succ]
  refine take_at (i := 10) (d := some 144) (v := ?_) rfl rfl (by kernel_rfl) (by kernel_rfl) (by kernel_rfl) (fun _ _ _ h => h) (Or.inl ⟨by rfl, ?_⟩) (by assumption) ?_
  rotate_left
  · intro w hSw; go_simp; try (with_reducible rfl)
  try simp only [Act.put, List.setIfInBounds_toArray, List.set_cons_zero, List.set_cons_succ]
  refine take_at (i := 11) (d := some 145) (v := ?_) rfl rfl (by kernel_rfl) (by kernel_rfl) (by kernel_rfl) (fun _ _ _ h => h) (Or.inl ⟨by rfl, ?_⟩) (by assumption) ?_
  rotate_left
  · intro w hSw; go_simp; try (with_reducible rfl)
  try simp only [Act.put, List.setIfInBounds_toArray, List.set_cons_zero, List.set_cons_succ]
  refine wpAnyH_ready (rs := [5]) (by kernel_rfl) (by simp) ?_
  refine AllReadyH.cons rfl (fun K hK => ?_) AllReadyH.nil
  go_simp
  go_wp2_with (go_at_call 20; ((with_reducible refine HLm.out.mono ?_); rintro e w1 ⟨b1, A1, rfl, hp, hr, hnA, hlb⟩; have HP := Lib.hid hp; have HR1 : RowKit.Hid (RefAt w1 rb R F B) := Lib.hid (HTd.out.mem hp).2.1; have hbx := hp.2.1.heap (show W.drew.heap[w.heap.size]? = _ from HB0.out) (fun h => Nat.lt_irrefl _ (HBA.out _ (.inl h))); have f1 := heap_cell (o := 1) hbx rfl; have f2 := heap_cell (o := 2) hbx rfl; have q1 := HCV.out w1 b1 hr; have HRW := Lib.hid hr; have HBX := Lib.hid hbx; clear hp hbx hr hnA hlb))
  refine hK.out _ _ ⟨f1, f2⟩ (fun hHeld => ?_)
  clear hK K
  try simp only [Act.put, List.setIfInBounds_toArray, List.set_cons_zero, List.set_cons_succ]
  refine wpAnyH_ready (rs := [6, 12]) (by kernel_rfl) (by simp) ?_
  refine AllReadyH.cons rfl (fun K hK => ?_) (AllReadyH.cons rfl (fun K hK => ?_) AllReadyH.nil)
  · go_simp
    refine hK.out _ _ ⟨f1, f2⟩ (fun hHeld => ?_)
    clear hK K
    try simp only [Act.put, List.setIfInBounds_toArray, List.set_cons_zero, List.set_cons_succ]
    refine wpAnyH_ready (rs := [12]) (by kernel_rfl) (by simp) ?_
    refine AllReadyH.cons rfl (fun K hK => ?_) AllReadyH.nil
    go_simp
    go_wp2_with (go_at_call 55; ((with_reducible refine (HLr.out _ HR1.out).mono ?_); rintro e w2 ⟨b2, rfl, hF2, hr2, hlb2⟩; have g1 := hF2.cell f1 (fun h => h); have g2 := hF2.cell f2 (fun h => h); have q2 := HCV.out w2 b1 (HRW.out.fr hF2 (fun h => h)); have q3 := HCV.out w2 b2 hr2; have HF2 := Lib.hid hF2; clear hF2 hr2 hlb2))
    refine hK.out _ _ ⟨g1, g2⟩ (fun hHeld => ?_)
    clear hK K
    try simp only [Act.put, List.setIfInBounds_toArray, List.set_cons_zero, List.set_cons_succ]
    refine wpAnyH_ready (rs := [13]) (by kernel_rfl) (by simp) ?_
    refine AllReadyH.cons rfl (fun K hK => ?_) AllReadyH.nil
    go_simp
    refine hK.out _ _ ⟨g1, g2⟩ (fun hHeld => ?_)
    clear hK K
    try simp only [Act.put, List.setIfInBounds_toArray, List.set_cons_zero, List.set_cons_succ]
    refine take_at (i := 14) (d := some 148) (v := ?_) rfl rfl (by kernel_rfl) (by kernel_rfl) (by kernel_rfl) (fun _ _ _ h => h) (Or.inl ⟨by rfl, ?_⟩) (by assumption) ?_
    rotate_left
    · intro w hSw; go_simp; try (with_reducible rfl)
    try simp only [Act.put, List.setIfInBounds_toArray, List.set_cons_zero, List.set_cons_succ]
    refine take_at (i := 15) (d := some 6) (v := ?_) rfl rfl (by kernel_rfl) (by kernel_rfl) (by kernel_rfl) (fun _ _ _ h => h) (Or.inl ⟨by rfl, ?_⟩) (by assumption) ?_
    rotate_left
    · intro w hSw; go_simp; try (with_reducible rfl)
    try simp only [Act.put, List.setIfInBounds_toArray, List.set_cons_zero, List.set_cons_succ]
    refine wpAnyH_done (by kernel_rfl) ?_ _
    go_wp2
    go_ret
    exact ⟨rfl, ((Tp.of HTd.out HP.out ⟨HR1.out, Fr.refl _ _, Gr.refl _ _⟩).fr HF2.out).ahead (hF0.drew)⟩
  · go_simp
    go_wp2_with (go_at_call 55; ((with_reducible refine (HLr.out _ HR1.out).mono ?_); rintro e w2 ⟨b2, rfl, hF2, hr2, hlb2⟩; have g1 := hF2.cell f1 (fun h => h); have g2 := hF2.cell f2 (fun h => h); have q2 := HCV.out w2 b1 (HRW.out.fr hF2 (fun h => h)); have q3 := HCV.out w2 b2 hr2; have HF2 := Lib.hid hF2; clear hF2 hr2 hlb2))
    refine hK.out _ _ ⟨g1, g2⟩ (fun hHeld => ?_)
    clear hK K
    try simp only [Act.put, List.setIfInBounds_toArray, List.set_cons_zero, List.set_cons_succ]
    refine wpAnyH_ready (rs := [6, 13]) (by kernel_rfl) (by simp) ?_
    refine AllReadyH.cons rfl (fun K hK => ?_) (AllReadyH.cons rfl (fun K hK => ?_) AllReadyH.nil)
    · go_simp
      refine hK.out _ _ ⟨g1, g2⟩ (fun hHeld => ?_)
      clear hK K
      try simp only [Act.put, List.setIfInBounds_toArray, List.set_cons_zero, List.set_cons_succ]
      refine wpAnyH_ready (rs := [13]) (by kernel_rfl) (by simp) ?_
      refine AllReadyH.cons rfl (fun K hK => ?_) AllReadyH.nil
      go_simp
      refine hK.out _ _ ⟨g1, g2⟩ (fun hHeld => ?_)
      clear hK K
      try simp only [Act.put, List.setIfInBounds_toArray, List.set_cons_zero, List.set_cons_succ]
      refine take_at (i := 14) (d := some 148) (v := ?_) rfl rfl (by kernel_rfl) (by kernel_rfl) (by kernel_rfl) (fun _ _ _ h => h) (Or.inl ⟨by rfl, ?_⟩) (by assumption) ?_
      rotate_left
      · intro w hSw; go_simp; try (with_reducible rfl)
      try simp only [Act.put, List.setIfInBounds_toArray, List.set_cons_zero, List.set_cons_succ]
      refine take_at (i := 15) (d := some 6) (v := ?_) rfl rfl (by kernel_rfl) (by kernel_rfl) (by kernel_rfl) (fun _ _ _ h => h) (Or.inl ⟨by rfl, ?_⟩) (by assumption) ?_
      rotate_left
      · intro w hSw; go_simp; try (with_reducible rfl)
      try simp only [Act.put, List.setIfInBounds_toArray, List.set_cons_zero, List.set_cons_succ]
      refine wpAnyH_done (by kernel_rfl) ?_ _
      go_wp2
      go_ret
      exact ⟨rfl, ((Tp.of HTd.out HP.out ⟨HR1.out, Fr.refl _ _, Gr.refl _ _⟩).fr HF2.out).ahead (hF0.drew)⟩
    · go_simp
      refine hK.out _ _ ⟨g1, g2⟩ (fun hHeld => ?_)
      clear hK K
      try simp only [Act.put, List.setIfInBounds_toArray, List.set_cons_zero, List.set_cons_succ]
      refine wpAnyH_ready (rs := [6]) (by kernel_rfl) (by simp) ?_
      refine AllReadyH.cons rfl (fun K hK => ?_) AllReadyH.nil
      go_simp
      refine hK.out _ _ ⟨g1, g2⟩ (fun hHeld => ?_)
      clear hK K
      try simp only [Act.put, List.setIfInBounds_toArray, List.set_cons_zero, List.set_cons_succ]
      refine take_at (i := 14) (d := some 148) (v := ?_) rfl rfl (by kernel_rfl) (by kernel_rfl) (by kernel_rfl) (fun _ _ _ h => h) (Or.inl ⟨by rfl, ?_⟩) (by assumption) ?_
      rotate_left
      · intro w hSw; go_simp; try (with_reducible rfl)
      try simp only [Act.put, List.setIfInBounds_toArray, List.set_cons_zero, List.set_cons_succ]
      refine take_at (i := 15) (d := some 6) (v := ?_) rfl rfl (by kernel_rfl) (by kernel_rfl) (by kernel_rfl) (fun _ _ _ h => h) (Or.inl ⟨by rfl, ?_⟩) (by assumption) ?_
      rotate_left
      · intro w hSw; go_simp; try (with_reducible rfl)
      try simp only [Act.put, List.setIfInBounds_toArray, List.set_cons_zero, List.set_cons_succ]
      refine wpAnyH_done (by kernel_rfl) ?_ _
      go_wp2
      go_ret
      exact ⟨rfl, ((Tp.of HTd.out HP.out ⟨HR1.out, Fr.refl _ _, Gr.refl _ _⟩).fr HF2.out).ahead (hF0.drew)⟩

end Go.Proofs.Ytbjffempiaohpaa
namespace Go.Proofs.Ytbjffempiaohpaa
set_option linter.unusedVariables false
set_option linter.unusedSimpArgs false
open Go.RowKit Go.Shelf Go.Maps

theorem act_calls (mb rb : Nat) (A R : Nat → Prop) (F B : List Int) (d a n : Int) (au : Option Addr) (lu cu : Nat) (l : List Int) (w : World) (hT : Two w mb A rb R F B B) (ha : -9223372036854775808 ≤ a ∧ a ≤ 9223372036854775807) (hn : -9223372036854775808 ≤ n ∧ n ≤ 9223372036854775807)
    (hu : Sl w (.slice au lu cu) l.length (bys l)) (huA : ∀ k, (Value.slice au lu cu).ownBlock = some k → l ≠ [] → ¬ A k ∧ ¬ R k) (h0 : ∀ b ∈ l, 0 ≤ b ∧ b < 256) (hlen : l.length ≤ 9223372036854775807) :
    Calls Try.prog 26 #[.pointer (some ⟨mb, 0, none⟩), .pointer (some ⟨rb, 0, none⟩), .agg #[.int .i64 d, .int .i64 a, .int .i64 n, .slice au lu cu]] w fun e w' => e = .returned (.bool true) ∧ Tp w mb A rb R F w' := by
  by_cases h : d < 0 ∨ 6 < d
  · exact act7_calls mb rb A R F B d a n au lu cu l w hT ha hn hu huA h0 hlen h
  · rcases (by omega : d = 0 ∨ d = 1 ∨ d = 2 ∨ d = 3 ∨ d = 4 ∨ d = 5 ∨ d = 6) with h | h | h | h | h | h | h
    · exact act0_calls mb rb A R F B d a n au lu cu l w hT ha hn hu huA h0 hlen h
    · exact act1_calls mb rb A R F B d a n au lu cu l w hT ha hn hu huA h0 hlen h
    · exact act2_calls mb rb A R F B d a n au lu cu l w hT ha hn hu huA h0 hlen h
    · exact act3_calls mb rb A R F B d a n au lu cu l w hT ha hn hu huA h0 hlen h
    · exact act4_calls mb rb A R F B d a n au lu cu l w hT ha hn hu huA h0 hlen h
    · exact act5_calls mb rb A R F B d a n au lu cu l w hT ha hn hu huA h0 hlen h
    · exact act6_calls mb rb A R F B d a n au lu cu l w hT ha hn hu huA h0 hlen h

/-- A call as a value: its kind, two numbers, a slice. -/
abbrev ActT := Int × Int × Int × Option Addr × Nat × Nat
def actCell (y : ActT) : List Value := [.int .i64 y.1, .int .i64 y.2.1, .int .i64 y.2.2.1, .slice y.2.2.2.1 y.2.2.2.2.1 y.2.2.2.2.2]
theorem flat_get {α : Type} (cells : α → List Value) (sz : Nat) (hcl : ∀ y, (cells y).length = sz) (L : List α) (k i : Nat) (hk : k < L.length) (hi : i < sz) : (L.flatMap cells)[k * sz + i]? = (cells L[k])[i]? := by
  induction L generalizing k with
  | nil => simp at hk
  | cons y L ih =>
    rw [List.flatMap_cons]
    cases k with
    | zero => rw [List.getElem?_append_left (by rw [hcl]; omega)]; simp
    | succ k =>
      rw [List.getElem?_append_right (by rw [hcl, Nat.succ_mul]; omega), hcl]
      have := ih k (by simp at hk; omega)
      rw [show (k + 1) * sz + i - sz = k * sz + i by rw [Nat.succ_mul]; omega]
      simpa using this

set_option maxHeartbeats 1000000 in
set_option maxRecDepth 1000000 in
theorem few_calls (v : Value) (L : List ActT) (w : World) (hlen : L.length ≤ 9223372036854775807) (hv : Sl w v L.length (L.flatMap actCell)) :
    Calls Try.prog 25 #[v] w fun e w' => ∃ b, e = .returned (.bool b) ∧ Fr No w w' := by
  obtain ⟨av, cap, rfl⟩ := hv.form
  go_enter Try.func25, Try.ntmps25
  go_wp2
  go_loopw [3, 8] (fun s i wr => ∃ (j : Nat) (x : Int), j ≤ L.length ∧ i = .int .i64 j ∧ s = .int .i64 x ∧ Fr No w wr) (fun _ i _ => L.length - (intOf i).toNat)
  case atStart => exact ⟨0, 0, Nat.zero_le _, rfl, rfl, Fr.refl _ _⟩
  case round =>
    obtain ⟨j, x, hj, rfl, rfl, hF⟩ := hrel
    by_cases hlt : j < L.length
    · have g0 := flat_get actCell 4 (fun _ => rfl) L j 0 hlt (by omega)
      have g1 := flat_get actCell 4 (fun _ => rfl) L j 1 hlt (by omega)
      have g2 := flat_get actCell 4 (fun _ => rfl) L j 2 hlt (by omega)
      have g3 := flat_get actCell 4 (fun _ => rfl) L j 3 hlt (by omega)
      revert g0 g1 g2 g3
      generalize L[j] = y
      obtain ⟨d, a, n, au, lu, cu⟩ := y
      intro g0 g1 g2 g3
      simp only [actCell, List.getElem?_cons_zero, List.getElem?_cons_succ] at g0 g1 g2 g3
      obtain ⟨b, off, rfl, hb, hc⟩ := hv.at (by intro e; rw [e] at g0; simp at g0)
      have c0 := hF.cell (hc _ _ g0) (fun h => h)
      have c1 := hF.cell (hc _ _ g1) (fun h => h)
      have c2 := hF.cell (hc _ _ g2) (fun h => h)
      have c3 := hF.cell (hc _ _ g3) (fun h => h)
      simp only [← Nat.add_assoc, Nat.add_zero] at c0 c1 c2 c3
      have HF := Lib.hid hF
      clear hc hv g0 g1 g2 g3 hF
      go_wp2
      all_goals exact ⟨⟨j + 1, _, by omega, by go_num, rfl, HF.out.alloc _⟩, by simp [intOf]; omega⟩
    · have HF := Lib.hid hF
      clear hF hv
      go_wp2
      go_ret
      exact ⟨_, rfl, HF.out⟩
end Go.Proofs.Ytbjffempiaohpaa
namespace Go.Proofs.Ytbjffempiaohpaa
set_option linter.unusedVariables false
set_option linter.unusedSimpArgs false
open Go.RowKit Go.Shelf Go.Maps

set_option maxHeartbeats 1000000 in
set_option maxRecDepth 1000000 in
theorem ints09_calls (va vb : Value) (xs : List Int) (w : World) (hlen : xs.length ≤ 1000000) (h1 : Sl w va xs.length (ints xs)) (h2 : Sl w vb xs.length (ints xs)) :
    Calls Try.prog 27 #[va, vb] w fun e w' => e = .returned (.bool true) ∧ Fr No w w' := by
  obtain ⟨a1, cap1, rfl⟩ := h1.form
  obtain ⟨a2, cap2, rfl⟩ := h2.form
  go_enter Try.func27, Try.ntmps27
  go_wp2
  go_loopw [13] (fun i wr => ∃ j : Nat, j ≤ xs.length ∧ i = .int .i64 j ∧ Fr No w wr) (fun i _ => xs.length - (intOf i).toNat)
  case atStart => exact ⟨0, Nat.zero_le _, rfl, Fr.refl _ _⟩
  case round =>
    obtain ⟨j, hj, rfl, hF⟩ := hrel
    by_cases hlt : j < xs.length
    · obtain ⟨b1, o1, rfl, hb1, hc1⟩ := h1.at (ints_ne _ j hlt)
      obtain ⟨b2, o2, rfl, hb2, hc2⟩ := h2.at (ints_ne _ j hlt)
      have q1 := hF.cell (hc1 _ _ (ints_get _ j hlt)) (fun h => h)
      have q2 := hF.cell (hc2 _ _ (ints_get _ j hlt)) (fun h => h)
      revert q1 q2
      generalize xs[j] = x
      intro q1 q2
      have HF := Lib.hid hF
      clear h1 h2 hc1 hc2 hF
      go_wp2
      go_quiet (fail)
      go_wp2
      exact ⟨⟨j + 1, by omega, by go_num, HF.out.drewN _⟩, by simp [intOf]; omega⟩
    · have HF := Lib.hid hF
      clear h1 h2 hF
      go_wp2
      go_ret
      exact ⟨rfl, HF.out⟩

/-- The pages that differ, of the first so many. -/
def dirtyN (F B : List Int) : Nat → List Int
  | 0 => []
  | p + 1 => if pg B p = pg F p then dirtyN F B p else dirtyN F B p ++ [(p : Int)]
theorem dirtyN_length (F B : List Int) (p : Nat) : (dirtyN F B p).length ≤ p := by
  induction p with
  | zero => simp [dirtyN]
  | succ p ih => rw [dirtyN]; split
                 · omega
                 · simp; omega
theorem sub_conv {w : World} {g cap p : Nat} {B : List Int} (hB : B.length = 8192) (hp : p < 128) (h : Sl w (.slice (some ⟨g, 0, none⟩) 8192 cap) 8192 (bys B)) :
    (convert 22 9 (.slice (some ⟨g, p * 64, none⟩) 64 (cap - p * 64))).run Try.prog w = .ok (.string (strOfNums (pg B p))) w := by
  have hl := pg_length B p hB hp
  have hcap := h.le
  have h3 := (h.drop (k := p * 64) (size := 1) (by omega) (by rw [bys_len]; omega))
  rw [if_neg (by omega)] at h3
  have h4 := h3.take (k := 64) (by omega) 1
  have h5 : Sl w (.slice (some ⟨g, p * 64, none⟩) 64 (cap - p * 64)) 64 (bys (pg B p)) := by
    rw [show bys (pg B p) = ((bys B).drop (p * 64 * 1)).take (64 * 1) by simp [pg, bys, List.map_take, List.map_drop, Nat.mul_comm]]
    have : (⟨g, 0, none⟩ : Addr).add (p * 64) = ⟨g, p * 64, none⟩ := by simp only [Addr.add]; split <;> simp_all
    simpa [this] using h4
  have h2 := conv_sl (w := w) (a := some ⟨g, p * 64, none⟩) (cap := cap - p * 64) (l := pg B p) (by rw [hl]; exact h5)
  rw [hl] at h2
  exact h2

theorem neq_str (w : World) (x y : ByteArray) (h : ¬ x = y) : (binOp BinOp.neq 9 (.string x) (.string y)).run Try.prog w = .ok (.bool true) w := by
  have h2 : ¬ x.data.toList = y.data.toList := fun e => h (ByteArray.ext (Array.toList_inj.1 e))
  simp [binOp, Op.stringOp, go_sem, h]
  rw [ByteArray.toList_eq, ByteArray.toList_eq]
  simpa using h2

set_option maxHeartbeats 1000000 in
set_option maxRecDepth 1000000 in
theorem rdirty_calls {w : World} {rb : Nat} {R : Nat → Prop} {F B : List Int} (h : RefAt w rb R F B) (hFl : F.length = 8192) (hFr : ∀ b ∈ F, 0 ≤ b ∧ b < 256) :
    Calls Try.prog 29 #[.pointer (some ⟨rb, 0, none⟩)] w fun e w' => ∃ r, e = .returned r ∧ Fr No w w' ∧ Sl w' r (dirtyN F B 128).length (ints (dirtyN F B 128)) := by
  obtain ⟨g, cap, gw, h⟩ := h.inn
  have HM := Lib.hid h
  clear h
  go_enter Try.func29, Try.ntmps29
  go_wp2
  go_loopw [3, 4] (fun o i wr => ∃ p : Nat, p ≤ 128 ∧ i = .int .i64 p ∧ wr.ownsRow w.heap.size 3 1 o (dirtyN F B p).length (ints (dirtyN F B p)) ∧ Fr No w wr) (fun _ i _ => 128 - (intOf i).toNat)
  case atStart => exact ⟨0, Nat.zero_le _, rfl, World.ownsRow_nil _ _ _ _, Fr.refl _ _⟩
  case round =>
    obtain ⟨p, hp, rfl, hrow, hF⟩ := hrel
    by_cases hlt : p < 128
    · obtain ⟨a4, cap4, rfl⟩ := (Sl.of_owns hrow).form
      have hM := HM.out.fr hF (fun _ h => h.elim)
      have c0 := heap_cell (o := 0) hM.box rfl
      have c1 := heap_cell (o := 1) hM.box rfl
      have hcap := (Sl.of_owns hM.row).le
      have q1 : ∀ n, (convert 22 9 (.slice (some ⟨g, p * 64, none⟩) 64 (cap - p * 64))).run Try.prog (wr.drewN n) = .ok (.string (strOfNums (pg B p))) (wr.drewN n) := fun n =>
        sub_conv hM.blen hlt ((Sl.of_owns hM.row).fr0 ((Fr.refl No wr).drewN n))
      have q2 : ∀ n, (convert 22 9 (.slice (some ⟨gw, p * 64, none⟩) 64 (8192 - p * 64))).run Try.prog (wr.drewN n) = .ok (.string (strOfNums (pg F p))) (wr.drewN n) := fun n =>
        sub_conv hFl hlt (by have := (hM.was.fr (S := No) ((Fr.refl No wr).drewN n) (fun h => h)).sl; rw [hFl] at this; exact this)
      have hs : dirtyN F B (p + 1) = if pg B p = pg F p then dirtyN F B p else dirtyN F B p ++ [(p : Int)] := rfl
      have hin : strOfNums (pg B p) = strOfNums (pg F p) → pg B p = pg F p := fun e => strOfNums_inj (pg_range B p hM.brange) (pg_range F p hFr) e
      have hm1 : IntKind.i64.wrap ((p : Int) * 64) = (p : Int) * 64 := IntWalk.i64_in _ (by omega)
      have hm2 : IntKind.i64.wrap ((p : Int) + 1) = (p : Int) + 1 := IntWalk.i64_in _ (by omega)
      have hm3 : IntKind.i64.wrap (((p : Int) + 1) * 64) = ((p : Int) + 1) * 64 := IntWalk.i64_in _ (by omega)
      have hm4 : ((p : Int) * 64).toNat = p * 64 := by omega
      have hm5 : (((p : Int) + 1) * 64).toNat = p * 64 + 64 := by omega
      have hm6 : (0 : Int) ≤ (p : Int) * 64 := by omega
      have hm7 : (p : Int) * 64 ≤ ((p : Int) + 1) * 64 := by omega
      have hm8 : ((p : Int) + 1) * 64 ≤ 8192 := by omega
      have hm9 : ((p : Int) + 1) * 64 ≤ cap := by omega
      have hm10 : p * 64 + 64 - p * 64 = 64 := by omega
      have hm11 : ¬ cap = p * 64 := by omega
      have hm12 : ¬ 8192 = p * 64 := by omega
      have HS := Lib.hid hs
      have HIN := Lib.hid hin
      have hq0 : pg B p = pg F p ∨ ∀ w, (binOp BinOp.neq 9 (.string (strOfNums (pg B p))) (.string (strOfNums (pg F p)))).run Try.prog w = .ok (.bool true) w := by
        by_cases he : pg B p = pg F p
        · exact .inl he
        · exact .inr (fun w => neq_str w _ _ (fun e => he (hin e)))
      have HF := Lib.hid hF
      have HROW := Lib.hid hrow
      clear hs hin hF hM hrow
      by_cases he : pg B p = pg F p
      · have HD := Lib.hid (show dirtyN F B (p + 1) = dirtyN F B p by rw [HS.out, if_pos he])
        rw [he] at q1
        clear he hq0
        go_wp2
        go_quiet (fail)
        go_wp2
        exact ⟨⟨p + 1, by omega, by go_num, by rw [HD.out]; exact HROW.out, HF.out.drewN _⟩, by simp [intOf]; omega⟩
      · have hne := hq0.resolve_left he
        have HD := Lib.hid (show dirtyN F B (p + 1) = dirtyN F B p ++ [(p : Int)] by rw [HS.out, if_neg he])
        have hdl := dirtyN_length F B p
        have H3 := Lib.hid (show ¬ strOfNums (pg B p) = strOfNums (pg F p) from fun e => he (HIN.out e))
        clear he hq0 hne
        go_wp2
        go_quiet (fail)
        go_wp2_with (at_builtin; refine append_out el_int rfl _ _ rfl w.heap.size (.slice a4 (dirtyN F B p).length cap4) _ _ rfl (World.ownsRow.alloc (w := wr.drewN _) HROW.out _) ⟨wr.heap.size, 0, none⟩ 1 1 [.int .i64 (p : Int)] rfl rfl (cell_one_new _ _ _) (by simp [Value.oneCell']) (by unfold maxLen; omega) (by omega) (by have := HF.out.size; simp; omega) ?_; intro v' w3 hown' hgrow _)
        · exact ⟨⟨p + 1, by omega, by go_num, by rw [HD.out, List.length_append, show ints (dirtyN F B p ++ [(p : Int)]) = ints (dirtyN F B p) ++ [.int .i64 (p : Int)] by simp [ints]]; exact hown', HF.out.grown (grownBy_drewN_alloc hgrow) (fun k e hk => by have := (HROW.out.lt k e).1; omega)⟩, by simp [intOf]; omega⟩
        · rename_i h5
          exfalso
          have h6 : (strOfNums (pg B p)).toList = (strOfNums (pg F p)).toList := by simpa using h5
          rw [ByteArray.toList_eq, ByteArray.toList_eq] at h6
          exact H3.out (ByteArray.ext (Array.toList_inj.1 h6))
    · have HF := Lib.hid hF
      have HROW := Lib.hid hrow
      clear hrow hF
      go_wp2
      go_ret
      refine ⟨_, rfl, HF.out, ?_⟩
      have : p = 128 := by omega
      subst this
      exact Sl.of_owns HROW.out
end Go.Proofs.Ytbjffempiaohpaa
namespace Go.Proofs.Ytbjffempiaohpaa
set_option linter.unusedVariables false
set_option linter.unusedSimpArgs false
open Go.RowKit Go.Shelf Go.Maps

/-- What has been found while some pages are left. -/
def Found (F B : List Int) (P : Nat → Option Nat) (left : Lit → Bool) (ds : List Int) : Prop :=
  ds.Nodup ∧ (∀ x ∈ ds, ∃ q : Nat, q < 128 ∧ x = q ∧ pg B q ≠ pg F q ∧ left (pkey q) = false) ∧ ∀ q, q < 128 → (P q).isSome = true → left (pkey q) = false → pg B q ≠ pg F q → (q : Int) ∈ ds
theorem dirtyN_mem (F B : List Int) (p : Nat) (x : Int) : x ∈ dirtyN F B p ↔ ∃ q : Nat, q < p ∧ x = q ∧ pg B q ≠ pg F q := by
  induction p with
  | zero => simp [dirtyN]
  | succ p ih =>
    rw [dirtyN]
    split
    · rename_i h
      rw [ih]
      constructor
      · rintro ⟨q, h1, h2, h3⟩; exact ⟨q, by omega, h2, h3⟩
      · rintro ⟨q, h1, h2, h3⟩
        exact ⟨q, by rcases Nat.lt_succ_iff_lt_or_eq.1 h1 with h4 | h4; exact h4; exact absurd (h4 ▸ h) h3, h2, h3⟩
    · rename_i h
      rw [List.mem_append, ih, List.mem_singleton]
      constructor
      · rintro (⟨q, h1, h2, h3⟩ | h1)
        · exact ⟨q, by omega, h2, h3⟩
        · exact ⟨p, by omega, h1, h⟩
      · rintro ⟨q, h1, h2, h3⟩
        rcases Nat.lt_succ_iff_lt_or_eq.1 h1 with h4 | h4
        · exact .inl ⟨q, h4, h2, h3⟩
        · subst h4; exact .inr h2
theorem dirtyN_sorted (F B : List Int) (p : Nat) : (dirtyN F B p).Pairwise (fun x y => x < y) := by
  induction p with
  | zero => simp [dirtyN]
  | succ p ih =>
    rw [dirtyN]
    split
    · exact ih
    · rw [List.pairwise_append]
      refine ⟨ih, by simp, fun x hx y hy => ?_⟩
      obtain ⟨q, h1, h2, -⟩ := (dirtyN_mem F B p x).1 hx
      simp at hy
      omega
theorem found_sorted {F B : List Int} {P : Nat → Option Nat} {left : Lit → Bool} {ds : List Int} (h : Found F B P left ds) (hn : ∀ q, q < 128 → P q = none → pg B q = pg F q) (hl : ∀ kl, left kl = false) : (ds.mergeSort fun x y => decide (x ≤ y)) = dirtyN F B 128 := by
  obtain ⟨h1, h2, h3⟩ := h
  have hs := dirtyN_sorted F B 128
  have hnd : (dirtyN F B 128).Nodup := hs.imp (fun {a b} h e => by omega)
  have hp : ds.Perm (dirtyN F B 128) := by
    rw [List.perm_ext_iff_of_nodup h1 hnd]
    intro x
    rw [dirtyN_mem]
    constructor
    · intro hx; obtain ⟨q, a1, a2, a3, -⟩ := h2 x hx; exact ⟨q, a1, a2, a3⟩
    · rintro ⟨q, a1, rfl, a3⟩
      refine h3 q a1 ?_ (hl _) a3
      cases hq : P q with
      | none => exact absurd (hn q a1 hq) a3
      | some b => rfl
  have hm := List.pairwise_mergeSort (le := fun x y : Int => decide (x ≤ y)) (fun a b c h1 h2 => by simp at *; omega) (fun a b => by simp; omega) ds
  have hm2 := (List.mergeSort_perm ds (fun x y : Int => decide (x ≤ y))).trans hp
  refine List.Perm.eq_of_pairwise (le := fun x y : Int => x ≤ y) (fun a b _ _ h1 h2 => by omega) ?_ ?_ hm2
  · exact hm.imp (fun {a b} h => by simpa using h)
  · exact hs.imp (fun {a b} h => by omega)
end Go.Proofs.Ytbjffempiaohpaa
namespace Go.Proofs.Ytbjffempiaohpaa
set_option linter.unusedVariables false
set_option linter.unusedSimpArgs false
open Go.RowKit Go.Shelf Go.Maps

theorem pkey_inj {p q : Nat} (h : pkey p = pkey q) : p = q := by simp [pkey] at h; omega
theorem same_pkey {p q : Nat} (h : (pkey p).sameKey (pkey q) = true) : p = q := by
  by_cases e : p = q
  · exact e
  · rw [sameKey_ne (fun e2 => e (pkey_inj e2))] at h; cases h
theorem found_start {F B : List Int} {P : Nat → Option Nat} {D : DataW Unit} (hh : ∀ p, p < 128 → Maps.has D (pkey p) = (P p).isSome) : Found F B P (Maps.has D) [] :=
  ⟨List.nodup_nil, by simp, fun q hq hP hl _ => by rw [hh q hq, hP] at hl; cases hl⟩
theorem found_skip {F B : List Int} {P : Nat → Option Nat} {left : Lit → Bool} {ds : List Int} (h : Found F B P left ds) (q : Nat) (he : pg B q = pg F q) : Found F B P (fun z => left z && !z.sameKey (pkey q)) ds := by
  obtain ⟨h1, h2, h3⟩ := h
  refine ⟨h1, fun x hx => ?_, fun r hr hP hl hne => ?_⟩
  · obtain ⟨r, a1, a2, a3, a4⟩ := h2 x hx
    exact ⟨r, a1, a2, a3, by simp [a4]⟩
  · cases hlr : left (pkey r) with
    | false => exact h3 r hr hP hlr hne
    | true =>
      have : (pkey r).sameKey (pkey q) = true := by simpa [hlr] using hl
      have := same_pkey this
      subst this
      exact absurd he hne
theorem found_add {F B : List Int} {P : Nat → Option Nat} {left : Lit → Bool} {ds : List Int} (h : Found F B P left ds) (q : Nat) (hq : q < 128) (hl : left (pkey q) = true) (he : pg B q ≠ pg F q) : Found F B P (fun z => left z && !z.sameKey (pkey q)) (ds ++ [(q : Int)]) := by
  obtain ⟨h1, h2, h3⟩ := h
  refine ⟨?_, fun x hx => ?_, fun r hr hP hlr hne => ?_⟩
  · rw [List.nodup_append]
    refine ⟨h1, by simp, fun x hx y hy e => ?_⟩
    simp at hy
    obtain ⟨r, a1, a2, a3, a4⟩ := h2 x hx
    have : r = q := by omega
    subst this
    rw [hl] at a4; cases a4
  · rcases List.mem_append.1 hx with hx | hx
    · obtain ⟨r, a1, a2, a3, a4⟩ := h2 x hx
      exact ⟨r, a1, a2, a3, by simp [a4]⟩
    · simp at hx
      have hk : (pkey q).sameKey (pkey q) = true := by simp [Lit.sameKey]
      exact ⟨q, hq, hx, he, by simp [hk]⟩
  · cases hl2 : left (pkey r) with
    | false => exact List.mem_append.2 (.inl (h3 r hr hP hl2 hne))
    | true =>
      have : (pkey r).sameKey (pkey q) = true := by simpa [hl2] using hlr
      have := same_pkey this
      subst this
      exact List.mem_append.2 (.inr (by simp))
theorem found_length {F B : List Int} {P : Nat → Option Nat} {left : Lit → Bool} {ds : List Int} (h : Found F B P left ds) : ds.length ≤ 128 := by
  obtain ⟨h1, h2, -⟩ := h
  have := h1.length_le_of_subset (l₂ := dirtyN F B 128) (fun x hx => by
    obtain ⟨r, a1, a2, a3, -⟩ := h2 x hx
    exact (dirtyN_mem F B 128 x).2 ⟨r, a1, a2, a3⟩)
  have := dirtyN_length F B 128
  omega
theorem eqA_page (w : World) (l m : List Int) (hl : l.length = 64) (hm : m.length = 64) (hlr : ∀ b ∈ l, 0 ≤ b ∧ b < 256) (hmr : ∀ b ∈ m, 0 ≤ b ∧ b < 256) :
    (Op.equalIn 10000 85 (.agg (bys l).toArray) (.agg (bys m).toArray)).run Try.prog w = .ok (decide (l = m)) w := by
  rw [bys_cells l hlr, bys_cells m hmr]
  rw [run_equalIn_bytes w 9998 85 5 64 (by kernel_rfl) Try.underlying5 size_u8 _ _ (by simpa using hl) (by simpa using hm)]
  congr 1
  rw [Bool.eq_iff_iff]
  simp only [beq_iff_eq, decide_eq_true_eq]
  exact ⟨u8s_inj hlr hmr, fun h => by rw [h]⟩

/-- How a page's pointer looks. -/
def mkPtr (c : Option Nat) : Value := match c with
  | none => .pointer none
  | some b => .pointer (some ⟨b, 0, none⟩)

set_option maxHeartbeats 1000000 in
set_option maxRecDepth 1000000 in
theorem dirty_calls {w : World} {mb : Nat} {A : Nat → Prop} {F B : List Int} (h : MemAt w mb A F B)
    (SORT : RowKit.Hid (∀ (zs : List Int) (v : Value) (base : Nat) (w1 : World), zs.length ≤ 128 → w1.ownsRow base 3 1 v zs.length (ints zs) → Calls Try.prog 56 #[v] w1 fun e w' => e = .returned (.tuple #[]) ∧ w'.ownsRow base 3 1 v zs.length (ints (zs.mergeSort fun x y => decide (x ≤ y))) ∧ Fr (fun k => v.ownBlock = some k) w1 w')) :
    Calls Try.prog 28 #[.pointer (some ⟨mb, 0, none⟩)] w fun e w' => ∃ r, e = .returned r ∧ Fr No w w' ∧ Sl w' r (dirtyN F B 128).length (ints (dirtyN F B 128)) := by
  have HI := Lib.hid (is_calls h)
  obtain ⟨fb, pm, n, D, P, h⟩ := h
  have c1 := heap_cell (o := 1) h.box rfl
  have HM := Lib.hid h
  have hmap := h.map
  clear h
  go_enter Try.func28, Try.ntmps28
  go_wp2_with (first | (go_at_call 46; ((with_reducible refine HI.out.mono ?_); rintro e w1 ⟨rfl, rfl⟩)) | (at_range; refine wpList_range_own w rfl _ _ rfl 3 88 intKey Try.underlying63 heldR pm n D rfl hmap ?_; intro w0 hrg0 hg0 hs0))
  go_frame
  have hF0 : Fr No w w0 := (Fr.refl _ _).grown hg0 (fun k e _ => by cases e)
  have HRG0 := Lib.hid hrg0
  have HF0 := Lib.hid hF0
  clear hmap c1 hrg0 hg0 hs0 hF0
  go_loopw [3] (fun o wr => ∃ left cnt ds, wr.ranges Try.prog 3 heldR pm w.heap.size n D left cnt ∧ (∀ kl, left kl = true → Maps.has D kl = true) ∧ wr.ownsRow (w.heap.size + 1) 3 1 o ds.length (ints ds) ∧ Found F B P left ds ∧ Fr No w wr)
    (fun _ wr => wr.rangeLeft pm w.heap.size)
  case atStart => exact ⟨_, _, [], HRG0.out, fun _ h => h, World.ownsRow_nil _ _ _ _, found_start HM.out.has, HF0.out⟩
  case round =>
    obtain ⟨left, cnt, ds, hrg, hlh, hrow, hfo, hF⟩ := hrel
    obtain ⟨ao, capo, rfl⟩ := (Sl.of_owns hrow).form
    have HLH := Lib.hid hlh
    have HROW := Lib.hid hrow
    have HFO := Lib.hid hfo
    have HF := Lib.hid hF
    clear hlh hrow hfo hF
    go_wp2_with (first
      | (at_next; refine wpList_next_ranges wr rfl _ rfl 3 intKey heldR (Value.int .i64) mkPtr (fun key kl hk => by obtain ⟨x, hx, _⟩ := Maps.keyOf_int_inv Try.underlying3 hk; exact ⟨x, hx⟩) (fun v y hv => by
          rcases heldR_inv (d := y.1) (ps := y.2) (by simpa using hv) with ⟨rfl, -⟩ | ⟨b, rfl, -⟩
          · exact ⟨none, rfl⟩
          · exact ⟨some b, rfl⟩) pm w.heap.size n D left cnt rfl hrg ?_ ?_)
      | go_in)
    · intro _ hl0
      have HS := Lib.hid (found_sorted HFO.out HM.out.none_ hl0)
      have HC := Lib.hid (SORT.out ds (.slice ao ds.length capo) (w.heap.size + 1) wr (found_length HFO.out) HROW.out)
      clear hl0 hrg
      go_wp2_with fail
      refine HC.out.mono ?_
      rintro e w2 ⟨rfl, hr, hF2⟩
      have HR2 := Lib.hid hr
      have HF2 := Lib.hid hF2
      clear hr hF2
      go_wp2
      go_ret
      refine ⟨_, rfl, HF.out.trans' HF2.out (fun i hi e => by have := (HROW.out.lt i e).1; omega), ?_⟩
      have h1 := HR2.out
      rw [HS.out] at h1
      have h2 : ds.length = (dirtyN F B 128).length := by rw [← HS.out, List.length_mergeSort]
      rw [← h2]
      exact Sl.of_owns h1
    · intro x c kl yd yp w1 cnt1 hkey hlk hv hat hrg1 hlt hg1 hs1 hen
      obtain ⟨x', ex, rfl, hwx⟩ := Maps.keyOf_int_inv Try.underlying3 hkey
      cases ex
      have hhas := HLH.out _ hlk
      obtain ⟨q, hq, eq⟩ := HM.out.only _ hhas
      obtain rfl : x = (q : Int) := by simp [pkey] at eq; exact eq
      have hPq := HM.out.has q hq
      rw [hhas] at hPq
      obtain ⟨b, hPb⟩ := Option.isSome_iff_exists.1 hPq.symm
      have hget := HM.out.get q b hq hPb
      rw [hat] at hget
      subst hget
      have hc : c = some b := by
        cases c with
        | none => simp [mkPtr, heldR] at hv
        | some b' => simp [mkPtr, heldR] at hv; exact congrArg some (by omega)
      subst hc
      have hF1 : Fr No w w1 := HF.out.grown hg1 (fun k e hk => by cases e; omega)
      have hRow := (HM.out.held q b hq hPb).2.fr hF1 (fun h => h)
      have hlB := pg_length B q HM.out.blen hq
      have hlF := pg_length F q HM.out.flen hq
      have hrF := pg_range F q HM.out.frange
      have hrB := pg_range B q HM.out.brange
      have hra : w1.rangeAt b 0 (bys (pg F q)) := fun j v hj => by
        rw [Nat.zero_add]
        refine heap_cell hRow ?_
        have hj' : j < (bys (pg F q)).length := (List.getElem?_eq_some_iff.1 hj).1
        simp only [bys, List.map_append, List.getElem?_toArray]
        rw [List.getElem?_append_left (by simpa [bys] using hj')]
        exact hj
      have hrb : w1.rangeAt b 64 (bys (pg B q)) := fun j v hj => by
        refine heap_cell hRow ?_
        simp only [bys, List.map_append, List.getElem?_toArray]
        rw [List.getElem?_append_right (by simp [hlF])]
        simpa [hlF, bys] using hj
      have HRA := Lib.hid hra
      have HRB := Lib.hid hrb
      have HRAd := Lib.hid (show w1.drew.rangeAt b 0 (bys (pg F q)) from hra)
      have HRBd := Lib.hid (show w1.drew.rangeAt b 64 (bys (pg B q)) from hrb)
      have HRG1 := Lib.hid hrg1
      have HRGO := Lib.hid hrg
      have HSZF := Lib.hid (show (Try.prog.info? 85).map (·.size) = some (bys (pg F q)).length from by rw [bys_len, hlF]; kernel_rfl)
      have HSZB := Lib.hid (show (Try.prog.info? 85).map (·.size) = some (bys (pg B q)).length from by rw [bys_len, hlB]; kernel_rfl)
      have HLK := Lib.hid hlk
      have HF1 := Lib.hid hF1
      have HEQ := Lib.hid (fun W => eqA_page W (pg B q) (pg F q) hlB hlF hrB hrF)
      have HS1 := Lib.hid hs1
      have HG1 := Lib.hid hg1
      have HLT := Lib.hid hlt
      have HROW1 := Lib.hid (HROW.out.kept hg1 (.inr (fun e => by have := (HROW.out.lt w.heap.size e).1; omega)))
      clear hkey hlk hv hat hrg1 hrg hlt hg1 hs1 hwx eq hhas hPq hF1 hRow hra hrb hrF hrB hlB hlF
      simp only [mkPtr] at hen ⊢
      go_wp2_with fail
      have hu : Try.prog.underlying 85 = some (.array 64 5) := by kernel_rfl
      have hszF := HSZF.out
      have hszB := HSZB.out
      have hlhz : ∀ kl, (left kl && !kl.sameKey (pkey q)) = true → Maps.has D kl = true := fun kl h => HLH.out kl (by simp at h; exact h.1)
      have HLHZ := Lib.hid hlhz
      have HU := Lib.hid hu
      by_cases he : pg B q = pg F q
      · have heq : ∀ W : World, (Op.equalIn 10000 85 (.agg (bys (pg B q)).toArray) (.agg (bys (pg F q)).toArray)).run Try.prog W = .ok true W := fun W => by rw [HEQ.out W, decide_eq_true he]
        have HFO1 := Lib.hid (found_skip HFO.out q he)
        clear he hen hlhz
        refine wp_region_held_drew (S := (fun w' => w'.rangeAt b 0 (bys (pg F q)) ∧ w'.rangeAt b 64 (bys (pg B q)))) (by kernel_rfl) ⟨HRAd.out, HRBd.out⟩ (fun hS0 => ?_)
        refine take_at (i := 0) (d := some 19) (v := ?_) rfl rfl (by kernel_rfl) (by kernel_rfl) (by kernel_rfl) (fun _ _ _ h => h) (Or.inl ⟨by rfl, ?_⟩) (by assumption) ?_
        rotate_left
        · intro w hSw; go_simp; try (with_reducible rfl)
        try simp only [Act.put, List.setIfInBounds_toArray, List.set_cons_zero, List.set_cons_succ]
        refine take_at (i := 1) (d := some 20) (v := ?_) rfl rfl (by kernel_rfl) (by kernel_rfl) (by kernel_rfl) (fun _ _ _ h => h) (Or.inl ⟨by rfl, ?_⟩) (by assumption) ?_
        rotate_left
        · intro w hSw; go_simp; try (with_reducible rfl)
        try simp only [Act.put, List.setIfInBounds_toArray, List.set_cons_zero, List.set_cons_succ]
        refine take_at (i := 2) (d := some 21) (v := ?_) rfl rfl (by kernel_rfl) (by kernel_rfl) (by kernel_rfl) (fun _ _ _ h => h) (Or.inl ⟨by rfl, ?_⟩) (by assumption) ?_
        rotate_left
        · intro w hSw; go_simp; try (with_reducible rfl)
        try simp only [Act.put, List.setIfInBounds_toArray, List.set_cons_zero, List.set_cons_succ]
        refine take_at (i := 4) (d := some 23) (v := ?_) rfl rfl (by kernel_rfl) (by kernel_rfl) (by kernel_rfl) (fun _ _ _ h => h) (Or.inl ⟨by rfl, ?_⟩) (by assumption) ?_
        rotate_left
        · intro w hSw; go_simp; try (with_reducible rfl)
        try simp only [Act.put, List.setIfInBounds_toArray, List.set_cons_zero, List.set_cons_succ]
        refine take_at (i := 5) (d := some 24) (v := ?_) rfl rfl (by kernel_rfl) (by kernel_rfl) (by kernel_rfl) (fun _ _ _ h => h) (Or.inl ⟨by rfl, ?_⟩) (by assumption) ?_
        rotate_left
        · intro w hSw; go_simp; try (with_reducible rfl)
        try simp only [Act.put, List.setIfInBounds_toArray, List.set_cons_zero, List.set_cons_succ]
        refine take_at (i := 6) (d := some 25) (v := ?_) rfl rfl (by kernel_rfl) (by kernel_rfl) (by kernel_rfl) (fun _ _ _ h => h) (Or.inl ⟨by rfl, ?_⟩) (by assumption) ?_
        rotate_left
        · intro w hSw; go_simp; try (with_reducible rfl)
        try simp only [Act.put, List.setIfInBounds_toArray, List.set_cons_zero, List.set_cons_succ]
        refine wpAnyH_ready (rs := [3, 7]) (by kernel_rfl) (by simp) ?_
        refine AllReadyH.cons rfl (fun K hK => ?_) (AllReadyH.cons rfl (fun K hK => ?_) AllReadyH.nil)
        · rw [if_pos (by rfl)]
          refine wp_load_mid _ _ rfl _ _ rfl (bys (pg B q)) (.array 64 5) HRBd.out HU.out rfl HSZB.out ?_
          simp only [List.getElem_toArray, List.getElem_cons_succ, List.getElem_cons_zero, Act.put, List.setIfInBounds_toArray, List.set_cons_zero, List.set_cons_succ]
          refine hK.out _ _ ⟨HRAd.out, HRBd.out⟩ (fun hHeld => ?_)
          clear hK K
          refine wpAnyH_ready (rs := [7]) (by kernel_rfl) (by simp) ?_
          refine AllReadyH.cons rfl (fun K hK => ?_) AllReadyH.nil
          rw [if_pos (by rfl)]
          refine wp_load_mid _ _ rfl _ _ rfl (bys (pg F q)) (.array 64 5) HRAd.out HU.out rfl HSZF.out ?_
          simp only [List.getElem_toArray, List.getElem_cons_succ, List.getElem_cons_zero, Act.put, List.setIfInBounds_toArray, List.set_cons_zero, List.set_cons_succ]
          refine hK.out _ _ ⟨HRAd.out, HRBd.out⟩ (fun hHeld => ?_)
          clear hK K
          refine take_at (i := 8) (d := some 27) (v := ?_) rfl rfl (by kernel_rfl) (by kernel_rfl) (by kernel_rfl) (fun _ _ _ h => h) (Or.inl ⟨by rfl, ?_⟩) (by assumption) ?_
          rotate_left
          · intro w hSw; go_simp; try (with_reducible rfl)
          try simp only [Act.put, List.setIfInBounds_toArray, List.set_cons_zero, List.set_cons_succ]
          refine wpAnyH_done (by kernel_rfl) ?_ _
          have hgd : w1.grownBy w1.drew none := ⟨rfl, rfl, rfl, Nat.le_refl _, fun _ _ _ => rfl⟩
          have hr1 := HRG1.out.kept hgd (by simp) (by simp)
          go_wp2
          refine ⟨⟨_, _, ds, hr1, HLHZ.out, HROW1.out.drew, HFO1.out, HF1.out.drew⟩, ?_⟩
          rw [hr1.left_eq, HRGO.out.left_eq]; exact HLT.out
        · rw [if_pos (by rfl)]
          refine wp_load_mid _ _ rfl _ _ rfl (bys (pg F q)) (.array 64 5) HRAd.out HU.out rfl HSZF.out ?_
          simp only [List.getElem_toArray, List.getElem_cons_succ, List.getElem_cons_zero, Act.put, List.setIfInBounds_toArray, List.set_cons_zero, List.set_cons_succ]
          refine hK.out _ _ ⟨HRAd.out, HRBd.out⟩ (fun hHeld => ?_)
          clear hK K
          refine wpAnyH_ready (rs := [3]) (by kernel_rfl) (by simp) ?_
          refine AllReadyH.cons rfl (fun K hK => ?_) AllReadyH.nil
          rw [if_pos (by rfl)]
          refine wp_load_mid _ _ rfl _ _ rfl (bys (pg B q)) (.array 64 5) HRBd.out HU.out rfl HSZB.out ?_
          simp only [List.getElem_toArray, List.getElem_cons_succ, List.getElem_cons_zero, Act.put, List.setIfInBounds_toArray, List.set_cons_zero, List.set_cons_succ]
          refine hK.out _ _ ⟨HRAd.out, HRBd.out⟩ (fun hHeld => ?_)
          clear hK K
          refine take_at (i := 8) (d := some 27) (v := ?_) rfl rfl (by kernel_rfl) (by kernel_rfl) (by kernel_rfl) (fun _ _ _ h => h) (Or.inl ⟨by rfl, ?_⟩) (by assumption) ?_
          rotate_left
          · intro w hSw; go_simp; try (with_reducible rfl)
          try simp only [Act.put, List.setIfInBounds_toArray, List.set_cons_zero, List.set_cons_succ]
          refine wpAnyH_done (by kernel_rfl) ?_ _
          have hgd : w1.grownBy w1.drew none := ⟨rfl, rfl, rfl, Nat.le_refl _, fun _ _ _ => rfl⟩
          have hr1 := HRG1.out.kept hgd (by simp) (by simp)
          go_wp2
          refine ⟨⟨_, _, ds, hr1, HLHZ.out, HROW1.out.drew, HFO1.out, HF1.out.drew⟩, ?_⟩
          rw [hr1.left_eq, HRGO.out.left_eq]; exact HLT.out
      · have heq : ∀ W : World, (Op.equalIn 10000 85 (.agg (bys (pg B q)).toArray) (.agg (bys (pg F q)).toArray)).run Try.prog W = .ok false W := fun W => by rw [HEQ.out W, decide_eq_false he]
        have HFO1 := Lib.hid (found_add HFO.out q hq HLK.out he)
        clear he hen hlhz
        refine wp_region_held_drew (S := (fun w' => w'.rangeAt b 0 (bys (pg F q)) ∧ w'.rangeAt b 64 (bys (pg B q)))) (by kernel_rfl) ⟨HRAd.out, HRBd.out⟩ (fun hS0 => ?_)
        refine take_at (i := 0) (d := some 19) (v := ?_) rfl rfl (by kernel_rfl) (by kernel_rfl) (by kernel_rfl) (fun _ _ _ h => h) (Or.inl ⟨by rfl, ?_⟩) (by assumption) ?_
        rotate_left
        · intro w hSw; go_simp; try (with_reducible rfl)
        try simp only [Act.put, List.setIfInBounds_toArray, List.set_cons_zero, List.set_cons_succ]
        refine take_at (i := 1) (d := some 20) (v := ?_) rfl rfl (by kernel_rfl) (by kernel_rfl) (by kernel_rfl) (fun _ _ _ h => h) (Or.inl ⟨by rfl, ?_⟩) (by assumption) ?_
        rotate_left
        · intro w hSw; go_simp; try (with_reducible rfl)
        try simp only [Act.put, List.setIfInBounds_toArray, List.set_cons_zero, List.set_cons_succ]
        refine take_at (i := 2) (d := some 21) (v := ?_) rfl rfl (by kernel_rfl) (by kernel_rfl) (by kernel_rfl) (fun _ _ _ h => h) (Or.inl ⟨by rfl, ?_⟩) (by assumption) ?_
        rotate_left
        · intro w hSw; go_simp; try (with_reducible rfl)
        try simp only [Act.put, List.setIfInBounds_toArray, List.set_cons_zero, List.set_cons_succ]
        refine take_at (i := 4) (d := some 23) (v := ?_) rfl rfl (by kernel_rfl) (by kernel_rfl) (by kernel_rfl) (fun _ _ _ h => h) (Or.inl ⟨by rfl, ?_⟩) (by assumption) ?_
        rotate_left
        · intro w hSw; go_simp; try (with_reducible rfl)
        try simp only [Act.put, List.setIfInBounds_toArray, List.set_cons_zero, List.set_cons_succ]
        refine take_at (i := 5) (d := some 24) (v := ?_) rfl rfl (by kernel_rfl) (by kernel_rfl) (by kernel_rfl) (fun _ _ _ h => h) (Or.inl ⟨by rfl, ?_⟩) (by assumption) ?_
        rotate_left
        · intro w hSw; go_simp; try (with_reducible rfl)
        try simp only [Act.put, List.setIfInBounds_toArray, List.set_cons_zero, List.set_cons_succ]
        refine take_at (i := 6) (d := some 25) (v := ?_) rfl rfl (by kernel_rfl) (by kernel_rfl) (by kernel_rfl) (fun _ _ _ h => h) (Or.inl ⟨by rfl, ?_⟩) (by assumption) ?_
        rotate_left
        · intro w hSw; go_simp; try (with_reducible rfl)
        try simp only [Act.put, List.setIfInBounds_toArray, List.set_cons_zero, List.set_cons_succ]
        refine wpAnyH_ready (rs := [3, 7]) (by kernel_rfl) (by simp) ?_
        refine AllReadyH.cons rfl (fun K hK => ?_) (AllReadyH.cons rfl (fun K hK => ?_) AllReadyH.nil)
        · rw [if_pos (by rfl)]
          refine wp_load_mid _ _ rfl _ _ rfl (bys (pg B q)) (.array 64 5) HRBd.out HU.out rfl HSZB.out ?_
          simp only [List.getElem_toArray, List.getElem_cons_succ, List.getElem_cons_zero, Act.put, List.setIfInBounds_toArray, List.set_cons_zero, List.set_cons_succ]
          refine hK.out _ _ ⟨HRAd.out, HRBd.out⟩ (fun hHeld => ?_)
          clear hK K
          refine wpAnyH_ready (rs := [7]) (by kernel_rfl) (by simp) ?_
          refine AllReadyH.cons rfl (fun K hK => ?_) AllReadyH.nil
          rw [if_pos (by rfl)]
          refine wp_load_mid _ _ rfl _ _ rfl (bys (pg F q)) (.array 64 5) HRAd.out HU.out rfl HSZF.out ?_
          simp only [List.getElem_toArray, List.getElem_cons_succ, List.getElem_cons_zero, Act.put, List.setIfInBounds_toArray, List.set_cons_zero, List.set_cons_succ]
          refine hK.out _ _ ⟨HRAd.out, HRBd.out⟩ (fun hHeld => ?_)
          clear hK K
          refine take_at (i := 8) (d := some 27) (v := ?_) rfl rfl (by kernel_rfl) (by kernel_rfl) (by kernel_rfl) (fun _ _ _ h => h) (Or.inl ⟨by rfl, ?_⟩) (by assumption) ?_
          rotate_left
          · intro w hSw; go_simp; try (with_reducible rfl)
          try simp only [Act.put, List.setIfInBounds_toArray, List.set_cons_zero, List.set_cons_succ]
          refine wpAnyH_done (by kernel_rfl) ?_ _
          have hdl := found_length HFO.out
          have hrl := HRG1.out.lt
          go_wp2_with (at_builtin; refine append_out el_int rfl _ _ rfl (w.heap.size + 1) (.slice ao ds.length capo) _ _ rfl (World.ownsRow.alloc (World.ownsRow.drew HROW1.out) _) ⟨w1.heap.size, 0, none⟩ 1 1 [.int .i64 (q : Int)] rfl rfl (cell_one_new _ _ _) (by simp [Value.oneCell']) (by unfold maxLen; omega) (by omega) (by simp; omega) ?_; intro v' w3 hown' hgrow _)
          have hg3 : w1.grownBy w3 (Value.slice ao ds.length capo).ownBlock := by
            have h1 : (w1.alloc (Obj.cells #[.int .i64 (q : Int)] 3)).grownBy w3 (Value.slice ao ds.length capo).ownBlock := ⟨hgrow.os, hgrow.tape, hgrow.output, hgrow.size, hgrow.block⟩
            exact grownBy_alloc h1
          have hpl := HM.out.map.lt
          have hr3 := HRG1.out.kept hg3 (fun e => by have := (HROW.out.lt pm e.symm).1; omega) (fun e => by have := (HROW.out.lt w.heap.size e.symm).1; omega)
          refine ⟨⟨_, _, ds ++ [(q : Int)], hr3, HLHZ.out, by rw [List.length_append, show ints (ds ++ [(q : Int)]) = ints ds ++ [.int .i64 (q : Int)] by simp [ints]]; exact hown', HFO1.out, HF1.out.grown hg3 (fun k e hk => by have := (HROW.out.lt k e).1; omega)⟩, ?_⟩
          rw [hr3.left_eq, HRGO.out.left_eq]; exact HLT.out
        · rw [if_pos (by rfl)]
          refine wp_load_mid _ _ rfl _ _ rfl (bys (pg F q)) (.array 64 5) HRAd.out HU.out rfl HSZF.out ?_
          simp only [List.getElem_toArray, List.getElem_cons_succ, List.getElem_cons_zero, Act.put, List.setIfInBounds_toArray, List.set_cons_zero, List.set_cons_succ]
          refine hK.out _ _ ⟨HRAd.out, HRBd.out⟩ (fun hHeld => ?_)
          clear hK K
          refine wpAnyH_ready (rs := [3]) (by kernel_rfl) (by simp) ?_
          refine AllReadyH.cons rfl (fun K hK => ?_) AllReadyH.nil
          rw [if_pos (by rfl)]
          refine wp_load_mid _ _ rfl _ _ rfl (bys (pg B q)) (.array 64 5) HRBd.out HU.out rfl HSZB.out ?_
          simp only [List.getElem_toArray, List.getElem_cons_succ, List.getElem_cons_zero, Act.put, List.setIfInBounds_toArray, List.set_cons_zero, List.set_cons_succ]
          refine hK.out _ _ ⟨HRAd.out, HRBd.out⟩ (fun hHeld => ?_)
          clear hK K
          refine take_at (i := 8) (d := some 27) (v := ?_) rfl rfl (by kernel_rfl) (by kernel_rfl) (by kernel_rfl) (fun _ _ _ h => h) (Or.inl ⟨by rfl, ?_⟩) (by assumption) ?_
          rotate_left
          · intro w hSw; go_simp; try (with_reducible rfl)
          try simp only [Act.put, List.setIfInBounds_toArray, List.set_cons_zero, List.set_cons_succ]
          refine wpAnyH_done (by kernel_rfl) ?_ _
          have hdl := found_length HFO.out
          have hrl := HRG1.out.lt
          go_wp2_with (at_builtin; refine append_out el_int rfl _ _ rfl (w.heap.size + 1) (.slice ao ds.length capo) _ _ rfl (World.ownsRow.alloc (World.ownsRow.drew HROW1.out) _) ⟨w1.heap.size, 0, none⟩ 1 1 [.int .i64 (q : Int)] rfl rfl (cell_one_new _ _ _) (by simp [Value.oneCell']) (by unfold maxLen; omega) (by omega) (by simp; omega) ?_; intro v' w3 hown' hgrow _)
          have hg3 : w1.grownBy w3 (Value.slice ao ds.length capo).ownBlock := by
            have h1 : (w1.alloc (Obj.cells #[.int .i64 (q : Int)] 3)).grownBy w3 (Value.slice ao ds.length capo).ownBlock := ⟨hgrow.os, hgrow.tape, hgrow.output, hgrow.size, hgrow.block⟩
            exact grownBy_alloc h1
          have hpl := HM.out.map.lt
          have hr3 := HRG1.out.kept hg3 (fun e => by have := (HROW.out.lt pm e.symm).1; omega) (fun e => by have := (HROW.out.lt w.heap.size e.symm).1; omega)
          refine ⟨⟨_, _, ds ++ [(q : Int)], hr3, HLHZ.out, by rw [List.length_append, show ints (ds ++ [(q : Int)]) = ints ds ++ [.int .i64 (q : Int)] by simp [ints]]; exact hown', HFO1.out, HF1.out.grown hg3 (fun k e hk => by have := (HROW.out.lt k e).1; omega)⟩, ?_⟩
          rw [hr3.left_eq, HRGO.out.left_eq]; exact HLT.out
end Go.Proofs.Ytbjffempiaohpaa
namespace Go.Proofs.Ytbjffempiaohpaa
set_option linter.unusedVariables false
set_option linter.unusedSimpArgs false
open Go.RowKit Go.Deep Go.ChangeShapes Go.WideShapes

section
variable {H : Type} {enc : TypeId × Value → H} {P : Program} {W : World} {base : Nat} {spare : Nat → Bool} {held : Bool}

/-- What an opened call's parts tell. -/
def actOk (W : World) (y : ActT) : Prop := (Lit.int .i64 y.1).wf = true ∧ (Lit.int .i64 y.2.1).wf = true ∧ (Lit.int .i64 y.2.2.1).wf = true ∧
  ∃ xs : List Int, Sl W (.slice y.2.2.2.1 y.2.2.2.2.1 y.2.2.2.2.2) xs.length (bys xs) ∧ xs.length ≤ maxLen ∧ ∀ b ∈ xs, 0 ≤ b ∧ b < 256

theorem open_acts {t e tb : TypeId} {f0 f1 f2 f3 : Field} {fuel : Nat} {v : Value} {x : DataW H × List MemPlace} (ht : P.underlying t = some (.slice e)) (he : P.underlying e = some (.struct #[f0, f1, f2, f3])) (hc : P.cellsOf e = 4)
    (o0 : f0.offset = 0) (o1 : f1.offset = 1) (o2 : f2.offset = 2) (o3 : f3.offset = 3) (c0 : P.cellsOf f0.type = 1) (c1 : P.cellsOf f1.type = 1) (c2 : P.cellsOf f2.type = 1) (c3 : P.cellsOf f3.type = 1)
    (u0 : P.underlying f0.type = some (.int .i64)) (u1 : P.underlying f1.type = some (.int .i64)) (u2 : P.underlying f2.type = some (.int .i64)) (u3 : P.underlying f3.type = some (.slice tb)) (ub : P.underlying tb = some (.int .u8)) (cb : P.cellsOf tb = 1)
    (h : DataW.trod enc P W base spare held fuel t [v] = some x) : ∃ L : List ActT, Sl W v L.length (L.flatMap actCell) ∧ L.length ≤ maxLen ∧ ∀ y ∈ L, actOk W y := by
  refine sl_open actCell (actOk W) ht hc (by decide) (fun _ => rfl) (fun n cs z hl hf => ?_) h
  obtain ⟨xs, m, -, -, -, hxl, hall⟩ := DataW.trod_struct he hf
  match cs, hl with
  | [y0, y1, y2, y3], _ =>
    match xs, hxl with
    | [z0, z1, z2, z3], _ =>
      have a0 := hall 0 f0 rfl
      have a1 := hall 1 f1 rfl
      have a2 := hall 2 f2 rfl
      have a3 := hall 3 f3 rfl
      rw [o0, c0] at a0
      rw [o1, c1] at a1
      rw [o2, c2] at a2
      rw [o3, c3] at a3
      simp at a0 a1 a2 a3
      obtain ⟨k, g0, -, hk⟩ := DataW.trod_int u0 a0
      obtain ⟨a, g1, -, ha⟩ := DataW.trod_int u1 a1
      obtain ⟨n, g2, -, hn⟩ := DataW.trod_int u2 a2
      simp at g0 g1 g2
      subst g0; subst g1; subst g2
      obtain ⟨bs, hs, hb1, hb2⟩ := sl_open_bytes u3 ub cb a3
      obtain ⟨au, cu, e, hs'⟩ := id hs
      subst e
      exact ⟨(k, a, n, au, bs.length, cu), rfl, hk, ha, hn, bs, hs, hb1, hb2⟩
end
end Go.Proofs.Ytbjffempiaohpaa
namespace Go.Proofs.Ytbjffempiaohpaa
set_option linter.unusedVariables false
set_option linter.unusedSimpArgs false
open Go.RowKit Go.Shelf Go.Maps Go.Deep Go.ChangeShapes Go.WideShapes

/-- The library's sort of at most 128 numbers of the call's own. -/
abbrev SortC : Prop := ∀ (zs : List Int) (v : Value) (base : Nat) (w1 : World), zs.length ≤ 128 → w1.ownsRow base 3 1 v zs.length (ints zs) → Calls Try.prog 56 #[v] w1 fun e w' => e = .returned (.tuple #[]) ∧ w'.ownsRow base 3 1 v zs.length (ints (zs.mergeSort fun x y => decide (x ≤ y))) ∧ Fr (fun k => v.ownBlock = some k) w1 w'

set_option maxHeartbeats 2000000 in
set_option maxRecDepth 1000000 in
theorem memActs_calls (SORT : RowKit.Hid SortC) (v : Value) (l : List Int) (va : Value) (L : List ActT) (w : World) (h0 : ∀ b ∈ l, 0 ≤ b ∧ b < 256) (hbig : l.length ≤ 9223372036854775807) (hv : Sl w v l.length (bys l))
    (hL : L.length ≤ 9223372036854775807) (hva : Sl w va L.length (L.flatMap actCell)) (hok : ∀ y ∈ L, actOk w y) :
    Calls Try.prog 7 #[v, va] w fun e w' => e = .returned (.bool true) ∧ Fr No w w' := by
  obtain ⟨av, cap, rfl⟩ := hv.form
  obtain ⟨aa, capa, rfl⟩ := hva.form
  by_cases hlen : l.length ≤ 9000
  · have C1 := Lib.hid (fun w1 (h : Fr No w w1) => flat_calls _ l w1 h0 (hv.fr0 h))
    have C2 := Lib.hid (fun w1 (h : Fr No w w1) => rflat_calls _ l w1 h0 (hv.fr0 h))
    have C3 := Lib.hid (fun w1 (h : Fr No w w1) => few_calls _ L w1 hL (hva.fr0 h))
    have HFL := Lib.hid (flatF_length l)
    have HFR := Lib.hid (flatF_range l h0)
    have HVA := Lib.hid hva
    have HOK := Lib.hid hok
    clear h0 hbig hv hva hok
    generalize flatF l = F at *
    go_enter Try.func7, Try.ntmps7
    go_wp2_with fail
    refine (awake9_calls _).mono ?_
    rintro e w1 ⟨rfl, hF1⟩
    go_wp2_with fail
    refine (C3.out _ hF1).mono ?_
    rintro e wf ⟨bf, rfl, hFf⟩
    have hF01 := hF1.trans hFf
    cases bf
    · go_wp2
      go_ret
      exact ⟨rfl, hF01⟩
    go_wp2_with fail
    refine (C1.out _ hF01).mono ?_
    rintro e w2 ⟨mb, A2, rfl, hM2, hF2, hA2⟩
    have hF02 := hF01.trans hF2
    go_wp2_with fail
    refine (C2.out _ hF02).mono ?_
    rintro e w3 ⟨rb, R3, rfl, hR3, hF3, hR3l⟩
    have hF03 := hF02.trans hF3
    have HA3 := Lib.hid (show ∀ j, A2 j → w.heap.size ≤ j from fun j hj => Nat.le_trans hF01.size (hA2 j hj))
    have HR3 := Lib.hid (show ∀ j, R3 j → w.heap.size ≤ j from fun j hj => Nat.le_trans hF02.size (hR3l j hj))
    have HT3 := Lib.hid (show Two w3 mb A2 rb R3 F F F from ⟨hM2.fr0 hF3, hR3, fun k hk hR => by have := hM2.low k hk; have := hR3l k hR; omega⟩)
    clear hM2 hR3 hA2 hR3l C1 C2 C3
    go_wp2_with fail
    go_loopw [27] (fun i wr => ∃ j : Nat, j ≤ L.length ∧ i = .int .i64 j ∧ ∃ A R B, Two wr mb A rb R F B B ∧ Fr No w wr ∧ (∀ k, A k → w.heap.size ≤ k) ∧ (∀ k, R k → w.heap.size ≤ k)) (fun i _ => L.length - (intOf i).toNat)
    case atStart => exact ⟨0, Nat.zero_le _, rfl, A2, R3, F, HT3.out, hF03, HA3.out, HR3.out⟩
    case round =>
      obtain ⟨j, hj, rfl, A, R, B, hT, hF, hA, hR⟩ := hrel
      by_cases hlt : j < L.length
      · have g0 := flat_get actCell 4 (fun _ => rfl) L j 0 hlt (by omega)
        have g1 := flat_get actCell 4 (fun _ => rfl) L j 1 hlt (by omega)
        have g2 := flat_get actCell 4 (fun _ => rfl) L j 2 hlt (by omega)
        have g3 := flat_get actCell 4 (fun _ => rfl) L j 3 hlt (by omega)
        have hyk := HOK.out _ (List.getElem_mem hlt)
        revert g0 g1 g2 g3 hyk
        generalize L[j] = y
        obtain ⟨d, a, n, au, lu, cu⟩ := y
        intro g0 g1 g2 g3 hyk
        simp only [actCell, List.getElem?_cons_zero, List.getElem?_cons_succ] at g0 g1 g2 g3
        obtain ⟨k1, k2, k3, xs, hsl, hx1, hx2⟩ := hyk
        dsimp only at k1 k2 k3 hsl
        have hva := HVA.out
        obtain ⟨b, off, rfl, hb, hc⟩ := hva.at (by intro e; rw [e] at g0; simp at g0)
        have c0 := hF.cell (hc _ _ g0) (fun h => h)
        have c1 := hF.cell (hc _ _ g1) (fun h => h)
        have c2 := hF.cell (hc _ _ g2) (fun h => h)
        have c3 := hF.cell (hc _ _ g3) (fun h => h)
        simp only [← Nat.add_assoc, Nat.add_zero] at c0 c1 c2 c3
        have hFa : Fr No wr (wr.alloc (Obj.cells #[.int .i64 d, .int .i64 a, .int .i64 n, .slice au lu cu] 56)) := (Fr.refl _ _).alloc _
        have b2 := bounds_i64 k2
        have b3 := bounds_i64 k3
        have HAC := Lib.hid (act_calls mb rb A R F B d a n au lu cu xs (wr.alloc (Obj.cells #[.int .i64 d, .int .i64 a, .int .i64 n, .slice au lu cu] 56)) (hT.fr0 hFa) b2 b3
          (by obtain ⟨_, _, e, _⟩ := id hsl; cases e; exact hsl.fr0 (hF.trans hFa)) (fun k e hne => by
            have h1 := hsl.lt e (fun e2 => hne (by simpa [bys] using e2))
            exact ⟨fun h => by have := hA k h; omega, fun h => by have := hR k h; omega⟩) hx2 (by unfold maxLen at hx1; omega))
        have HA := Lib.hid hA
        have HR := Lib.hid hR
        have HF := Lib.hid (hF.trans hFa)
        clear hc hva g0 g1 g2 g3 hT hF hA hR hsl hx1 hx2 k1 k2 k3 b2 b3
        go_wp2_with fail
        refine HAC.out.mono ?_
        rintro e w5 ⟨rfl, A', R', B', hT', hF', hgA, hgR⟩
        have HT' := Lib.hid hT'
        have HF' := Lib.hid (show Fr No w w5 from HF.out.trans' hF' (fun i hi h => by
          rcases h with h | h
          · have := HA.out i h; omega
          · have := HR.out i h; omega))
        have HA' := Lib.hid (show ∀ k, A' k → w.heap.size ≤ k from fun k hk => by
          rcases hgA k hk with h | h
          · exact HA.out k h
          · exact Nat.le_trans HF.out.size h)
        have HR' := Lib.hid (show ∀ k, R' k → w.heap.size ≤ k from fun k hk => by
          rcases hgR k hk with h | h
          · exact HR.out k h
          · exact Nat.le_trans HF.out.size h)
        clear hT' hF' hgA hgR
        go_wp2
        go_roundw
        case rel => exact ⟨j + 1, by omega, by go_num, A', R', B', HT'.out, HF'.out, HA'.out, HR'.out⟩
        case measure => simp [intOf]; omega
      · obtain ⟨g, capg, gw, hI⟩ := hT.2.1.inn
        have hbl := hT.1.blen
        have HSS := Lib.hid (fun w' (h : Fr A wr w') => ref_conv (hI.fr h hT.2.2))
        have hF0 := Fr.refl A wr
        have hFd := (Fr.refl A wr).drew
        have HBY := Lib.hid (fun (w' : World) (h : Fr No wr w') => bytes_calls (hT.1.fr0 h))
        have HCV := Lib.hid (fun (w' : World) (b : Nat) (h : Row w' b 5 B) => row_conv h hbl)
        have HT := Lib.hid hT
        have HFw := Lib.hid hF
        have HA := Lib.hid hA
        have hdl := dirtyN_length F B 128
        clear hT hI hbl hF hA hR
        generalize strOfNums B = s at *
        go_upto_region 14 with fail
        obtain ⟨e0, e1⟩ := HSS.out _ hFd
        go_region_with (first
          | (go_at_call 21; ((with_reducible refine (HBY.out wr.drew (Fr.refl _ _).drew).mono ?_); rintro e w7 ⟨b7, A7, rfl, hp7, hr7, -, -⟩; have hFn := hFd.trans hp7.2.1; have hcv := HCV.out w7 b7 hr7; obtain ⟨e2, e3⟩ := HSS.out _ hFn; have HM7 : RowKit.Hid (MemAt w7 mb A7 F B) := Lib.hid hp7.1; have HR7 : RowKit.Hid (RefAt w7 rb R F B) := Lib.hid ((HT.out.fr0 (Fr.refl No wr).drew).mem hp7).2.1; clear hr7 hp7))
          | (go_at_call 28; ((with_reducible refine (dirty_calls HM7.out SORT).mono ?_); rintro e w8 ⟨r8, rfl, hF8, hs8⟩; obtain ⟨a8, c8, rfl⟩ := hs8.form; have HS8 := Lib.hid hs8; have HR8 : RowKit.Hid (RefAt w8 rb R F B) := Lib.hid (HR7.out.fr hF8 (fun _ h => h.elim)); have HF8 := Lib.hid hF8; clear hs8 hF8))
          | (go_at_call 29; ((with_reducible refine (rdirty_calls HR8.out HFL.out HFR.out).mono ?_); rintro e w9 ⟨r9, rfl, hF9, hs9⟩; obtain ⟨a9, c9, rfl⟩ := hs9.form; have HI9 := Lib.hid (ints09_calls _ _ (dirtyN F B 128) w9 (by omega) (HS8.out.fr0 hF9) hs9); have HF9 := Lib.hid hF9; clear hs9 hF9))
          | (go_at_call 27; ((with_reducible refine HI9.out.mono ?_); rintro e w10 ⟨rfl, hF10⟩))
          | fail "arm")
        all_goals (
          go_wp2
          go_ret
          exact ⟨rfl, (((HFw.out.trans' hFn (fun i hi h => by have := HA.out i h; omega)).trans HF8.out).trans HF9.out).trans hF10⟩)
  · have hlen' : 9000 < l.length := by omega
    clear h0 hv hva hok hlen
    go_enter Try.func7, Try.ntmps7
    go_wp2_with fail
    refine (awake9_calls _).mono ?_
    rintro e w1 ⟨rfl, hF1⟩
    go_wp2
    go_ret
    exact ⟨rfl, hF1⟩
end Go.Proofs.Ytbjffempiaohpaa
namespace Go.Proofs.Ytbjffempiaohpaa
open Go.Shelf
def sk_lays189_ren : Go.Shelf.Ren := ⟨fun | 189 => 56 | 125 => 70 | 257 => 69 | 128 => 87 | 129 => 88 | 294 => 78 | 295 => 79 | 296 => 80 | 297 => 81 | 298 => 82 | 299 => 83 | 216 => 84 | 300 => 85 | 301 => 86 | 328 => 92 | 329 => 93 | 330 => 94 | 331 => 95 | 332 => 96 | 215 => 97 | 343 => 99 | n => n, fun | 28 => 59 | 3 => 3 | 46 => 98 | 0 => 0 | 51 => 115 | 53 => 78 | 4 => 4 | 183 => 122 | 182 => 121 | 131 => 127 | 5 => 5 | 9 => 9 | 218 => 132 | 222 => 136 | 228 => 138 | 229 => 139 | n => n, fun | n => n⟩
theorem sk_lays189 : Go.Proofs.Lays.n189 Try.prog sk_lays189_ren := {
  mixed := by kernel_rfl
  f125 := Try.func70.trans (congrArg some (by kernel_rfl))
  f128 := Try.func87.trans (congrArg some (by kernel_rfl))
  f129 := Try.func88.trans (congrArg some (by kernel_rfl))
  f189 := Try.func56.trans (congrArg some (by kernel_rfl))
  f215 := Try.func97.trans (congrArg some (by kernel_rfl))
  f216 := Try.func84.trans (congrArg some (by kernel_rfl))
  f257 := Try.func69.trans (congrArg some (by kernel_rfl))
  f294 := Try.func78.trans (congrArg some (by kernel_rfl))
  f295 := Try.func79.trans (congrArg some (by kernel_rfl))
  f296 := Try.func80.trans (congrArg some (by kernel_rfl))
  f297 := Try.func81.trans (congrArg some (by kernel_rfl))
  f298 := Try.func82.trans (congrArg some (by kernel_rfl))
  f299 := Try.func83.trans (congrArg some (by kernel_rfl))
  f300 := Try.func85.trans (congrArg some (by kernel_rfl))
  f301 := Try.func86.trans (congrArg some (by kernel_rfl))
  f328 := Try.func92.trans (congrArg some (by kernel_rfl))
  f329 := Try.func93.trans (congrArg some (by kernel_rfl))
  f330 := Try.func94.trans (congrArg some (by kernel_rfl))
  f331 := Try.func95.trans (congrArg some (by kernel_rfl))
  f332 := Try.func96.trans (congrArg some (by kernel_rfl))
  f343 := Try.func99.trans (congrArg some (by kernel_rfl))
  t0 := Try.underlying0
  a0 := Try.isAgg0
  z0 := Try.sizeOf0
  v0 := Try.zeroValue0
  t3 := Try.underlying3
  a3 := Try.isAgg3
  z3 := Try.sizeOf3
  v3 := Try.zeroValue3
  t4 := Try.underlying4
  a4 := Try.isAgg4
  z4 := Try.sizeOf4
  v4 := Try.zeroValue4
  t5 := Try.underlying5
  a5 := Try.isAgg5
  z5 := Try.sizeOf5
  v5 := Try.zeroValue5
  t9 := Try.underlying9
  a9 := Try.isAgg9
  z9 := Try.sizeOf9
  v9 := Try.zeroValue9
  t28 := Try.underlying59
  a28 := Try.isAgg59
  z28 := Try.sizeOf59
  v28 := Try.zeroValue59
  t46 := Try.underlying98
  a46 := Try.isAgg98
  z46 := Try.sizeOf98
  v46 := Try.zeroValue98
  t51 := Try.underlying115
  a51 := Try.isAgg115
  z51 := Try.sizeOf115
  v51 := Try.zeroValue115
  t53 := Try.underlying78
  a53 := Try.isAgg78
  z53 := Try.sizeOf78
  v53 := Try.zeroValue78
  t131 := Try.underlying127
  a131 := Try.isAgg127
  z131 := Try.sizeOf127
  v131 := Try.zeroValue127
  t182 := Try.underlying121
  a182 := Try.isAgg121
  z182 := Try.sizeOf121
  v182 := Try.zeroValue121
  t183 := Try.underlying122
  a183 := Try.isAgg122
  z183 := Try.sizeOf122
  v183 := Try.zeroValue122
  t218 := Try.underlying132
  a218 := Try.isAgg132
  z218 := Try.sizeOf132
  v218 := Try.zeroValue132
  t222 := Try.underlying136
  a222 := Try.isAgg136
  z222 := Try.sizeOf136
  v222 := Try.zeroValue136
  t228 := Try.underlying138
  a228 := Try.isAgg138
  z228 := Try.sizeOf138
  v228 := Try.zeroValue138
  t229 := Try.underlying139
  a229 := Try.isAgg139
  z229 := Try.sizeOf139
  v229 := Try.zeroValue139 }

end Go.Proofs.Ytbjffempiaohpaa
namespace Go.Proofs.Ytbjffempiaohpaa
set_option linter.unusedVariables false
set_option linter.unusedSimpArgs false
open Go.RowKit Go.Shelf Go.Sort Go.Maps Go.Deep Go.ChangeShapes Go.WideShapes

theorem sortC : SortC := by
  intro zs v base w1 hlen h
  obtain ⟨h1, ⟨rfl, h2⟩ | ⟨g, cap, cur, rfl, hg, hh, hn, hm, hc, ht⟩⟩ := h
  · have : zs = [] := List.eq_nil_of_length_eq_zero h2
    subst this
    refine (Any.slices_Sort_int_none sk_lays189 none 0 w1).mono ?_
    rintro e w' ⟨rfl, rfl⟩
    exact ⟨rfl, by rw [show ([] : List Int).mergeSort (fun x y => decide (x ≤ y)) = [] by simp]; exact World.ownsRow_nil _ _ _ _, Fr.refl _ _⟩
  · have ht' : cur.toList.take zs.length = zs.map (Value.int .i64) := by simpa [ints] using ht
    have hg' : g < w1.heap.size := (Array.getElem?_eq_some_iff.1 hh).1
    refine (Any.slices_Sort_int sk_lays189 g 0 cap zs w1 (holds_of_blockI hh ht') hg' (by omega)).mono ?_
    rintro e w' ⟨rfl, n, os, rfl⟩
    refine ⟨rfl, ?_, ?_⟩
    · have := ownsRow_sortedI (w := w1) (base := base) (n := n) (e := 3) (os := os) (ts := zs.mergeSort fun x y => decide (x ≤ y)) (by simp) hg hh hn hm hc
      simpa [ints] using this
    · have := grownBy_sortedI (w := w1) (g := g) (n := n) (os := os) (zs.mergeSort fun x y => decide (x ≤ y)).toArray
      exact (Fr.refl _ _).grown this (fun k e _ => by cases e; rfl)

theorem memActs_all (v : Value) (l : List Int) (va : Value) (L : List ActT) (w : World) (h0 : ∀ b ∈ l, 0 ≤ b ∧ b < 256) (hbig : l.length ≤ 9223372036854775807) (hv : Sl w v l.length (bys l))
    (hL : L.length ≤ 9223372036854775807) (hva : Sl w va L.length (L.flatMap actCell)) (hok : ∀ y ∈ L, actOk w y) :
    Calls Try.prog 7 #[v, va] w fun e w' => e = .returned (.bool true) ∧ Fr No w w' :=
  memActs_calls (Lib.hid sortC) v l va L w h0 hbig hv hL hva hok
end Go.Proofs.Ytbjffempiaohpaa
