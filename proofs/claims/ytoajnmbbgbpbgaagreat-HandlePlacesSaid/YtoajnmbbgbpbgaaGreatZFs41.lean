/-
  Chapter 12, the reference: Check, Find, an inode, Size.
-/
import Derived.Test.YtoajnmbbgbpbgaaGreatZFs40
import Derived.Laws.ResultCell
namespace Go.Proofs.YtoajnmbbgbpbgaaGreat
set_option linter.unusedVariables false
set_option linter.unusedSimpArgs false
open Go.RowKit Go.Shelf Go.Maps

/-- What a call of the reference comes to. -/
def RsP (w : World) (rb : Nat) (R : Nat → Prop) (F B : List Int) (v : Value) (e : Ending) (w' : World) : Prop := ∃ R', e = .returned v ∧ Rp w rb R F B w' R'

theorem rcheck12_calls {w : World} {rb : Nat} {R : Nat → Prop} {F B : List Int} (h : RefAt w rb R F B) :
    Calls Tryz.prog 60 #[.pointer (some ⟨rb, 0, none⟩)] w fun e w' => e = .returned (.int .i64 (checkE B)) ∧ Fr No w w' := by
  have HT := Lib.hid (rtable_calls h)
  clear h
  go_enter Tryz.func60, Tryz.ntmps60
  go_wp2_with fail
  refine HT.out.mono ?_
  rintro e w1 ⟨hF, ⟨hn, rfl⟩ | ⟨L, u, T, v, hs, -, rfl, -, -⟩⟩
  · have HN := Lib.hid hn
    clear hn
    go_wp2
    go_ret
    exact ⟨by rw [checkE_none HN.out]; rfl, hF⟩
  · have HN := Lib.hid hs
    clear hs
    go_wp2
    go_ret
    exact ⟨by rw [checkE_some HN.out]; rfl, hF⟩

/-- The reference's list of inodes. -/
structure RtL (w : World) (L : List Nd) (u : Nat) (T : List TE) (v : Value) (wr : World) : Prop where
  map : T.map Prod.fst = L
  len : T.length = 8
  row : wr.ownsRow w.heap.size 95 3 v 8 (nodC T)
  ext : ∀ p ∈ T, Sn w.heap.size wr p.2 p.1.ext.length (extCells p.1.ext)
theorem RtL.fr0 {w : World} {L : List Nd} {u : Nat} {T : List TE} {v : Value} {wr w' : World} (h : RtL w L u T v wr) (hF : Fr No wr w') : RtL w L u T v w' :=
  ⟨h.map, h.len, ownsRow_fr h.row hF (fun _ _ h => h), fun p hp => (h.ext p hp).fr0 hF⟩
theorem RtL.node {w : World} {L : List Nd} {u : Nat} {T : List TE} {v : Value} {wr : World} (h : RtL w L u T v wr) (k : Nat) (hk : k < 8) :
    ∃ g c a cc nm sz xs, v = .slice (some ⟨g, 0, none⟩) 8 c ∧ L.getD k Nd.free = ⟨nm, sz, xs⟩ ∧ wr.cell? ⟨g, k * 3, none⟩ = some (.string nm) ∧ wr.cell? ⟨g, k * 3 + 1, none⟩ = some (.int .i64 sz) ∧ wr.cell? ⟨g, k * 3 + 2, none⟩ = some (.slice a xs.length cc) ∧ Sn w.heap.size wr (.slice a xs.length cc) xs.length (extCells xs) := by
  obtain ⟨g, c, rfl, -, -⟩ := World.ownsRow.form h.row (by omega)
  have hkT : k < T.length := by rw [h.len]; exact hk
  obtain ⟨q0, q1, q2⟩ := nodC_get T k hkT
  have hs := h.ext _ (List.getElem_mem hkT)
  obtain ⟨a, cc, e⟩ := hs.1.form
  rw [e] at hs
  refine ⟨g, c, a, cc, T[k].1.name, T[k].1.size, T[k].1.ext, rfl, ?_, ?_, ?_, ?_, hs⟩
  · rw [← h.map, getD_get (by simpa using hkT), List.getElem_map]
  · rw [h.row.cellAt _ (by omega), q0]
  · rw [h.row.cellAt _ (by omega), q1]
  · rw [h.row.cellAt _ (by omega), q2, e]
/-- The table, its two ways. -/
theorem rtable_bad {w : World} {rb : Nat} {R : Nat → Prop} {F B : List Int} (h : RefAt w rb R F B) (ht : tableF B = none) :
    Calls Tryz.prog 98 #[.pointer (some ⟨rb, 0, none⟩)] w fun e w' => e = .returned (.tuple #[.slice none 0 0, .int .u32 0, .bool false]) ∧ Fr No w w' := by
  refine (rtable_calls h).mono ?_
  rintro e w1 ⟨hF, ⟨hn, rfl⟩ | ⟨L, u, T, v, hs, -, rfl, -, -⟩⟩
  · exact ⟨rfl, hF⟩
  · rw [ht] at hs; cases hs
theorem rtable_good {w : World} {rb : Nat} {R : Nat → Prop} {F B : List Int} (h : RefAt w rb R F B) {L : List Nd} {u : Nat} (ht : tableF B = some (L, u)) :
    Calls Tryz.prog 98 #[.pointer (some ⟨rb, 0, none⟩)] w fun e w' => ∃ T a c N, N = 8 ∧ e = .returned (.tuple #[.slice a N c, .int .u32 (u : Int), .bool true]) ∧ Fr No w w' ∧ RtL w L u T (.slice a N c) w' := by
  refine (rtable_calls h).mono ?_
  rintro e w1 ⟨hF, ⟨hn, rfl⟩ | ⟨L', u', T, v, hs, hm, rfl, hr, he⟩⟩
  · rw [ht] at hn; cases hn
  · rw [ht] at hs; cases hs
    obtain ⟨a, c, rfl⟩ := (Sl.of_owns hr).form
    exact ⟨T, a, c, 8, rfl, rfl, hF, hm, by have := tableF_len ht; rw [← hm] at this; simpa using this, hr, he⟩

set_option maxHeartbeats 4000000 in
set_option maxRecDepth 1000000 in
theorem rfind12_calls {w : World} {rb : Nat} {R : Nat → Prop} {F B : List Int} (h : RefAt w rb R F B) (s : ByteArray) (hs : s.size ≤ 140737488355328) :
    Calls Tryz.prog 64 #[.pointer (some ⟨rb, 0, none⟩), .string s] w fun e w' => e = .returned (.tuple #[.int .i64 (findR B s).1, .int .i64 (findR B s).2]) ∧ Fr No w w' := by
  cases ht : tableF B with
  | none =>
    have HT := Lib.hid (rtable_bad h ht)
    have hr : findR B s = (0, 120) := by unfold findR; generalize tableF B = t at *; subst ht; rfl
    rw [hr]
    clear h ht hr hs
    go_enter Tryz.func64, Tryz.ntmps64
    go_wp2_with fail
    refine HT.out.mono ?_
    rintro e w1 ⟨rfl, hF⟩
    go_wp2
    go_ret2
    exact ⟨rfl, hF⟩
  | some p =>
    obtain ⟨L, u⟩ := p
    have HT := Lib.hid (rtable_good h ht)
    have hr : findR B s = if nameF s = false then (0, 121) else if findI L s = -1 then (0, 123) else (findI L s, 0) := by unfold findR; generalize tableF B = t at *; subst ht; rfl
    have HL := Lib.hid (tableF_len ht)
    have HNC := Lib.hid (fun w1 => rname_calls s w1 hs)
    have HRQ := Lib.hid hr
    clear h ht hr hs
    go_enter Tryz.func64, Tryz.ntmps64
    go_wp2_with fail
    refine HT.out.mono ?_
    rintro e w1 ⟨T, a, c, N, hN8, rfl, hF1, hL⟩
    have HLL := Lib.hid hL
    have HN8 := Lib.hid hN8
    clear hL HT hN8
    go_wp2_with fail
    refine (HNC.out _).mono ?_
    rintro e w2 ⟨rfl, rfl⟩
    cases hn : nameF s
    · have HNF := Lib.hid hn
      clear hn
      go_wp2
      go_ret2
      exact ⟨by rw [HRQ.out, if_pos HNF.out]; rfl, hF1⟩
    · have HNF := Lib.hid hn
      clear hn
      go_wp2_with fail
      go_loopw [24] (fun i wr => ∃ k : Nat, k ≤ N ∧ i = .int .i64 k ∧ Fr No w1 wr ∧ ∀ q (hq : q < L.length), q < k → L[q].name ≠ s) (fun i _ => N - (intOf i).toNat)
      case atStart => exact ⟨0, Nat.zero_le _, rfl, Fr.refl _ _, fun q _ h => absurd h (Nat.not_lt_zero q)⟩
      case round =>
        obtain ⟨k, hk, rfl, hF, hne⟩ := hrel
        have HN := Lib.hid hne
        clear hne
        by_cases hkt : k < N
        · obtain ⟨g, c', a1, cc1, nm, sz1, xs1, e1, e2, x0, x1, x2, -⟩ := (HLL.out.fr0 hF).node k (by have := HN8.out; omega)
          obtain ⟨rfl, rfl⟩ : a = some ⟨g, 0, none⟩ ∧ c = c' := by cases e1; exact ⟨rfl, rfl⟩
          have hk9 : k < 9 := by have := HN8.out; omega
          have hkL : k < L.length := by have := HL.out; have := HN8.out; omega
          rw [getD_get hkL] at e2
          have HNM : RowKit.Hid (L[k].name = nm) := Lib.hid (by rw [e2])
          have qe := eq_str nm s
          clear e2 e1
          by_cases hnm : nm = s
          · rw [decide_eq_true hnm] at qe
            have HE := Lib.hid hnm
            clear hnm
            have hfi : findI L s = (k : Int) := findI_at hkL (HNM.out.trans HE.out) (fun q hq hqk => HN.out q hq hqk)
            have HFI := Lib.hid hfi
            clear hfi
            go_wp2
            go_ret2
            exact ⟨by rw [HRQ.out, if_neg (by rw [HNF.out]; decide), HFI.out, if_neg (by omega)]; rfl, hF1.trans (hF.alloc _)⟩
          · rw [decide_eq_false hnm] at qe
            have HE := Lib.hid hnm
            clear hnm
            go_wp2
            go_roundw
            case rel =>
              refine ⟨k + 1, by omega, by go_num, hF.alloc _, fun q hq hqk => ?_⟩
              by_cases e : q = k
              · subst e; exact fun e => HE.out (HNM.out.symm.trans e)
              · exact HN.out q hq (by omega)
            case measure => simp [intOf]; omega
        · have hfi : findI L s = -1 := findI_no (fun q hq => HN.out q hq (by have := HL.out; have := HN8.out; omega))
          have HFI := Lib.hid hfi
          clear hfi
          go_wp2
          go_ret2
          exact ⟨by rw [HRQ.out, if_neg (by rw [HNF.out]; decide), if_pos HFI.out]; rfl, hF1.trans hF⟩

/-- An inode, its block's cells told. -/
def NodP (w : World) (B : List Int) (n : Int) (e : Ending) (w' : World) : Prop :=
  Fr No w w' ∧ ((∃ x, 0 < x ∧ openE B n = x ∧ e = .returned (.tuple #[.agg #[.string ⟨#[]⟩, .int .i64 0, .slice none 0 0], .int .u32 0, .int .i64 x])) ∨
    ∃ L u, ∃ k : Nat, tableF B = some (L, u) ∧ k < 8 ∧ n = k ∧ openE B n = 0 ∧ (L.getD k Nd.free).name ≠ noName ∧ ∃ a c, e = .returned (.tuple #[.agg #[.string (L.getD k Nd.free).name, .int .i64 (L.getD k Nd.free).size, .slice a (L.getD k Nd.free).ext.length c], .int .u32 (u : Int), .int .i64 0]) ∧
      Sn w.heap.size w' (.slice a (L.getD k Nd.free).ext.length c) (L.getD k Nd.free).ext.length (extCells (L.getD k Nd.free).ext))
theorem results_cell_tmp2 {fn : Func} {p u v : Tmp} {ty : TypeId} (h : fn.results = #[.cell p ty, .tmp u, .tmp v]) (tmps : Array Value) (P : Program) (w : World) :
    (results fn tmps).run P w =
      ((asAddr (tmps.getD p undef)).run P w).andThen fun a w₁ => ((loadVar ty a).run P w₁).andThen fun x w₂ => .ok (.tuple #[x, tmps.getD u undef, tmps.getD v undef]) w₂ := by
  simp only [results, h]
  simp [Sem.run_bind, Result.andThen]
theorem load_ino {w : World} {b : Nat} {x y z : Value} (h0 : w.cell? ⟨b, 0, none⟩ = some x) (h1 : w.cell? ⟨b, 1, none⟩ = some y) (h2 : w.cell? ⟨b, 2, none⟩ = some z) : (loadVar 95 ⟨b, 0, none⟩).run Tryz.prog w = .ok (.agg #[x, y, z]) w :=
  run_loadVar_mid (P := Tryz.prog) w b 0 _ [x, y, z] _ (fun j v hj => by
    rw [Nat.zero_add]
    match j, hj with
    | 0, hj => cases hj; exact h0
    | 1, hj => cases hj; exact h1
    | 2, hj => cases hj; exact h2) Tryz.underlying95 rfl (by kernel_rfl)
theorem ret_ino {fn : Func} {p q r : Tmp} (hfn : fn.results = #[.cell p 95, .tmp q, .tmp r]) {Q : Ending → World → Prop} {a : Act} {w : World} {b : Nat} {x y z v1 v2 : Value} (hp : a.tmps.getD p undef = .pointer (some ⟨b, 0, none⟩)) (hq : a.tmps.getD q undef = v1) (hr : a.tmps.getD r undef = v2)
    (hb : w.heap[b]? = some (.cells #[x, y, z] 95 (0, 0))) (hd : a.defers = []) (hR : Q (.returned (.tuple #[.agg #[x, y, z], v1, v2])) w) : bodyPost Tryz.prog fn Q .ret a w := by
  refine bodyPost_ret ?_ hd hR
  rw [results_cell_tmp2 hfn, hp, hq, hr]
  simp only [asAddr, Sem.run_pure, Result.andThen_ok, load_ino (x := x) (y := y) (z := z) (heap_cell (o := 0) hb rfl) (heap_cell (o := 1) hb rfl) (heap_cell (o := 2) hb rfl)]
end Go.Proofs.YtoajnmbbgbpbgaaGreat
