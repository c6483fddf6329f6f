/-
  Chapter 12: Format, Check, Find.
-/
import Derived.Test.YtoajnmbbgbpbgaaGreatZG
namespace Go.Proofs.YtoajnmbbgbpbgaaGreat
set_option linter.unusedVariables false
set_option linter.unusedSimpArgs false
open Go.RowKit Go.Shelf Go.Maps

theorem fread_bad {w : World} {mb : Nat} {A : Nat → Prop} {F B : List Int} (h : MemAt w mb A F B) (hn : tableF B = none) :
    Calls Tryz.prog 80 #[.pointer (some ⟨mb, 0, none⟩)] w fun e w' => ∃ A' cs, e = .returned (.tuple #[.agg (List.toArray cs), .int .i64 120]) ∧ Mp w mb A F B w' A' ∧ cs.length = 25 ∧ ∀ v ∈ cs, v.oneCell' = true := by
  refine (fread_calls h).mono ?_
  rintro e w' ⟨A', cs, rfl, h1, h2, h3, -⟩
  exact ⟨A', cs, by rw [checkE_none hn], h1, h2, h3⟩
theorem fread_good {w : World} {mb : Nat} {A : Nat → Prop} {F B : List Int} (h : MemAt w mb A F B) {L : List Nd} {u : Nat} (ht : tableF B = some (L, u)) :
    Calls Tryz.prog 80 #[.pointer (some ⟨mb, 0, none⟩)] w fun e w' => ∃ A' T, e = .returned (.tuple #[.agg (tabC T u).toArray, .int .i64 0]) ∧ Mp w mb A F B w' A' ∧ T.map Prod.fst = L ∧ TV (fun k => k < w.heap.size ∨ A' k) w' T := by
  refine (fread_calls h).mono ?_
  rintro e w' ⟨A', cs, rfl, h1, h2, h3, h4⟩
  obtain ⟨T, hT, rfl, hv⟩ := h4 L u ht
  exact ⟨A', T, by rw [checkE_some ht], h1, hT, hv⟩
theorem tableF_len {B : List Int} {L : List Nd} {u : Nat} (h : tableF B = some (L, u)) : L.length = 8 := ((tableF_iff B L u).1 h).len
theorem tableF_u {B : List Int} {L : List Nd} {u : Nat} (h : tableF B = some (L, u)) : u < 2 ^ 32 := by rw [((tableF_iff B L u).1 h).used]; exact usedN_lt _

/-- Behind 'read' and the store: block b holds the table. -/
structure Has (w : World) (mb : Nat) (A : Nat → Prop) (F B : List Int) (b : Nat) (T : List TE) (u : Nat) (w' : World) (A' : Nat → Prop) : Prop where
  mp : Mp w mb A F B w' A'
  tb : TbAt w' b T u
  low : w.heap.size ≤ b
  out : ¬ A' b
  tv : TV (fun k => k < w.heap.size ∨ A' k ∨ k = b) w' T
theorem has_mk {w w1 w2 : World} {mb : Nat} {A A1 : Nat → Prop} {F B : List Int} {T : List TE} {u : Nat} {o : Obj} (hp : Mp w mb A F B w1 A1) (hT : T.length = 8) (hv : TV (fun k => k < w.heap.size ∨ A1 k) w1 T)
    (hb : w2.heap[w1.heap.size]? = some (.cells (tabC T u).toArray 98 (0, 0))) (hF : Fr (fun k => k = w1.heap.size) (w1.alloc o) w2) : Has w mb A F B w1.heap.size T u w2 A1 := by
  have hF2 : Fr No w1 w2 := ((Fr.refl No w1).alloc o).trans' hF (fun i hi e => by omega)
  refine ⟨hp.thenFr hF2, ⟨hb, hT⟩, hp.2.1.size, fun h => Nat.lt_irrefl _ (hp.1.low _ h), ?_⟩
  refine (hv.up.fr0 hF2).mono (fun k _ h => ?_)
  rcases h with h | h | h
  · exact .inl (.inl h)
  · exact .inl (.inr h)
  · exact .inr (by omega)
theorem Has.fr {w w' w2 : World} {mb b : Nat} {A A' : Nat → Prop} {F B : List Int} {T : List TE} {u : Nat} (h : Has w mb A F B b T u w' A') (hF : Fr No w' w2) : Has w mb A F B b T u w2 A' :=
  ⟨h.mp.thenFr hF, h.tb.fr hF (fun h => h), h.low, h.out, h.tv.fr0 hF⟩
theorem Has.len {w w' : World} {mb b : Nat} {A A' : Nat → Prop} {F B : List Int} {T : List TE} {u : Nat} (h : Has w mb A F B b T u w' A') : (tabC T u).length = 25 := by rw [tabC_length, h.tb.2]

/-- What a call comes to: its answer, and the memory's bytes. -/
def FsP (w : World) (mb : Nat) (A : Nat → Prop) (F B : List Int) (v : Value) (e : Ending) (w' : World) : Prop := ∃ A', e = .returned v ∧ Mp w mb A F B w' A'
/-- A list of the call's own, of cells just made. -/
theorem sl_new (w : World) (cs : List Value) (t : TypeId) (hne : cs ≠ []) : Sl (w.alloc (.cells cs.toArray t)) (.slice (some ⟨w.heap.size, 0, none⟩) cs.length cs.length) cs.length cs := by
  refine ⟨_, _, rfl, ⟨by simp, Nat.le_refl _⟩, fun _ => ⟨_, _, rfl⟩, ?_⟩
  rintro b off j u ⟨rfl, rfl⟩ hj
  rw [Nat.zero_add]
  exact heap_cell (heap_new _ _) (by simpa using hj)
theorem named1 (s : ByteArray) : namedN [s] = if nameF s = true then 0 else 121 := by rw [namedN]; simp
theorem named2 (s t : ByteArray) : namedN [s, t] = if nameF s = true ∧ nameF t = true then 0 else 121 := by rw [namedN]; simp

set_option maxHeartbeats 400000 in
set_option maxRecDepth 1000000 in
theorem fformat_calls {w : World} {mb : Nat} {A : Nat → Prop} {F B : List Int} (h : MemAt w mb A F B) :
    Calls Tryz.prog 13 #[.pointer (some ⟨mb, 0, none⟩)] w (FsP w mb A F (formatF B) (.tuple #[])) := by
  have HM := Lib.hid h
  have HH : RowKit.Hid (∀ w1, Calls Tryz.prog 43 #[.int .u32 0] w1 fun e w' => ∃ r, e = .returned r ∧ Fr No w1 w' ∧ w'.ownsRow w1.heap.size 5 1 r 64 (bys (headF 0))) := Lib.hid (fun w1 => fhead_calls 0 (by decide) w1)
  have HL1 := Lib.hid (fun (w1 w3 : World) (r : Value) (hF : Fr No w w1) (hF3 : Fr No w1 w3) (hr : w3.ownsRow w1.heap.size 5 1 r 64 (bys (headF 0))) =>
    lay_calls ((h.fr0 hF).fr0 hF3) 6144 r (headF 0) (by rw [headF_length]; exact Sl.of_owns hr) (fun k e _ hA => by have := (hr.lt k e).1; have := h.low k hA; have := hF.size; omega) (headF_range 0) (by rw [headF_length]; omega) (by omega))
  have HFB : RowKit.Hid (formatF B = layF (layF B 6144 (headF 0)) 6208 (zs 512)) := Lib.hid rfl
  have hmk : ∀ w : World, (Instr.makeSlice 22 (.int .i64 512) (.int .i64 512)).run Tryz.prog w = .ok (.slice (some ⟨w.heap.size, 0, none⟩) 512 512) (w.alloc (.cells (bys (zs 512)).toArray 5)) := fun w => mk_bytes w 512 (by omega)
  have hzl : (zs 512).length = 512 := zs_length 512
  have HR5 := Lib.hid (fun (w1 : World) => (by have := (Row.new w1 5 (zs 512)).sl; rw [hzl] at this; exact this : Sl (w1.alloc (.cells (bys (zs 512)).toArray 5)) (.slice (some ⟨w1.heap.size, 0, none⟩) 512 512) 512 (bys (zs 512))))
  have HZR := Lib.hid (zs_range 512)
  have HZL := Lib.hid hzl
  have HP1 : RowKit.Hid (∀ w1, Calls Tryz.prog 42 #[.int .i64 1] w1 fun e w' => e = .returned (.int .i64 6208) ∧ w1 = w') := Lib.hid (fun w1 => place_calls 1 w1 (by omega) (by omega))
  clear h hzl
  generalize headF 0 = hd at *
  obtain ⟨cs, hcs⟩ : ∃ cs, (bys (zs 512)).toArray = cs := ⟨_, rfl⟩
  rw [hcs] at HR5 hmk
  clear hcs
  generalize zs 512 = z at *
  go_enter Tryz.func13, Tryz.ntmps13
  go_upto_region 1 with (first
    | (go_at_call 42; ((with_reducible refine (place0_calls _).mono ?_); rintro e w3 ⟨rfl, rfl⟩))
    | (go_at_call 43; ((with_reducible refine (HH.out _).mono ?_); rintro e w1 ⟨r, rfl, hF1, hr1⟩))
    | (go_at_call 41; ((with_reducible refine (HL1.out _ _ _ (Fr.refl _ _) hF1 hr1).mono ?_); rintro e w2 ⟨A2, rfl, hp2⟩; have HL2 := Lib.hid (fun (w1 : World) (b : Nat) (hF : Fr No w2 w1) (hb : w2.heap.size ≤ b) (hr : Sl w1 (.slice (some ⟨b, 0, none⟩) 512 512) 512 (bys z)) => lay_calls (hp2.1.fr0 hF) 6208 (.slice (some ⟨b, 0, none⟩) 512 512) z (by rw [HZL.out]; exact hr) (fun k e _ hA => by cases e; exact Nat.lt_irrefl _ (Nat.lt_of_lt_of_le (hp2.1.low _ hA) hb)) HZR.out (by rw [HZL.out]; omega) (by omega)); have HP2 := Lib.hid (((Mp.refl HM.out).thenFr hF1).trans hp2)))
    | fail "arm")
  clear hp2 hF1 hr1
  go_region_with (first
    | (go_at_call 42; ((with_reducible refine (HP1.out _).mono ?_); rintro e w3 ⟨rfl, rfl⟩))
    | (go_at_call 41; ((with_reducible refine (HL2.out _ _ ((Fr.refl _ _).alloc _).drew (Nat.le_refl _) ((HR5.out _).fr0 (Fr.refl _ _).drew)).mono ?_); rintro e w4 ⟨A4, rfl, hp4⟩))
    | fail "arm")
  all_goals (
    go_wp2
    go_end0
    refine ⟨A4, rfl, ?_⟩
    rw [HFB.out]
    exact (HP2.out.thenFr ((Fr.refl No _).alloc _).drew).trans hp4)

set_option maxHeartbeats 400000 in
set_option maxRecDepth 1000000 in
theorem fcheck_calls {w : World} {mb : Nat} {A : Nat → Prop} {F B : List Int} (h : MemAt w mb A F B) :
    Calls Tryz.prog 49 #[.pointer (some ⟨mb, 0, none⟩)] w (FsP w mb A F B (.int .i64 (checkE B))) := by
  have HR := Lib.hid (fread_calls h)
  clear h
  go_enter Tryz.func49, Tryz.ntmps49
  go_wp2_with (first
    | (go_at_call 80; ((with_reducible refine HR.out.mono ?_); rintro e w1 ⟨A1, cs, rfl, hp1, hl, h1, -⟩))
    | (refine alloc_tab rfl rfl ?_)
    | (refine store_tab rfl _ _ rfl w1.heap.size cs (tabC noT 0) rfl rfl (heap_new _ _) noT_len hl h1 ?_; intro w2 hb2 hF2)
    | fail "arm")
  go_ret
  exact ⟨A1, rfl, hp1.thenFr (((Fr.refl No w1).alloc _).trans' hF2 (fun i hi e => by omega))⟩

set_option maxHeartbeats 400000 in
set_option maxRecDepth 1000000 in
theorem ffind_calls {w : World} {mb : Nat} {A : Nat → Prop} {F B : List Int} (h : MemAt w mb A F B) (s : ByteArray) (hs : s.size ≤ 140737488355328) :
    Calls Tryz.prog 51 #[.pointer (some ⟨mb, 0, none⟩), .string s] w (FsP w mb A F B (.tuple #[.int .i64 (findR B s).1, .int .i64 (findR B s).2])) := by
  cases ht : tableF B with
  | none =>
    have HR := Lib.hid (fread_bad h ht)
    have hr : findR B s = (0, 120) := by unfold findR; generalize tableF B = t at *; subst ht; rfl
    rw [hr]
    clear h ht hr
    go_enter Tryz.func51, Tryz.ntmps51
    go_wp2_with (first
      | (go_at_call 80; ((with_reducible refine HR.out.mono ?_); rintro e w1 ⟨A1, cs, rfl, hp1, hl, h1⟩))
      | (refine alloc_tab rfl rfl ?_)
      | (refine store_tab rfl _ _ rfl w1.heap.size cs (tabC noT 0) rfl rfl (heap_new _ _) noT_len hl h1 ?_; intro w2 hb2 hF2)
      | fail "arm")
    go_ret2
    exact ⟨A1, rfl, hp1.thenFr (((Fr.refl No w1).alloc _).trans' hF2 (fun i hi e => by omega))⟩
  | some p =>
    obtain ⟨L, u⟩ := p
    have HR := Lib.hid (fread_good h ht)
    have hr : findR B s = if nameF s = false then (0, 121) else if findI L s = -1 then (0, 123) else (findI L s, 0) := by unfold findR; generalize tableF B = t at *; subst ht; rfl
    have HL := Lib.hid (tableF_len ht)
    rw [hr]
    have HNM0 := fun (w1 : World) (v : Value) (h : Sl w1 v 1 [.string s]) => (named_calls v [s] w1 (by simp) (by simpa using hs) h)
    rw [named1] at HNM0
    cases hn : nameF s
    · rw [if_pos rfl]
      rw [hn, if_neg (by decide)] at HNM0
      have HNM := Lib.hid HNM0
      clear h ht hr hs HNM0 hn
      go_enter Tryz.func51, Tryz.ntmps51
      go_wp2_with (first
        | (go_at_call 80; ((with_reducible refine HR.out.mono ?_); rintro e w1 ⟨A1, T, rfl, hp1, hT, hv1⟩; have HT8 : RowKit.Hid (T.length = 8) := Lib.hid (by have := HL.out; rw [← hT] at this; simpa using this); have HTT := Lib.hid hT; clear hT))
        | (refine alloc_tab rfl rfl ?_)
        | (refine store_tab rfl _ _ rfl w1.heap.size (tabC T u) (tabC noT 0) rfl rfl (heap_new _ _) noT_len (by rw [tabC_length, HT8.out]) (hv1.one' u) ?_; intro w2 hb2 hF2; have HAS := Lib.hid (has_mk hp1 HT8.out hv1 hb2 hF2))
        | (go_at_call 81; ((with_reducible refine (HNM.out _ _ (sl_new _ [.string s] _ (by simp))).mono ?_); rintro e w3 ⟨rfl, hF3⟩))
        | fail "arm")
      go_ret2
      exact ⟨A1, rfl, (HAS.out.fr (((Fr.refl No w2).alloc _).trans hF3)).mp⟩
    · rw [if_neg (by decide)]
      rw [hn, if_pos rfl] at HNM0
      have HNM := Lib.hid HNM0
      clear h ht hr hs HNM0 hn
      obtain ⟨k, hk⟩ : ∃ k, findI L s = k := ⟨_, rfl⟩
      rw [hk]
      have hk2 : k = -1 ∨ 0 ≤ k := by
        rw [← hk]; rcases findI_spec L s with ⟨h, -⟩ | ⟨n, -, h, -⟩
        · exact .inl h
        · exact .inr (by omega)
      have HK := Lib.hid hk
      clear hk
      go_enter Tryz.func51, Tryz.ntmps51
      go_upto_region 7 with (first
        | (go_at_call 80; ((with_reducible refine HR.out.mono ?_); rintro e w1 ⟨A1, T, rfl, hp1, hT, hv1⟩; have HT8 : RowKit.Hid (T.length = 8) := Lib.hid (by have := HL.out; rw [← hT] at this; simpa using this); have HTT := Lib.hid hT; clear hT))
        | (refine alloc_tab rfl rfl ?_)
        | (refine store_tab rfl _ _ rfl w1.heap.size (tabC T u) (tabC noT 0) rfl rfl (heap_new _ _) noT_len (by rw [tabC_length, HT8.out]) (hv1.one' u) ?_; intro w2 hb2 hF2; have HAS := Lib.hid (has_mk hp1 HT8.out hv1 hb2 hF2))
        | (go_at_call 81; ((with_reducible refine (HNM.out _ _ (sl_new _ [.string s] _ (by simp))).mono ?_); rintro e w3 ⟨rfl, hF3⟩))
        | fail "arm")
      have HAS3 := Lib.hid (HAS.out.fr (((Fr.refl No w2).alloc _).trans hF3))
      have HFD := Lib.hid (by
        have := tfind_calls HAS3.out.tb HAS3.out.tv s
        rw [HTT.out, HK.out] at this; exact this)
      clear hF3 hF2 hb2
      rcases hk2 with rfl | hk2
      · go_wp2_with (go_at_call 82; ((with_reducible refine HFD.out.mono ?_); rintro e w4 ⟨rfl, hF4⟩))
        go_ret2
        exact ⟨A1, rfl, (HAS3.out.fr hF4).mp⟩
      · have hk3 : ¬ k = -1 := by omega
        have HK3 := Lib.hid hk3
        clear hk3
        go_wp2_with (go_at_call 82; ((with_reducible refine HFD.out.mono ?_); rintro e w4 ⟨rfl, hF4⟩))
        go_ret2
        exact ⟨A1, rfl, (HAS3.out.fr hF4).mp⟩
end Go.Proofs.YtoajnmbbgbpbgaaGreat
namespace Go.Proofs.YtoajnmbbgbpbgaaGreat
set_option linter.unusedVariables false
set_option linter.unusedSimpArgs false
open Go.RowKit Go.Shelf Go.Maps

theorem Mp.pre {w w0 w' : World} {mb : Nat} {A A' : Nat → Prop} {F B : List Int} (hF : Fr No w w0) (h : Mp w0 mb A F B w' A') : Mp w mb A F B w' A' :=
  ⟨h.1, hF.no.trans h.2.1, fun j hj => by
    rcases h.2.2 j hj with h | h
    · exact .inl h
    · exact .inr (Nat.le_trans hF.size h)⟩
/-- The table read, and what 'open' says of an inode. -/
def OpenPost (w : World) (mb : Nat) (A : Nat → Prop) (F B : List Int) (n : Int) (e : Ending) (w' : World) : Prop :=
  ∃ A' cs, e = .returned (.tuple #[.agg cs.toArray, .int .i64 (openE B n)]) ∧ Mp w mb A F B w' A' ∧ cs.length = 25 ∧ (∀ v ∈ cs, v.oneCell' = true) ∧
    ∀ L u, tableF B = some (L, u) → ∃ T, T.map Prod.fst = L ∧ cs = tabC T u ∧ TV (fun k => k < w.heap.size ∨ A' k) w' T
theorem openE_none {B : List Int} (h : tableF B = none) (n : Int) : openE B n = 120 := by
  unfold openE; generalize tableF B = t at *; subst h; rfl
theorem openE_some {B : List Int} {L : List Nd} {u : Nat} (h : tableF B = some (L, u)) (n : Int) : openE B n = if n < 0 ∨ 8 ≤ n then 1 else if (L.getD n.toNat Nd.free).name = noName then 123 else 0 := by
  unfold openE; generalize tableF B = t at *; subst h; rfl
theorem emp_true {a : ByteArray} (h : a = noName) : a.toList.isEmpty = true := by rw [emp_str]; exact decide_eq_true h
theorem emp_false {a : ByteArray} (h : a ≠ noName) : a.toList.isEmpty = false := by rw [emp_str]; exact decide_eq_false h

theorem tb_cell {w : World} {b : Nat} {T : List TE} {u : Nat} (h : TbAt w b T u) {k : Nat} (hk : k < 8) : w.cell? ⟨b, k * 3, none⟩ = some (.string ((T.map Prod.fst).getD k Nd.free).name) ∧ w.cell? ⟨b, k * 3 + 1, none⟩ = some (.int .i64 ((T.map Prod.fst).getD k Nd.free).size) ∧ ∃ hk : k < T.length, w.cell? ⟨b, k * 3 + 2, none⟩ = some T[k].2 ∧ T[k].1 = (T.map Prod.fst).getD k Nd.free := by
  have hkT : k < T.length := by rw [h.2]; exact hk
  obtain ⟨h1, h2, h3⟩ := h.cells k hkT
  have e : T[k].1 = (T.map Prod.fst).getD k Nd.free := by rw [getD_get (by simpa using hkT), List.getElem_map]
  rw [← e]
  exact ⟨h1, h2, hkT, h3, rfl⟩
/-- The result's block, and the memory, at the end of 'open'. -/
theorem OpenPost.mk {w w2 w8 : World} {mb : Nat} {A A1 : Nat → Prop} {F B : List Int} {n x : Int} {cs : List Value} (hA : ∀ j, A j → j < w.heap.size) (hp : Mp (w.alloc (.cells (tabC noT 0).toArray 98)) mb A F B w2 A1) (hF : Fr (fun k => k = w.heap.size) w2 w8) (hE : openE B n = x) (hl : cs.length = 25) (h1 : ∀ v ∈ cs, v.oneCell' = true)
    (hT : ∀ L u, tableF B = some (L, u) → ∃ T, T.map Prod.fst = L ∧ cs = tabC T u ∧ TV (fun k => k ≤ w.heap.size ∨ A1 k) w2 T) : OpenPost w mb A F B n (.returned (.tuple #[.agg cs.toArray, .int .i64 x])) w8 := by
  have hn : ¬ A1 w.heap.size := fun h => by
    rcases hp.2.2 _ h with h | h
    · exact Nat.lt_irrefl _ (hA _ h)
    · simp at h; omega
  have hp' : Mp w mb A F B w2 A1 := hp.pre ((Fr.refl No w).alloc _)
  refine ⟨A1, cs, by rw [hE], ⟨hp'.1.fr hF (fun k e => by subst e; exact hn), hp'.2.1.trans' hF (fun i hi e => by omega), hp'.2.2⟩, hl, h1, fun L u ht => ?_⟩
  obtain ⟨T, h2, h3, h4⟩ := hT L u ht
  exact ⟨T, h2, h3, (h4.fr hF (fun k _ e => .inl (by omega))).mono (fun k _ h => by
    rcases h with h | h
    · exact .inl (by omega)
    · exact .inr h)⟩

theorem res_block {w w1 w2 : World} {mb : Nat} {A A1 : Nat → Prop} {F B : List Int} {o o2 : Obj} (hA : ∀ j, A j → j < w.heap.size) (hp : Mp (w.alloc o) mb A F B w1 A1) (hF : Fr (fun k => k = w1.heap.size) (w1.alloc o2) w2) : w2.heap[w.heap.size]? = some o :=
  hF.heap (heap_alloc _ (hp.2.1.heap (heap_new w o) (fun h => Nat.lt_irrefl _ (hA _ h)))) (fun e => by have := hp.2.1.size; simp at this; omega)
set_option maxHeartbeats 400000 in
set_option maxRecDepth 1000000 in
theorem fopen_calls {w : World} {mb : Nat} {A : Nat → Prop} {F B : List Int} (h : MemAt w mb A F B) (n : Int) :
    Calls Tryz.prog 93 #[.pointer (some ⟨mb, 0, none⟩), .int .i64 n] w (OpenPost w mb A F B n) := by
  have hF0 : Fr No w (w.alloc (.cells (tabC noT 0).toArray 98)) := (Fr.refl _ _).alloc _
  have HLOW := Lib.hid h.low
  cases ht : tableF B with
  | none =>
    have HR := Lib.hid (fread_bad (h.fr0 hF0) ht)
    have HE := Lib.hid (openE_none ht n)
    have HTN := Lib.hid ht
    clear h ht hF0
    go_enter Tryz.func93, Tryz.ntmps93
    go_wp2_with (first
      | (go_at_call 80; ((with_reducible refine HR.out.mono ?_); rintro e w1 ⟨A1, cs, rfl, hp1, hl, h1⟩))
      | (refine alloc_tab rfl rfl ?_)
      | (refine store_tab rfl _ _ rfl w1.heap.size cs (tabC noT 0) rfl rfl (heap_new _ _) noT_len hl h1 ?_; intro w2 hb2 hF2; have hb9 := res_block HLOW.out hp1 hF2)
      | (refine load_tab rfl _ rfl w1.heap.size cs rfl hb2 hl ?_)
      | (refine store_tab rfl _ _ rfl w.heap.size cs (tabC noT 0) rfl rfl hb9 noT_len hl h1 ?_; intro w3 hb3 hF3)
      | fail "arm")
    refine ret_tab rfl rfl rfl hb3 hl rfl ?_
    exact OpenPost.mk HLOW.out (hp1.thenFr (((Fr.refl No w1).alloc _).trans' hF2 (fun i hi e => by omega))) hF3 HE.out hl h1 (fun L u h => by rw [HTN.out] at h; cases h)
  | some p =>
    obtain ⟨L, u⟩ := p
    have HR := Lib.hid (fread_good (h.fr0 hF0) ht)
    have HL := Lib.hid (tableF_len ht)
    have HE0 := openE_some ht n
    have HTN := Lib.hid ht
    clear h ht hF0
    have hx : ((n < 0 ∨ 8 ≤ n) ∧ openE B n = 1) ∨ ∃ k : Nat, k < 8 ∧ n = k ∧ (((L.getD k Nd.free).name = noName ∧ openE B n = 123) ∨ ((L.getD k Nd.free).name ≠ noName ∧ openE B n = 0)) := by
      rw [HE0]
      by_cases h1 : n < 0 ∨ 8 ≤ n
      · exact .inl ⟨h1, if_pos h1⟩
      · obtain ⟨k, rfl⟩ := Int.eq_ofNat_of_zero_le (show 0 ≤ n by omega)
        refine .inr ⟨k, by omega, rfl, ?_⟩
        rw [if_neg h1, Int.toNat_natCast]
        by_cases h2 : (L.getD k Nd.free).name = noName
        · exact .inl ⟨h2, if_pos h2⟩
        · exact .inr ⟨h2, if_neg h2⟩
    clear HE0
    have HEND : RowKit.Hid (∀ (w1 w2 w3 : World) (A1 : Nat → Prop) (T : List TE) (x : Int), Mp (w.alloc (.cells (tabC noT 0).toArray 98)) mb A F B w1 A1 → T.map Prod.fst = L → TV (fun k => k < (w.alloc (.cells (tabC noT 0).toArray 98)).heap.size ∨ A1 k) w1 T → Fr (fun k => k = w1.heap.size) (w1.alloc (.cells (tabC noT 0).toArray 98)) w2 → Fr (fun k => k = w.heap.size) w2 w3 → openE B n = x → (∀ v ∈ tabC T u, v.oneCell' = true) → (tabC T u).length = 25 → OpenPost w mb A F B n (.returned (.tuple #[.agg (tabC T u).toArray, .int .i64 x])) w3) := Lib.hid (by
      intro w1 w2 w3 A1 T x hp hT hv hF2 hF3 hE h1 hl
      have hF12 : Fr No w1 w2 := ((Fr.refl No w1).alloc _).trans' hF2 (fun i hi e => by omega)
      refine OpenPost.mk HLOW.out (hp.thenFr hF12) hF3 hE hl h1 (fun L' u' h => ?_)
      rw [HTN.out] at h
      cases h
      exact ⟨T, hT, rfl, (hv.fr0 hF12).mono (fun k _ h => by rcases h with h | h; exact .inl (by simp; omega); exact .inr h)⟩)
    rcases hx with ⟨h1, hE⟩ | ⟨k, hk, rfl, hx⟩
    · have HE := Lib.hid hE
      clear hE
      by_cases hn : n < 0
      all_goals
        have hn' : n < 0 ∨ 8 ≤ n := h1
        clear h1
        go_enter Tryz.func93, Tryz.ntmps93
        have h8 : ¬ n < 0 → 8 ≤ n := fun h => by omega
        clear hn'
        try have h9 := h8 hn
        clear h8
        go_wp2_with (first
          | (go_at_call 80; ((with_reducible refine HR.out.mono ?_); rintro e w1 ⟨A1, T, rfl, hp1, hT, hv1⟩; have HT8 : RowKit.Hid (T.length = 8) := Lib.hid (by have := HL.out; rw [← hT] at this; simpa using this); have HTT := Lib.hid hT; have HTL : RowKit.Hid ((tabC T u).length = 25) := Lib.hid (by rw [tabC_length, HT8.out]); clear hT))
          | (refine alloc_tab rfl rfl ?_)
          | (refine store_tab rfl _ _ rfl w1.heap.size (tabC T u) (tabC noT 0) rfl rfl (heap_new _ _) noT_len HTL.out (hv1.one' u) ?_; intro w2 hb2 hF2; have hb9 := res_block HLOW.out hp1 hF2)
          | (refine load_tab rfl _ rfl w1.heap.size (tabC T u) rfl hb2 HTL.out ?_)
          | (refine store_tab rfl _ _ rfl w.heap.size (tabC T u) (tabC noT 0) rfl rfl hb9 noT_len HTL.out (hv1.one' u) ?_; intro w3 hb3 hF3)
          | fail "arm")
        refine ret_tab rfl rfl rfl hb3 HTL.out rfl ?_
        exact HEND.out _ _ _ _ _ _ hp1 HTT.out hv1 hF2 hF3 HE.out (hv1.one' u) HTL.out
    · have hxx : ∃ x, openE B (k : Int) = x ∧ ((x = 123 ∧ (L.getD k Nd.free).name.toList.isEmpty = true) ∨ (x = 0 ∧ (L.getD k Nd.free).name.toList.isEmpty = false)) := by
        rcases hx with ⟨h1, h2⟩ | ⟨h1, h2⟩
        · exact ⟨_, h2, .inl ⟨rfl, emp_true h1⟩⟩
        · exact ⟨_, h2, .inr ⟨rfl, emp_false h1⟩⟩
      obtain ⟨x, hE, hx'⟩ := hxx
      have HE := Lib.hid hE
      obtain ⟨nm, hnm⟩ : ∃ nm, (L.getD k Nd.free).name = nm := ⟨_, rfl⟩
      rw [hnm] at hx'
      have HNM := Lib.hid hnm
      clear hx hE hnm
      have d1 : decide ((k : Int) < 0) = false := decide_eq_false (by omega)
      have d2 : decide (8 ≤ (k : Int)) = false := decide_eq_false (by omega)
      rcases hx' with ⟨rfl, he⟩ | ⟨rfl, he⟩
      all_goals
        go_enter Tryz.func93, Tryz.ntmps93
        go_wp2_with (first
          | (go_at_call 80; ((with_reducible refine HR.out.mono ?_); rintro e w1 ⟨A1, T, rfl, hp1, hT, hv1⟩; have HT8 : RowKit.Hid (T.length = 8) := Lib.hid (by have := HL.out; rw [← hT] at this; simpa using this); have HTT := Lib.hid hT; have HTL : RowKit.Hid ((tabC T u).length = 25) := Lib.hid (by rw [tabC_length, HT8.out]); clear hT))
          | (refine alloc_tab rfl rfl ?_)
          | (refine store_tab rfl _ _ rfl w1.heap.size (tabC T u) (tabC noT 0) rfl rfl (heap_new _ _) noT_len HTL.out (hv1.one' u) ?_; intro w2 hb2 hF2; have hb9 := res_block HLOW.out hp1 hF2; have hc2 := (tb_cell ⟨hb2, HT8.out⟩ hk).1; rw [HTT.out, HNM.out] at hc2)
          | (refine load_tab rfl _ rfl w1.heap.size (tabC T u) rfl hb2 HTL.out ?_)
          | (refine store_tab rfl _ _ rfl w.heap.size (tabC T u) (tabC noT 0) rfl rfl hb9 noT_len HTL.out (hv1.one' u) ?_; intro w3 hb3 hF3)
          | fail "arm")
        refine ret_tab rfl rfl rfl hb3 HTL.out rfl ?_
        exact HEND.out _ _ _ _ _ _ hp1 HTT.out hv1 hF2 hF3 HE.out (hv1.one' u) HTL.out
end Go.Proofs.YtoajnmbbgbpbgaaGreat
namespace Go.Proofs.YtoajnmbbgbpbgaaGreat
set_option linter.unusedVariables false
set_option linter.unusedSimpArgs false
open Go.RowKit Go.Shelf Go.Maps

theorem fopen_bad {w : World} {mb : Nat} {A : Nat → Prop} {F B : List Int} (h : MemAt w mb A F B) (n : Int) {x : Int} (hx : openE B n = x) :
    Calls Tryz.prog 93 #[.pointer (some ⟨mb, 0, none⟩), .int .i64 n] w fun e w' => ∃ A' cs, e = .returned (.tuple #[.agg (List.toArray cs), .int .i64 x]) ∧ Mp w mb A F B w' A' ∧ cs.length = 25 ∧ ∀ v ∈ cs, v.oneCell' = true := by
  refine (fopen_calls h n).mono ?_
  rintro e w' ⟨A', cs, rfl, h1, h2, h3, -⟩
  exact ⟨A', cs, by rw [hx], h1, h2, h3⟩
theorem fopen_good {w : World} {mb : Nat} {A : Nat → Prop} {F B : List Int} (h : MemAt w mb A F B) {L : List Nd} {u : Nat} (ht : tableF B = some (L, u)) (n : Int) (hx : openE B n = 0) :
    Calls Tryz.prog 93 #[.pointer (some ⟨mb, 0, none⟩), .int .i64 n] w fun e w' => ∃ A' T, e = .returned (.tuple #[.agg (tabC T u).toArray, .int .i64 0]) ∧ Mp w mb A F B w' A' ∧ T.map Prod.fst = L ∧ TV (fun k => k < w.heap.size ∨ A' k) w' T := by
  refine (fopen_calls h n).mono ?_
  rintro e w' ⟨A', cs, rfl, h1, h2, h3, h4⟩
  obtain ⟨T, hT, rfl, hv⟩ := h4 L u ht
  exact ⟨A', T, by rw [hx], h1, hT, hv⟩
theorem open_cases (B : List Int) (n : Int) : (∃ x, openE B n = x ∧ 0 < x) ∨ (openE B n = 0 ∧ ∃ L u, ∃ k : Nat, tableF B = some (L, u) ∧ k < 8 ∧ n = k ∧ (L.getD k Nd.free).name ≠ noName) := by
  cases ht : tableF B with
  | none => exact .inl ⟨_, openE_none ht n, by decide⟩
  | some p =>
    obtain ⟨L, u⟩ := p
    rw [openE_some ht]
    by_cases h1 : n < 0 ∨ 8 ≤ n
    · exact .inl ⟨_, if_pos h1, by decide⟩
    · obtain ⟨k, rfl⟩ := Int.eq_ofNat_of_zero_le (show 0 ≤ n by omega)
      rw [if_neg h1, Int.toNat_natCast]
      by_cases h2 : (L.getD k Nd.free).name = noName
      · exact .inl ⟨_, if_pos h2, by decide⟩
      · exact .inr ⟨if_neg h2, L, u, k, rfl, by omega, rfl, h2⟩
theorem open_facts {B : List Int} {n x : Int} (hx : openE B n = x) : (tableF B = none ∧ x = 120) ∨ ∃ L u, tableF B = some (L, u) ∧ x = if n < 0 ∨ 8 ≤ n then 1 else if (L.getD n.toNat Nd.free).name = noName then 123 else 0 := by
  cases ht : tableF B with
  | none => exact .inl ⟨rfl, by rw [← hx, openE_none ht n]⟩
  | some p => exact .inr ⟨p.1, p.2, rfl, by rw [← hx, openE_some ht]⟩
theorem sizeR_bad {B : List Int} {n x : Int} (hx : openE B n = x) (h0 : 0 < x) : sizeR B n = (0, x) := by
  rcases open_facts hx with ⟨ht, rfl⟩ | ⟨L, u, ht, rfl⟩
  · unfold sizeR; generalize tableF B = t at *; subst ht; rfl
  · unfold sizeR; generalize tableF B = t at *; subst ht
    dsimp only
    by_cases h1 : n < 0 ∨ 8 ≤ n
    · rw [if_pos h1, if_pos h1]
    · rw [if_neg h1, if_neg h1]
      by_cases h2 : (L.getD n.toNat Nd.free).name = noName
      · rw [if_pos h2, if_pos h2]
      · rw [if_neg h1, if_neg h2] at h0; omega
theorem sizeR_good {B : List Int} {L : List Nd} {u k : Nat} (ht : tableF B = some (L, u)) (hk : k < 8) (hn : (L.getD k Nd.free).name ≠ noName) : sizeR B k = ((L.getD k Nd.free).size, 0) := by
  unfold sizeR; generalize tableF B = t at *; subst ht
  dsimp only
  rw [if_neg (by omega), Int.toNat_natCast, if_neg hn]

set_option maxHeartbeats 400000 in
set_option maxRecDepth 1000000 in
theorem fsize_calls {w : World} {mb : Nat} {A : Nat → Prop} {F B : List Int} (h : MemAt w mb A F B) (n : Int) :
    Calls Tryz.prog 87 #[.pointer (some ⟨mb, 0, none⟩), .int .i64 n] w (FsP w mb A F B (.tuple #[.int .i64 (sizeR B n).1, .int .i64 (sizeR B n).2])) := by
  rcases open_cases B n with ⟨x, hx, h0⟩ | ⟨hx, L, u, k, ht, hk, rfl, hnm⟩
  · have HR := Lib.hid (fopen_bad h n hx)
    rw [sizeR_bad hx h0]
    clear h hx
    go_enter Tryz.func87, Tryz.ntmps87
    go_wp2_with (first
              | (go_at_call 93; ((with_reducible refine HR.out.mono ?_); rintro e w1 ⟨A1, cs, rfl, hp1, hl, h1⟩)) | (refine alloc_tab rfl rfl ?_) | (refine store_tab rfl _ _ rfl w1.heap.size cs (tabC noT 0) rfl rfl (heap_new _ _) noT_len hl h1 ?_; intro w2 hb2 hF2) | fail "arm")
    go_ret2
    exact ⟨A1, rfl, hp1.thenFr (((Fr.refl No w1).alloc _).trans' hF2 (fun i hi e => by omega))⟩
  · have HR := Lib.hid (fopen_good h ht (k : Int) hx)
    have HL := Lib.hid (tableF_len ht)
    rw [sizeR_good ht hk hnm]
    clear h hx ht hnm
    obtain ⟨sz, hsz⟩ : ∃ sz, (L.getD k Nd.free).size = sz := ⟨_, rfl⟩
    rw [hsz]
    have HSZ := Lib.hid hsz
    clear hsz
    go_enter Tryz.func87, Tryz.ntmps87
    go_wp2_with (first
              | (go_at_call 93; ((with_reducible refine HR.out.mono ?_); rintro e w1 ⟨A1, T, rfl, hp1, hT, hv1⟩; have HT8 : RowKit.Hid (T.length = 8) := Lib.hid (by have := HL.out; rw [← hT] at this; simpa using this); have HTT := Lib.hid hT; have HTL : RowKit.Hid ((tabC T u).length = 25) := Lib.hid (by rw [tabC_length, HT8.out]); clear hT)) | (refine alloc_tab rfl rfl ?_) | (refine store_tab rfl _ _ rfl w1.heap.size (tabC T u) (tabC noT 0) rfl rfl (heap_new _ _) noT_len HTL.out (hv1.one' u) ?_; intro w2 hb2 hF2; have HAS := Lib.hid (has_mk hp1 HT8.out hv1 hb2 hF2); have hc2 := (tb_cell HAS.out.tb hk).2.1; rw [HTT.out, HSZ.out] at hc2) | fail "arm")
    go_ret2
    exact ⟨A1, rfl, HAS.out.mp⟩

/-- A store into the table's block. -/
theorem Has.store {w w' w2 : World} {mb b : Nat} {A A' : Nat → Prop} {F B : List Int} {T T' : List TE} {u u' : Nat} (h : Has w mb A F B b T u w' A') (hF : Fr (fun k => k = b) w' w2) (ht : TbAt w2 b T' u') (hv : TV (fun k => k < w.heap.size ∨ A' k ∨ k = b) w' T') : Has w mb A F B b T' u' w2 A' :=
  ⟨⟨h.mp.1.fr hF (fun k e => by subst e; exact h.out), h.mp.2.1.trans' hF (fun i hi e => by have := h.low; omega), h.mp.2.2⟩, ht, h.low, h.out, hv.fr hF (fun k _ e => .inr (.inr e))⟩
theorem Has.lay {w w' : World} {mb b : Nat} {A A' : Nat → Prop} {F B : List Int} {T : List TE} {u : Nat} (h : Has w mb A F B b T u w' A') (n : Nat) (hn : n < 8) (hg : ((T.map Prod.fst).getD n Nd.free).good) (hu : u < 2 ^ 32) :
    Calls Tryz.prog 83 #[.pointer (some ⟨b, 0, none⟩), .pointer (some ⟨mb, 0, none⟩), .int .i64 n] w' fun e w2 => ∃ A2, e = .returned (.tuple #[]) ∧ Mp w mb A F (layT B n (T.map Prod.fst) u) w2 A2 := by
  have hnT : n < T.length := by rw [h.tb.2]; exact hn
  have e : T[n].1 = (T.map Prod.fst).getD n Nd.free := by rw [getD_get (by simpa using hnT), List.getElem_map]
  refine (tlay_calls h.mp.1 h.tb h.out h.tv n hnT (by rw [e]; exact hg) hu).mono ?_
  rintro e w2 ⟨A2, rfl, hp⟩
  exact ⟨A2, rfl, h.mp.trans hp⟩
theorem map_set (T : List TE) (k : Nat) (x : Nd) (v : Value) : (T.set k (x, v)).map Prod.fst = (T.map Prod.fst).set k x := by rw [List.map_set]

theorem createR_none {B : List Int} (ht : tableF B = none) (s : ByteArray) : createR B s = (B, 0, 120) := by
  unfold createR; generalize tableF B = t at *; subst ht; rfl
theorem createR_some {B : List Int} {L : List Nd} {u : Nat} (ht : tableF B = some (L, u)) (s : ByteArray) : createR B s = if nameF s = false then (B, 0, 121) else if findI L s ≠ -1 then (B, 0, 122) else if findI L noName = -1 then (B, 0, 124)
    else (layT B (findI L noName).toNat (L.set (findI L noName).toNat ⟨s, 0, []⟩) u, findI L noName, 0) := by
  unfold createR; generalize tableF B = t at *; subst ht; rfl
theorem findI_cases (L : List Nd) (s : ByteArray) : findI L s = -1 ∨ ∃ k : Nat, k < L.length ∧ findI L s = k ∧ (L.getD k Nd.free).name = s := by
  rcases findI_spec L s with ⟨h, -⟩ | ⟨k, hk, h, h2, -⟩
  · exact .inl h
  · exact .inr ⟨k, hk, h, by rw [getD_get hk]; exact h2⟩

set_option maxHeartbeats 400000 in
set_option maxRecDepth 1000000 in
theorem fcreate_calls {w : World} {mb : Nat} {A : Nat → Prop} {F B : List Int} (h : MemAt w mb A F B) (s : ByteArray) (hs : s.size ≤ 140737488355328) :
    Calls Tryz.prog 53 #[.pointer (some ⟨mb, 0, none⟩), .string s] w (FsP w mb A F (createR B s).1 (.tuple #[.int .i64 (createR B s).2.1, .int .i64 (createR B s).2.2])) := by
  cases ht : tableF B with
  | none =>
    have HR := Lib.hid (fread_bad h ht)
    rw [createR_none ht]
    clear h ht
    go_enter Tryz.func53, Tryz.ntmps53
    go_wp2_with (first
              | (go_at_call 80; ((with_reducible refine HR.out.mono ?_); rintro e w1 ⟨A1, cs, rfl, hp1, hl, h1⟩)) | (refine alloc_tab rfl rfl ?_) | (refine store_tab rfl _ _ rfl w1.heap.size cs (tabC noT 0) rfl rfl (heap_new _ _) noT_len hl h1 ?_; intro w2 hb2 hF2) | fail "arm")
    go_ret2
    exact ⟨A1, rfl, hp1.thenFr (((Fr.refl No w1).alloc _).trans' hF2 (fun i hi e => by omega))⟩
  | some p =>
    obtain ⟨L, u⟩ := p
    have HR := Lib.hid (fread_good h ht)
    have hlen := tableF_len ht
    have HL := Lib.hid hlen
    have HG := Lib.hid ((tableF_iff B L u).1 ht)
    have HU := Lib.hid (tableF_u ht)
    have HNM0 := fun (w1 : World) (v : Value) (h : Sl w1 v 1 [.string s]) => (named_calls v [s] w1 (by simp) (by simpa using hs) h)
    rw [named1] at HNM0
    rw [createR_some ht]
    clear h ht hs
    cases hn : nameF s
    · rw [if_pos rfl]
      rw [hn, if_neg (by decide)] at HNM0
      have HNM := Lib.hid HNM0
      clear HNM0 hn hlen
      go_enter Tryz.func53, Tryz.ntmps53
      go_wp2_with (first
              | (go_at_call 80; ((with_reducible refine HR.out.mono ?_); rintro e w1 ⟨A1, T, rfl, hp1, hT, hv1⟩; have HT8 : RowKit.Hid (T.length = 8) := Lib.hid (by have := HL.out; rw [← hT] at this; simpa using this); have HTT := Lib.hid hT; have HTL : RowKit.Hid ((tabC T u).length = 25) := Lib.hid (by rw [tabC_length, HT8.out]); clear hT)) | (refine alloc_tab rfl rfl ?_) | (refine store_tab rfl _ _ rfl w1.heap.size (tabC T u) (tabC noT 0) rfl rfl (heap_new _ _) noT_len HTL.out (hv1.one' u) ?_; intro w2 hb2 hF2; have HAS := Lib.hid (has_mk hp1 HT8.out hv1 hb2 hF2))
              | (go_at_call 81; ((with_reducible refine (HNM.out _ _ (sl_new _ [.string s] _ (by simp))).mono ?_); rintro e w3 ⟨rfl, hF3⟩))
              | fail "arm")
      go_ret2
      exact ⟨A1, rfl, (HAS.out.fr (((Fr.refl No w2).alloc _).trans hF3)).mp⟩
    · rw [if_neg (by decide)]
      rw [hn, if_pos rfl] at HNM0
      have HNM := Lib.hid HNM0
      have HNF := Lib.hid hn
      clear HNM0 hn
      rcases findI_cases L s with hf | ⟨k, hk, hf, -⟩
      · rw [if_neg (fun h => h hf)]
        rcases findI_cases L noName with hg | ⟨k, hk, hg, hkn⟩
        · rw [if_pos hg]
          have HF1 := Lib.hid hf
          have HF2 := Lib.hid hg
          clear hf hg hlen
          go_enter Tryz.func53, Tryz.ntmps53
          go_upto_region 7 with (first
              | (go_at_call 80; ((with_reducible refine HR.out.mono ?_); rintro e w1 ⟨A1, T, rfl, hp1, hT, hv1⟩; have HT8 : RowKit.Hid (T.length = 8) := Lib.hid (by have := HL.out; rw [← hT] at this; simpa using this); have HTT := Lib.hid hT; have HTL : RowKit.Hid ((tabC T u).length = 25) := Lib.hid (by rw [tabC_length, HT8.out]); clear hT)) | (refine alloc_tab rfl rfl ?_) | (refine store_tab rfl _ _ rfl w1.heap.size (tabC T u) (tabC noT 0) rfl rfl (heap_new _ _) noT_len HTL.out (hv1.one' u) ?_; intro w2 hb2 hF2; have HAS := Lib.hid (has_mk hp1 HT8.out hv1 hb2 hF2))
              | (go_at_call 81; ((with_reducible refine (HNM.out _ _ (sl_new _ [.string s] _ (by simp))).mono ?_); rintro e w3 ⟨rfl, hF3⟩))
              | fail "arm")
          have HAS3 := Lib.hid (HAS.out.fr (((Fr.refl No w2).alloc _).trans hF3))
          have HFD := Lib.hid (by have := tfind_calls HAS3.out.tb HAS3.out.tv s; rw [HTT.out, HF1.out] at this; exact this)
          clear hF3 hF2 hb2
          go_upto_region 9 with (go_at_call 82; ((with_reducible refine HFD.out.mono ?_); rintro e w4 ⟨rfl, hF4⟩))
          have HAS4 := Lib.hid (HAS3.out.fr hF4)
          have HFE : RowKit.Hid (Calls Tryz.prog 82 #[.pointer (some ⟨w1.heap.size, 0, none⟩), .string ⟨#[]⟩] w4 fun e w' => e = .returned (.int .i64 (-1)) ∧ Fr No w4 w') := Lib.hid (by have := tfind_calls HAS4.out.tb HAS4.out.tv noName; rw [HTT.out, HF2.out] at this; exact this)
          go_wp2_with (go_at_call 82; ((with_reducible refine HFE.out.mono ?_); rintro e w5 ⟨rfl, hF5⟩))
          go_ret2
          exact ⟨A1, rfl, (HAS4.out.fr hF5).mp⟩
        · rw [if_neg (by omega), hg, Int.toNat_natCast]
          have hk8 : k < 8 := by omega
          have HF1 := Lib.hid hf
          have HF2 := Lib.hid hg
          have HKN := Lib.hid hkn
          clear hf hg hlen hkn hk
          go_enter Tryz.func53, Tryz.ntmps53
          go_upto_region 7 with (first
              | (go_at_call 80; ((with_reducible refine HR.out.mono ?_); rintro e w1 ⟨A1, T, rfl, hp1, hT, hv1⟩; have HT8 : RowKit.Hid (T.length = 8) := Lib.hid (by have := HL.out; rw [← hT] at this; simpa using this); have HTT := Lib.hid hT; have HTL : RowKit.Hid ((tabC T u).length = 25) := Lib.hid (by rw [tabC_length, HT8.out]); clear hT)) | (refine alloc_tab rfl rfl ?_) | (refine store_tab rfl _ _ rfl w1.heap.size (tabC T u) (tabC noT 0) rfl rfl (heap_new _ _) noT_len HTL.out (hv1.one' u) ?_; intro w2 hb2 hF2; have HAS := Lib.hid (has_mk hp1 HT8.out hv1 hb2 hF2))
              | (go_at_call 81; ((with_reducible refine (HNM.out _ _ (sl_new _ [.string s] _ (by simp))).mono ?_); rintro e w3 ⟨rfl, hF3⟩))
              | fail "arm")
          have HAS3 := Lib.hid (HAS.out.fr (((Fr.refl No w2).alloc _).trans hF3))
          have HFD := Lib.hid (by have := tfind_calls HAS3.out.tb HAS3.out.tv s; rw [HTT.out, HF1.out] at this; exact this)
          clear hF3 hF2 hb2
          go_upto_region 9 with (go_at_call 82; ((with_reducible refine HFD.out.mono ?_); rintro e w4 ⟨rfl, hF4⟩))
          have HAS4 := Lib.hid (HAS3.out.fr hF4)
          have HFE : RowKit.Hid (Calls Tryz.prog 82 #[.pointer (some ⟨w1.heap.size, 0, none⟩), .string ⟨#[]⟩] w4 fun e w' => e = .returned (.int .i64 k) ∧ Fr No w4 w') := Lib.hid (by have := tfind_calls HAS4.out.tb HAS4.out.tv noName; rw [HTT.out, HF2.out] at this; exact this)
          go_upto_region 12 with (go_at_call 82; ((with_reducible refine HFE.out.mono ?_); rintro e w5 ⟨rfl, hF5⟩))
          have HAS5 := Lib.hid (HAS4.out.fr hF5)
          obtain ⟨c0, -, hkT, -, hx⟩ := tb_cell HAS5.out.tb hk8
          have hfree : (T.map Prod.fst).getD k Nd.free = Nd.free := by
            rw [HTT.out]
            exact good_free (by rw [getD_get (by have := HL.out; omega)]; exact HG.out.good _ (List.getElem_mem _)) HKN.out
          rw [hfree] at hx
          have hst := HAS5.out.tb.setName k hkT s
          rw [hx] at hst
          have hc5 : w5.cell? ⟨w1.heap.size, k * 3, none⟩ = some (.string ⟨#[]⟩) := by rw [hfree] at c0; exact c0
          have hf5 := HAS5.out.tb.frozen (k * 3)
          have HAS6 := Lib.hid (HAS5.out.store (((Fr.refl (fun j => j = w1.heap.size) w5).setCell (p := ⟨w1.heap.size, k * 3, none⟩) (fun _ => rfl) (.string s))) hst (HAS5.out.tv.set k _ _ (by
            obtain ⟨h1, -⟩ := HAS5.out.tv _ (List.getElem_mem hkT)
            rw [hx] at h1; exact h1) (fun j _ hne => absurd rfl hne)))
          have hms : (T.set k (⟨s, Nd.free.size, Nd.free.ext⟩, T[k].2)).map Prod.fst = L.set k ⟨s, 0, []⟩ := by rw [map_set, HTT.out]; rfl
          have HLY := Lib.hid (by
            have := HAS6.out.lay k hk8 (by rw [hms, getD_get (by rw [List.length_set]; have := HL.out; omega), List.getElem_set_self]; exact .inr (new_ok HNF.out)) HU.out
            rw [hms] at this; exact this)
          clear c0 hfree hx hst hms hF5 hF4
          go_wp2_with (go_at_call 83; ((with_reducible refine HLY.out.mono ?_); rintro e w7 ⟨A7, rfl, hp7⟩))
          go_ret2
          exact ⟨A7, rfl, hp7⟩
      · rw [if_pos (by omega)]
        have HF1 := Lib.hid hf
        clear hf hlen hk
        go_enter Tryz.func53, Tryz.ntmps53
        go_upto_region 7 with (first
              | (go_at_call 80; ((with_reducible refine HR.out.mono ?_); rintro e w1 ⟨A1, T, rfl, hp1, hT, hv1⟩; have HT8 : RowKit.Hid (T.length = 8) := Lib.hid (by have := HL.out; rw [← hT] at this; simpa using this); have HTT := Lib.hid hT; have HTL : RowKit.Hid ((tabC T u).length = 25) := Lib.hid (by rw [tabC_length, HT8.out]); clear hT)) | (refine alloc_tab rfl rfl ?_) | (refine store_tab rfl _ _ rfl w1.heap.size (tabC T u) (tabC noT 0) rfl rfl (heap_new _ _) noT_len HTL.out (hv1.one' u) ?_; intro w2 hb2 hF2; have HAS := Lib.hid (has_mk hp1 HT8.out hv1 hb2 hF2))
              | (go_at_call 81; ((with_reducible refine (HNM.out _ _ (sl_new _ [.string s] _ (by simp))).mono ?_); rintro e w3 ⟨rfl, hF3⟩))
              | fail "arm")
        have HAS3 := Lib.hid (HAS.out.fr (((Fr.refl No w2).alloc _).trans hF3))
        have HFD := Lib.hid (by have := tfind_calls HAS3.out.tb HAS3.out.tv s; rw [HTT.out, HF1.out] at this; exact this)
        clear hF3 hF2 hb2
        go_wp2_with (go_at_call 82; ((with_reducible refine HFD.out.mono ?_); rintro e w4 ⟨rfl, hF4⟩))
        go_ret2
        exact ⟨A1, rfl, (HAS3.out.fr hF4).mp⟩
end Go.Proofs.YtoajnmbbgbpbgaaGreat
namespace Go.Proofs.YtoajnmbbgbpbgaaGreat
set_option linter.unusedVariables false
set_option linter.unusedSimpArgs false
open Go.RowKit Go.Shelf Go.Maps

theorem find_facts (B : List Int) (s : ByteArray) : (∃ x, 0 < x ∧ findR B s = (0, x) ∧ deleteR B s = (B, x)) ∨ ∃ L u, ∃ k : Nat, tableF B = some (L, u) ∧ k < 8 ∧ findI L s = k ∧ (L.getD k Nd.free).name = s ∧ nameF s = true ∧ findR B s = ((k : Int), 0) ∧ deleteR B s = (layT B k (L.set k Nd.free) (dif u (maskX (L.getD k Nd.free))), 0) := by
  cases ht : tableF B with
  | none =>
    refine .inl ⟨120, by decide, ?_, ?_⟩
    · unfold findR; generalize tableF B = t at *; subst ht; rfl
    · unfold deleteR; generalize tableF B = t at *; subst ht; rfl
  | some p =>
    obtain ⟨L, u⟩ := p
    have h1 : findR B s = if nameF s = false then (0, 121) else if findI L s = -1 then (0, 123) else (findI L s, 0) := by unfold findR; generalize tableF B = t at *; subst ht; rfl
    have h2 : deleteR B s = if nameF s = false then (B, 121) else if findI L s = -1 then (B, 123)
      else (layT B (findI L s).toNat (L.set (findI L s).toNat Nd.free) (dif u (maskX (L.getD (findI L s).toNat Nd.free))), 0) := by unfold deleteR; generalize tableF B = t at *; subst ht; rfl
    have hl := tableF_len ht
    rw [h1, h2]
    by_cases hn : nameF s = false
    · exact .inl ⟨121, by decide, if_pos hn, if_pos hn⟩
    · rw [if_neg hn, if_neg hn]
      rcases findI_cases L s with hf | ⟨k, hk, hf, hs⟩
      · exact .inl ⟨123, by decide, if_pos hf, if_pos hf⟩
      · refine .inr ⟨L, u, k, rfl, by omega, hf, hs, by simpa using hn, ?_, ?_⟩
        · rw [if_neg (by omega), hf]
        · rw [if_neg (by omega), hf, Int.toNat_natCast]

set_option maxHeartbeats 400000 in
set_option maxRecDepth 1000000 in
theorem fdelete_calls {w : World} {mb : Nat} {A : Nat → Prop} {F B : List Int} (h : MemAt w mb A F B) (s : ByteArray) (hs : s.size ≤ 140737488355328) :
    Calls Tryz.prog 78 #[.pointer (some ⟨mb, 0, none⟩), .string s] w (FsP w mb A F (deleteR B s).1 (.int .i64 (deleteR B s).2)) := by
  rcases find_facts B s with ⟨x, h0, hf, hd⟩ | ⟨L, u, k, ht, hk, hfi, hnm, hns, hf, hd⟩
  · have HF := Lib.hid (by have := ffind_calls h s hs; rw [hf] at this; exact this)
    rw [hd]
    clear h hs hf hd
    go_enter Tryz.func78, Tryz.ntmps78
    go_wp2_with (go_at_call 51; ((with_reducible refine HF.out.mono ?_); rintro e w1 ⟨A1, rfl, hp1⟩))
    go_ret
    exact ⟨A1, rfl, hp1⟩
  · have HF := Lib.hid (by have := ffind_calls h s hs; rw [hf] at this; exact this)
    have HL := Lib.hid (tableF_len ht)
    have HU := Lib.hid (tableF_u ht)
    have HTF := Lib.hid ht
    rw [hd]
    clear h hs hf hd ht hfi hnm hns
    go_enter Tryz.func78, Tryz.ntmps78
    go_wp2_with (go_at_call 51; ((with_reducible refine HF.out.mono ?_); rintro e w0 ⟨A0, rfl, hp0⟩))
    have HR := Lib.hid (fread_good hp0.1 HTF.out)
    have HP0 := Lib.hid hp0
    clear hp0
    go_upto_region 5 with (first
              | (go_at_call 80; ((with_reducible refine HR.out.mono ?_); rintro e w1 ⟨A1, T, rfl, hp1, hT, hv1⟩; have HT8 : RowKit.Hid (T.length = 8) := Lib.hid (by have := HL.out; rw [← hT] at this; simpa using this); have HTT := Lib.hid hT; have HTL : RowKit.Hid ((tabC T u).length = 25) := Lib.hid (by rw [tabC_length, HT8.out]); clear hT)) | (refine alloc_tab rfl rfl ?_) | (refine store_tab rfl _ _ rfl w1.heap.size (tabC T u) (tabC noT 0) rfl rfl (heap_new _ _) noT_len HTL.out (hv1.one' u) ?_; intro w2 hb2 hF2; have HAS := Lib.hid (has_mk hp1 HT8.out hv1 hb2 hF2)) | fail "arm")
    have hc24 := HAS.out.tb.used
    have hf24 := HAS.out.tb.frozen 24
    obtain ⟨-, -, hkT, hcx, hex⟩ := tb_cell HAS.out.tb hk
    rw [HTT.out] at hex
    obtain ⟨xs, hxs⟩ : ∃ xs, T[k].1.ext = xs := ⟨_, rfl⟩
    obtain ⟨m, hm⟩ : ∃ m, maskX (L.getD k Nd.free) = m := ⟨_, rfl⟩
    have hm' : maskN (listF xs) = m := by rw [← hxs, hex]; exact hm
    have hml := maskL_nat (listF xs) (fun b hb => (listF_range _ b hb).2)
    rw [hm'] at hml
    obtain ⟨hsl, -⟩ := HAS.out.tv _ (List.getElem_mem hkT)
    have hxl : xs.length ≤ 100 := by
      rw [← hxs, hex, getD_get (by have := HL.out; omega)]
      have := (((tableF_iff B L u).1 HTF.out).good _ (List.getElem_mem (l := L) (n := k) (by have := HL.out; omega))).facts.2.2.2.2.1
      omega
    obtain ⟨av, cv, ev⟩ := hsl.form
    rw [ev] at hcx hsl
    rw [hxs] at hsl hcx
    have HBI : RowKit.Hid (∀ w9, Fr No w2 w9 → Calls Tryz.prog 106 #[.slice av xs.length cv] w9 fun e w' => e = .returned (.int .u32 (m : Int)) ∧ Fr No w9 w') := Lib.hid (fun w9 h9 => by
      have := bits_calls (.slice av xs.length cv) xs w9 hxl (hsl.fr0 h9)
      rw [hml.1] at this; exact this)
    have hdif := andNot_u32 u m
    have HM := Lib.hid hm
    have HR9 : RowKit.Hid (∀ w9, Fr No w2 w9 → Has w0 mb A0 F B w1.heap.size T (dif u m) (w9.setCell ⟨w1.heap.size, 24, none⟩ (.int .u32 (dif u m : Int))) A1) := Lib.hid (fun w9 h9 => by
      have h := HAS.out.fr h9
      exact h.store ((Fr.refl (fun j => j = w1.heap.size) w9).setCell (p := ⟨w1.heap.size, 24, none⟩) (fun _ => rfl) _) (h.tb.setUsed (dif u m)) h.tv)
    have HKT := Lib.hid hkT
    clear hex hm hm' hml hsl ev hxs hv1 hF2 hb2
    go_cut [24] (fun s24 wx => Has w0 mb A0 F B w1.heap.size T (dif u m) wx A1)
    case first =>
      have hki0 : (0 : Int) ≤ (k : Int) := by omega
      have hki1 : (k : Int) < 8 := by omega
      go_region_with (first
              | (go_at_call 106; ((with_reducible refine (HBI.out _ (Fr.refl _ _).drew).mono ?_); rintro e w4 ⟨rfl, hF4⟩; have hu4 := (HAS.out.fr ((Fr.refl _ _).drew.trans hF4)).tb.used; have hg4 := (HAS.out.fr ((Fr.refl _ _).drew.trans hF4)).tb.frozen 24))
              | fail "arm")
      all_goals (
        go_wp2_with fail
        go_meet
        exact HR9.out _ ((Fr.refl _ _).drew.trans hF4))
    case rest =>
    have HAS5 := Lib.hid hcut
    obtain ⟨d0, d1, d2⟩ := hcut.tb.cells k hkT
    have f0 := hcut.tb.frozen (k * 3)
    have f1 := hcut.tb.frozen (k * 3 + 1)
    have f2 := hcut.tb.frozen (k * 3 + 2)
    have hst := hcut.tb.setNode k hkT Nd.free (.slice none 0 0)
    have HAS6 : RowKit.Hid (Has w0 mb A0 F B w1.heap.size (T.set k (Nd.free, .slice none 0 0)) (dif u m) (((wc.setCell ⟨w1.heap.size, k * 3, none⟩ (.string ⟨#[]⟩)).setCell ⟨w1.heap.size, k * 3 + 1, none⟩ (.int .i64 0)).setCell ⟨w1.heap.size, k * 3 + 2, none⟩ (.slice none 0 0)) A1) := Lib.hid (hcut.store ((((Fr.refl (fun j => j = w1.heap.size) wc).setCell (p := ⟨w1.heap.size, k * 3, none⟩) (fun _ => rfl) (.string Nd.free.name)).setCell (p := ⟨w1.heap.size, k * 3 + 1, none⟩) (fun _ => rfl) (.int .i64 Nd.free.size)).setCell (p := ⟨w1.heap.size, k * 3 + 2, none⟩) (fun _ => rfl) (.slice none 0 0)) hst (hcut.tv.set k Nd.free (.slice none 0 0) (Sl.nil _) (fun j _ hne => absurd rfl hne)))
    have hms : (T.set k (Nd.free, .slice none 0 0)).map Prod.fst = L.set k Nd.free := by rw [map_set, HTT.out]
    have HLY := Lib.hid (by
      have := HAS6.out.lay k hk (by rw [hms, getD_get (by rw [List.length_set]; have := HL.out; omega), List.getElem_set_self]; exact .inl rfl) (dif_lt _ _)
      rw [hms] at this; exact this)
    clear hst hms hcut hcx hc24 hf24
    revert d0 d1 d2
    generalize T[k] = y
    obtain ⟨⟨y0, y1, y2⟩, y3⟩ := y
    dsimp only
    intro d0 d1 d2
    go_wp2_with (go_at_call 83; ((with_reducible refine HLY.out.mono ?_); rintro e w7 ⟨A7, rfl, hp7⟩))
    go_ret
    exact ⟨A7, rfl, by rw [HM.out]; exact HP0.out.trans hp7⟩
end Go.Proofs.YtoajnmbbgbpbgaaGreat
namespace Go.Proofs.YtoajnmbbgbpbgaaGreat
set_option linter.unusedVariables false
set_option linter.unusedSimpArgs false
open Go.RowKit Go.Shelf Go.Maps

theorem renameR_none {B : List Int} (ht : tableF B = none) (s t : ByteArray) : renameR B s t = (B, 120) := by
  unfold renameR; generalize tableF B = t at *; subst ht; rfl
theorem renameR_some {B : List Int} {L : List Nd} {u : Nat} (ht : tableF B = some (L, u)) (s t : ByteArray) : renameR B s t = if nameF s = false ∨ nameF t = false then (B, 121) else if findI L s = -1 then (B, 123) else if findI L t ≠ -1 then (B, 122)
    else (layT B (findI L s).toNat (L.set (findI L s).toNat ⟨t, (L.getD (findI L s).toNat Nd.free).size, (L.getD (findI L s).toNat Nd.free).ext⟩) u, 0) := by
  unfold renameR; generalize tableF B = t at *; subst ht; rfl

set_option maxHeartbeats 400000 in
set_option maxRecDepth 1000000 in
theorem frename_calls {w : World} {mb : Nat} {A : Nat → Prop} {F B : List Int} (h : MemAt w mb A F B) (s t : ByteArray) (hs : s.size ≤ 140737488355328) (ht : t.size ≤ 140737488355328) :
    Calls Tryz.prog 35 #[.pointer (some ⟨mb, 0, none⟩), .string s, .string t] w (FsP w mb A F (renameR B s t).1 (.int .i64 (renameR B s t).2)) := by
  cases htab : tableF B with
  | none =>
    have HR := Lib.hid (fread_bad h htab)
    rw [renameR_none htab]
    clear h htab
    go_enter Tryz.func35, Tryz.ntmps35
    go_wp2_with (first
              | (go_at_call 80; ((with_reducible refine HR.out.mono ?_); rintro e w1 ⟨A1, cs, rfl, hp1, hl, h1⟩)) | (refine alloc_tab rfl rfl ?_) | (refine store_tab rfl _ _ rfl w1.heap.size cs (tabC noT 0) rfl rfl (heap_new _ _) noT_len hl h1 ?_; intro w2 hb2 hF2) | fail "arm")
    go_ret
    exact ⟨A1, rfl, hp1.thenFr (((Fr.refl No w1).alloc _).trans' hF2 (fun i hi e => by omega))⟩
  | some p =>
    obtain ⟨L, u⟩ := p
    have HR := Lib.hid (fread_good h htab)
    have hlen := tableF_len htab
    have HL := Lib.hid hlen
    have HG := Lib.hid ((tableF_iff B L u).1 htab)
    have HU := Lib.hid (tableF_u htab)
    have HNM0 := fun (w1 : World) (v : Value) (h : Sl w1 v 2 [.string s, .string t]) => (named_calls v [s, t] w1 (by simp) (by simp [hs, ht]) h)
    rw [named2] at HNM0
    rw [renameR_some htab]
    clear h htab hs ht
    by_cases hn : nameF s = false ∨ nameF t = false
    · rw [if_pos hn]
      rw [if_neg (by rintro ⟨h1, h2⟩; rw [h1, h2] at hn; simp at hn)] at HNM0
      have HNM := Lib.hid HNM0
      clear HNM0 hn hlen
      go_enter Tryz.func35, Tryz.ntmps35
      go_wp2_with (first
              | (go_at_call 80; ((with_reducible refine HR.out.mono ?_); rintro e w1 ⟨A1, T, rfl, hp1, hT, hv1⟩; have HT8 : RowKit.Hid (T.length = 8) := Lib.hid (by have := HL.out; rw [← hT] at this; simpa using this); have HTT := Lib.hid hT; have HTL : RowKit.Hid ((tabC T u).length = 25) := Lib.hid (by rw [tabC_length, HT8.out]); clear hT)) | (refine alloc_tab rfl rfl ?_) | (refine store_tab rfl _ _ rfl w1.heap.size (tabC T u) (tabC noT 0) rfl rfl (heap_new _ _) noT_len HTL.out (hv1.one' u) ?_; intro w2 hb2 hF2; have HAS := Lib.hid (has_mk hp1 HT8.out hv1 hb2 hF2))
              | (go_at_call 81; ((with_reducible refine (HNM.out _ _ (sl_new _ [.string s, .string t] _ (by simp))).mono ?_); rintro e w3 ⟨rfl, hF3⟩))
              | fail "arm")
      go_ret
      exact ⟨A1, rfl, (HAS.out.fr (((Fr.refl No w2).alloc _).trans hF3)).mp⟩
    · rw [if_neg hn]
      have hn1 : nameF s = true ∧ nameF t = true := by simpa using hn
      rw [if_pos hn1] at HNM0
      have HNM := Lib.hid HNM0
      have HNF := Lib.hid hn1
      clear HNM0 hn hn1
      rcases findI_cases L s with hf | ⟨k, hk, hf, hks⟩
      · rw [if_pos hf]
        have HF1 := Lib.hid hf
        clear hf hlen
        go_enter Tryz.func35, Tryz.ntmps35
        go_upto_region 7 with (first
              | (go_at_call 80; ((with_reducible refine HR.out.mono ?_); rintro e w1 ⟨A1, T, rfl, hp1, hT, hv1⟩; have HT8 : RowKit.Hid (T.length = 8) := Lib.hid (by have := HL.out; rw [← hT] at this; simpa using this); have HTT := Lib.hid hT; have HTL : RowKit.Hid ((tabC T u).length = 25) := Lib.hid (by rw [tabC_length, HT8.out]); clear hT)) | (refine alloc_tab rfl rfl ?_) | (refine store_tab rfl _ _ rfl w1.heap.size (tabC T u) (tabC noT 0) rfl rfl (heap_new _ _) noT_len HTL.out (hv1.one' u) ?_; intro w2 hb2 hF2; have HAS := Lib.hid (has_mk hp1 HT8.out hv1 hb2 hF2))
              | (go_at_call 81; ((with_reducible refine (HNM.out _ _ (sl_new _ [.string s, .string t] _ (by simp))).mono ?_); rintro e w3 ⟨rfl, hF3⟩))
              | fail "arm")
        have HAS3 := Lib.hid (HAS.out.fr (((Fr.refl No w2).alloc _).trans hF3))
        have HFD := Lib.hid (by have := tfind_calls HAS3.out.tb HAS3.out.tv s; rw [HTT.out, HF1.out] at this; exact this)
        clear hF3 hF2 hb2
        go_wp2_with (go_at_call 82; ((with_reducible refine HFD.out.mono ?_); rintro e w4 ⟨rfl, hF4⟩))
        go_ret
        exact ⟨A1, rfl, (HAS3.out.fr hF4).mp⟩
      · rw [if_neg (by omega)]
        have hk8 : k < 8 := by omega
        rcases findI_cases L t with hg | ⟨k2, hk2, hg, -⟩
        · rw [if_neg (fun h => h hg), hf, Int.toNat_natCast]
          have HF1 := Lib.hid hf
          have HF2 := Lib.hid hg
          have HKS := Lib.hid hks
          have hki0 : (0 : Int) ≤ (k : Int) := by omega
          have hki1 : (k : Int) < 8 := by omega
          clear hf hg hlen hks hk
          go_enter Tryz.func35, Tryz.ntmps35
          go_upto_region 7 with (first
              | (go_at_call 80; ((with_reducible refine HR.out.mono ?_); rintro e w1 ⟨A1, T, rfl, hp1, hT, hv1⟩; have HT8 : RowKit.Hid (T.length = 8) := Lib.hid (by have := HL.out; rw [← hT] at this; simpa using this); have HTT := Lib.hid hT; have HTL : RowKit.Hid ((tabC T u).length = 25) := Lib.hid (by rw [tabC_length, HT8.out]); clear hT)) | (refine alloc_tab rfl rfl ?_) | (refine store_tab rfl _ _ rfl w1.heap.size (tabC T u) (tabC noT 0) rfl rfl (heap_new _ _) noT_len HTL.out (hv1.one' u) ?_; intro w2 hb2 hF2; have HAS := Lib.hid (has_mk hp1 HT8.out hv1 hb2 hF2))
              | (go_at_call 81; ((with_reducible refine (HNM.out _ _ (sl_new _ [.string s, .string t] _ (by simp))).mono ?_); rintro e w3 ⟨rfl, hF3⟩))
              | fail "arm")
          have HAS3 := Lib.hid (HAS.out.fr (((Fr.refl No w2).alloc _).trans hF3))
          have HFD := Lib.hid (by have := tfind_calls HAS3.out.tb HAS3.out.tv s; rw [HTT.out, HF1.out] at this; exact this)
          clear hF3 hF2 hb2
          go_upto_region 10 with (go_at_call 82; ((with_reducible refine HFD.out.mono ?_); rintro e w4 ⟨rfl, hF4⟩))
          have HAS4 := Lib.hid (HAS3.out.fr hF4)
          have HFE := Lib.hid (by have := tfind_calls HAS4.out.tb HAS4.out.tv t; rw [HTT.out, HF2.out] at this; exact this)
          go_upto_region 12 with (go_at_call 82; ((with_reducible refine HFE.out.mono ?_); rintro e w5 ⟨rfl, hF5⟩))
          have HAS5 := Lib.hid (HAS4.out.fr hF5)
          obtain ⟨c0, -, hkT, -, hx⟩ := tb_cell HAS5.out.tb hk8
          rw [HTT.out] at c0 hx
          have hst := HAS5.out.tb.setName k hkT t
          have hf5 := HAS5.out.tb.frozen (k * 3)
          have HAS6 := Lib.hid (HAS5.out.store (((Fr.refl (fun j => j = w1.heap.size) w5).setCell (p := ⟨w1.heap.size, k * 3, none⟩) (fun _ => rfl) (.string t))) hst (HAS5.out.tv.set k _ _ (HAS5.out.tv _ (List.getElem_mem hkT)).1 (HAS5.out.tv _ (List.getElem_mem hkT)).2))
          have hms : (T.set k (⟨t, T[k].1.size, T[k].1.ext⟩, T[k].2)).map Prod.fst = L.set k ⟨t, (L.getD k Nd.free).size, (L.getD k Nd.free).ext⟩ := by rw [map_set, HTT.out, hx]
          have hgd : (⟨t, (L.getD k Nd.free).size, (L.getD k Nd.free).ext⟩ : Nd).good := by
            right
            have hkL : k < L.length := by have := HL.out; omega
            rw [getD_get hkL]
            have hnm : L[k].name ≠ noName := by
              rw [← getD_get hkL, HKS.out]; exact nameF_ne HNF.out.1
            rcases HG.out.good _ (List.getElem_mem hkL) with e | e
            · rw [e] at hnm; exact absurd rfl hnm
            · exact rename_ok e HNF.out.2
          have HLY := Lib.hid (by
            have := HAS6.out.lay k hk8 (by rw [hms, getD_get (by rw [List.length_set]; have := HL.out; omega), List.getElem_set_self]; exact hgd) HU.out
            rw [hms] at this; exact this)
          clear hx hst hms hF5 hF4 hgd
          go_wp2_with (go_at_call 83; ((with_reducible refine HLY.out.mono ?_); rintro e w7 ⟨A7, rfl, hp7⟩))
          go_ret
          exact ⟨A7, rfl, hp7⟩
        · rw [if_pos (by omega)]
          have HF1 := Lib.hid hf
          have HF2 := Lib.hid hg
          clear hf hg hlen hks hk hk2
          go_enter Tryz.func35, Tryz.ntmps35
          go_upto_region 7 with (first
              | (go_at_call 80; ((with_reducible refine HR.out.mono ?_); rintro e w1 ⟨A1, T, rfl, hp1, hT, hv1⟩; have HT8 : RowKit.Hid (T.length = 8) := Lib.hid (by have := HL.out; rw [← hT] at this; simpa using this); have HTT := Lib.hid hT; have HTL : RowKit.Hid ((tabC T u).length = 25) := Lib.hid (by rw [tabC_length, HT8.out]); clear hT)) | (refine alloc_tab rfl rfl ?_) | (refine store_tab rfl _ _ rfl w1.heap.size (tabC T u) (tabC noT 0) rfl rfl (heap_new _ _) noT_len HTL.out (hv1.one' u) ?_; intro w2 hb2 hF2; have HAS := Lib.hid (has_mk hp1 HT8.out hv1 hb2 hF2))
              | (go_at_call 81; ((with_reducible refine (HNM.out _ _ (sl_new _ [.string s, .string t] _ (by simp))).mono ?_); rintro e w3 ⟨rfl, hF3⟩))
              | fail "arm")
          have HAS3 := Lib.hid (HAS.out.fr (((Fr.refl No w2).alloc _).trans hF3))
          have HFD := Lib.hid (by have := tfind_calls HAS3.out.tb HAS3.out.tv s; rw [HTT.out, HF1.out] at this; exact this)
          clear hF3 hF2 hb2
          go_upto_region 10 with (go_at_call 82; ((with_reducible refine HFD.out.mono ?_); rintro e w4 ⟨rfl, hF4⟩))
          have HAS4 := Lib.hid (HAS3.out.fr hF4)
          have HFE := Lib.hid (by have := tfind_calls HAS4.out.tb HAS4.out.tv t; rw [HTT.out, HF2.out] at this; exact this)
          go_wp2_with (go_at_call 82; ((with_reducible refine HFE.out.mono ?_); rintro e w5 ⟨rfl, hF5⟩))
          go_ret
          exact ⟨A1, rfl, (HAS4.out.fr hF5).mp⟩
end Go.Proofs.YtoajnmbbgbpbgaaGreat
namespace Go.Proofs.YtoajnmbbgbpbgaaGreat
set_option linter.unusedVariables false
set_option linter.unusedSimpArgs false
open Go.RowKit Go.Shelf Go.Maps

/-- 'append(s, x...)' where x reads as cs, nil or not; and where the new slice lies. -/
theorem append_lie {P : Program} {w : World} {ops : Array Oper} {rest : List Oper} {o : Oper} {a : Act} {Q : Exit → Act → World → Prop}
    {t e : TypeId} {z : Value} {size bytes : Nat} (hE : Elem P t e z size bytes)
    (hg : o.guard = none) (s x : Operand) (hop : o.op = Op.call { callee := Callee.builtin Builtin.append, args := #[s, x], argTypes := #[t, t] })
    (base : Nat) (v : Value) (k : Nat) (xs : List Value) (hs : a.eval s = v) (hown : w.ownsRow base e size v k xs) {y : Value} {m : Nat} {cs : List Value} (hx : a.eval x = y) (hsl : Sl w y m cs) (hn : cs.length = m * size)
    (h1c : ∀ u ∈ cs, u.oneCell' = true) (b1 : k + m ≤ maxLen) (b2 : (k + m) * bytes ≤ 140737488355328) (b3 : base ≤ w.heap.size)
    (hK : ∀ v' w', w'.ownsRow base e size v' (k + m) (xs ++ cs) → w.grownBy w' v.ownBlock → (v'.ownBlock = v.ownBlock ∨ v'.ownBlock = some w.heap.size) → wpList P ops Q rest (a.put o.dst v') w') :
    wpList P ops Q (o :: rest) a w := by
  obtain ⟨i0, hi, hz0, hz1, hz2⟩ := info_parts hE.info
  obtain ⟨ad, cap, rfl, h0, h1, h2⟩ := hsl
  cases ad with
  | none =>
    obtain ⟨rfl, rfl⟩ := h0.1 rfl
    simp at hn
    subst hn
    refine wpList_append_own_none hg s x t hop base e i0 size hE.und hi v k xs hs hown hx ?_
    exact hK v w (by simpa using hown) ⟨rfl, rfl, rfl, Nat.le_refl _, fun _ _ _ => rfl⟩ (.inl rfl)
  | some ad =>
    refine wpList_append_own_at w hg s x t hop base e i0 z size bytes hE.und hi hz0 hz1 hz2 hE.zs hE.pos v k xs hs hown ad m cap cs hx hn ?_ h1c b1 b2 b3 (fun v' w' r1 r2 _ r4 => hK v' w' r1 r2 r4)
    intro j u hj
    obtain ⟨b, off, e⟩ := h1 (by rintro rfl; simp at hj)
    injection e with e
    subst e
    have := h2 b off j u rfl hj
    by_cases hj0 : j = 0
    · subst hj0; simpa [Addr.add] using this
    · simpa [Addr.add, hj0] using this

theorem contF_snoc {B : List Int} (hB : B.length = 8192) {xs : List (Int × Int)} {o i n : Nat} (hn : (o + i) % 64 + n ≤ 64) (hl : (o + i) / 64 < (listF xs).length) : contF B xs o (i + n) = contF B xs o i ++ loadF B (addrF xs (o + i)) n := by
  refine ext_getD (by rw [List.length_append, contF_length, contF_length, loadF_length]) (fun j hj => ?_)
  rw [contF_length] at hj
  rw [contF_get _ _ _ _ _ hj]
  simp only [List.getD_eq_getElem?_getD]
  by_cases h : j < i
  · rw [List.getElem?_append_left (by rw [contF_length]; exact h), ← List.getD_eq_getElem?_getD, contF_get _ _ _ _ _ h]
  · rw [List.getElem?_append_right (by rw [contF_length]; omega), contF_length, ← List.getD_eq_getElem?_getD, loadF_get _ _ _ _ (by omega)]
    have hm := listF_nine _ (getD_mem hl)
    have hd : (o + j) / 64 = (o + i) / 64 := by omega
    rw [byteF, byteAt, addrF, addrF, hd, if_pos (by omega)]
    congr 2
    omega

theorem bys_app (l m : List Int) : bys (l ++ m) = bys l ++ bys m := List.map_append
/-- The loop's state: i bytes read. -/
def CtI (W0 : World) (mb : Nat) (A : Nat → Prop) (F B : List Int) (xs : List (Int × Int)) (o i : Nat) (r : Value) (wr : World) : Prop :=
  ∃ A', Mp W0 mb A F B wr A' ∧ wr.ownsRow W0.heap.size 5 1 r i (bys (contF B xs o i)) ∧ ∀ k, r.ownBlock = some k → ¬ A' k

set_option maxHeartbeats 400000 in
set_option maxRecDepth 1000000 in
theorem fcontent_calls {w : World} {mb : Nat} {A : Nat → Prop} {F B : List Int} (h : MemAt w mb A F B) (s : ByteArray) (n : Int) (v : Value) (xs : List (Int × Int)) (hv : Sl w v xs.length (extCells xs)) (hvA : ∀ k, v.ownBlock = some k → xs ≠ [] → ¬ A k) (hxl : xs.length ≤ 23) (o N : Nat) (hoN : o + N ≤ 64 * (listF xs).length) (hll : (listF xs).length ≤ 23) :
    Calls Tryz.prog 97 #[.pointer (some ⟨mb, 0, none⟩), .agg #[.string s, .int .i64 n, v], .int .i64 (o : Int), .int .i64 ((o + N : Nat) : Int)] w fun e w' => ∃ r A', e = .returned r ∧ Mp w mb A F B w' A' ∧ w'.ownsRow w.heap.size 5 1 r N (bys (contF B xs o N)) ∧ ∀ k, r.ownBlock = some k → ¬ A' k := by
  obtain ⟨av, cv, rfl⟩ := hv.form
  have hF0 : Fr No w (w.alloc (.cells #[.string s, .int .i64 n, .slice av xs.length cv] 95)) := (Fr.refl _ _).alloc _
  have hb0 := heap_new w (.cells #[.string s, .int .i64 n, .slice av xs.length cv] 95)
  have HB0 := Lib.hid hb0
  have HF0 := Lib.hid hF0
  have HM := Lib.hid (h.fr0 hF0)
  have HV := Lib.hid (hv.fr0 hF0)
  have HVA := Lib.hid hvA
  have HLOW := Lib.hid h.low
  have HXL := Lib.hid hxl
  have HON := Lib.hid hoN
  have HLL := Lib.hid hll
  have hs0 : w.heap.size < (w.alloc (.cells #[.string s, .int .i64 n, .slice av xs.length cv] 95)).heap.size := by simp
  have ho : o + N ≤ 1472 := by omega
  clear h hF0 hv hvA hxl hoN hll hb0
  go_enter Tryz.func97, Tryz.ntmps97
  go_wp2_with fail
  generalize w.alloc _ = W0 at *
  obtain ⟨M, hM⟩ : ∃ M, o + N = M := ⟨_, rfl⟩
  rw [hM]
  rw [hM] at HON ho
  have HMM := Lib.hid hM
  have hoM : o ≤ M := by omega
  clear hM
  go_loopw [2, 9] (fun f r wr => ∃ g : Nat, o ≤ g ∧ g ≤ M ∧ f = .int .i64 (g : Int) ∧ CtI W0 mb A F B xs o (g - o) r wr) (fun f _ _ => M - (intOf f).toNat)
  case atStart => exact ⟨o, Nat.le_refl _, hoM, rfl, A, Mp.refl HM.out, by rw [Nat.sub_self]; exact World.ownsRow_nil _ _ _ _, fun k e => by cases e⟩
  case round =>
    obtain ⟨g, hg1, hg2, rfl, A1, hp, hown, hout⟩ := hrel
    by_cases hlt : g < M
    · obtain ⟨q, hq⟩ : ∃ q, g / 64 = q := ⟨_, rfl⟩
      obtain ⟨r, hr⟩ : ∃ r, g % 64 = r := ⟨_, rfl⟩
      have hql : q < (listF xs).length := by have := HON.out; omega
      have hbq := listF_nine _ (getD_mem hql)
      have HB := Lib.hid (by
        have := block_calls (.slice av xs.length cv) xs (q : Int) _ (by have := HXL.out; omega) (HV.out.fr hp.2.1 (fun k e hne => HVA.out k e (extCells_ne hne)))
        rw [if_pos ⟨by omega, by omega⟩, Int.toNat_natCast] at this
        exact this)
      have had : addrF xs g = 6144 + 64 * (listF xs).getD q 0 + r := by rw [addrF, hq, hr]
      obtain ⟨b, hb⟩ : ∃ b, (listF xs).getD q 0 = b := ⟨_, rfl⟩
      rw [hb] at HB hbq had
      have hr64 : r < 64 := by omega
      have hq1 : (g : Int) / 64 = q := by omega
      have hq2 : Int.tdiv (g : Int) 64 = q := by rw [Int.tdiv_eq_ediv_of_nonneg (by omega)]; exact hq1
      have hr1 : (g : Int) % 64 = r := by omega
      have hr2 : Int.tmod (g : Int) 64 = r := by rw [Int.tmod_eq_emod_of_nonneg (by omega)]; exact hr1
      have hbx := hp.2.1.heap HB0.out (fun hA => Nat.lt_irrefl _ (HLOW.out _ hA))
      have k2 := heap_cell (o := 2) hbx rfl
      have HAD := Lib.hid had
      have HQL := Lib.hid hql
      have HQ := Lib.hid hq
      have HR := Lib.hid hr
      have HP := Lib.hid hp
      have HOWN := Lib.hid hown
      have HOUT := Lib.hid hout
      clear hq hr hql hb hbx hp hown hout had
      obtain ⟨c, hc⟩ : ∃ c : Nat, (if (M : Int) - g < 64 - r then (M : Int) - g else 64 - r) = (c : Int) := ⟨(if (M : Int) - g < 64 - r then (M : Int) - g else 64 - r).toNat, by split <;> omega⟩
      have hc1 : 0 < c := by split at hc <;> omega
      have hc2 : r + c ≤ 64 := by split at hc <;> omega
      have hc3 : g + c ≤ M := by split at hc <;> omega
      have HLD := Lib.hid (fun w1 (h : Fr No wr w1) => load_calls (HP.out.1.fr0 h) (6144 + b * 64 + (r : Int)) (c : Int) c (by omega) (by omega))
      have HSN := Lib.hid (contF_snoc HM.out.blen (xs := xs) (o := o) (i := g - o) (n := c) (by rw [show o + (g - o) = g by omega, HR.out]; exact hc2) (by rw [show o + (g - o) = g by omega, HQ.out]; exact HQL.out))
      have hgs : W0.heap.size ≤ wr.heap.size := HP.out.2.1.size
      go_upto_region 6 with (first
        | (go_at_call 96; ((with_reducible refine HB.out.mono ?_); rintro e w2 ⟨rfl, hF2⟩))
        | (go_at_call 42; ((with_reducible refine (place_calls _ _ (by omega) (by omega)).mono ?_); rintro e w3 ⟨rfl, rfl⟩))
        | (go_at_call 47; ((with_reducible refine (HLD.out _ hF2).mono ?_); rintro e w3 ⟨bl, A3, rfl, hp3, hr3, hn3, hb3⟩; have HSL : RowKit.Hid (Sl w3 (.slice (some ⟨bl, 0, none⟩) c c) c (bys (loadF B (6144 + b * 64 + (r : Int)) c))) := Lib.hid (by have := hr3.sl; rw [loadF_length] at this; exact this); have HO3 := Lib.hid (hp3.2.1.ownsRow (hF2.ownsRow HOWN.out (fun _ _ h => h)) HOUT.out)))
        | (at_builtin; refine append_lie el_u8 rfl _ _ rfl W0.heap.size u9 (g - o) (bys (contF B xs o (g - o))) rfl HO3.out rfl HSL.out (by rw [bys_len, loadF_length, Nat.mul_one]) (bys_one _) (by unfold maxLen; omega) (by omega) (by have := hp3.2.1.size; have := hF2.size; omega) ?_; intro v4 w4 hown4 hgrow4 hlie4)
        | fail "arm")
      have hF34 : Fr (fun k => u9.ownBlock = some k) w3 w4 := (Fr.refl _ _).grown hgrow4 (fun k e _ => e)
      have hout3 : ∀ k, u9.ownBlock = some k → ¬ A3 k := fun k e hA => by
        rcases hp3.2.2 k hA with h | h
        · exact HOUT.out k e h
        · have := (HOWN.out.lt k e).2; have := hF2.size; omega
      have hMp : Mp W0 mb A F B w4 A3 := by
        have h3 := (HP.out.thenFr hF2).trans hp3
        exact ⟨h3.1.fr hF34 (fun k e hA => hout3 k e hA), h3.2.1.trans' hF34 (fun i hi e => by have := (HOWN.out.lt i e).1; omega), h3.2.2⟩
      have HMP := Lib.hid hMp
      have HO4 : RowKit.Hid (∀ k, v4.ownBlock = some k → ¬ A3 k) := Lib.hid (fun k e hA => by
        rcases hlie4 with h | h
        · exact hout3 k (h ▸ e) hA
        · rw [h] at e; cases e; exact Nat.lt_irrefl _ (hp3.1.low _ hA))
      have HOWN4 := Lib.hid hown4
      clear hF34 hout3 hMp hgrow4 hlie4 hown4
      go_wp2_with fail
      go_roundw
      case rel =>
        refine ⟨g + c, by omega, by omega, by go_num, A3, HMP.out, ?_, HO4.out⟩
        rw [show g + c - o = (g - o) + c by omega, HSN.out, bys_app, show o + (g - o) = g by omega, HAD.out, show 6144 + 64 * b + (r : Int) = 6144 + b * 64 + r by omega]
        exact HOWN4.out
      case measure => simp [intOf]; omega
    · obtain rfl : g = M := by omega
      have HP := Lib.hid hp
      have HOWN := Lib.hid hown
      have HOUT := Lib.hid hout
      clear hp hown hout
      go_wp2_with fail
      go_ret
      refine ⟨_, A1, rfl, HP.out.pre HF0.out, ?_, HOUT.out⟩
      have h := HOWN.out
      rw [show g - o = N by have := HMM.out; omega] at h
      exact ownsRow_base h (by omega)
end Go.Proofs.YtoajnmbbgbpbgaaGreat
namespace Go.Proofs.YtoajnmbbgbpbgaaGreat
set_option linter.unusedVariables false
set_option linter.unusedSimpArgs false
open Go.RowKit Go.Shelf Go.Maps

/-- What a call that reads comes to. -/
def FsPb (w : World) (mb : Nat) (A : Nat → Prop) (F B : List Int) (p : List Int × Int) (e : Ending) (w' : World) : Prop :=
  ∃ A' r, e = .returned (.tuple #[r, .int .i64 p.2]) ∧ Mp w mb A F B w' A' ∧ w'.ownsRow w.heap.size 5 1 r p.1.length (bys p.1) ∧ ∀ k, r.ownBlock = some k → ¬ A' k
theorem FsPb.nil {w w' : World} {mb : Nat} {A A' : Nat → Prop} {F B : List Int} {x : Int} (hp : Mp w mb A F B w' A') : FsPb w mb A F B ([], x) (.returned (.tuple #[.slice none 0 0, .int .i64 x])) w' :=
  ⟨A', _, rfl, hp, World.ownsRow_nil _ _ _ _, fun k e => by cases e⟩
theorem readR_bad {B : List Int} {n x : Int} (hx : openE B n = x) (h0 : 0 < x) (o m : Int) : readR B n o m = ([], x) := by
  rcases open_facts hx with ⟨ht, rfl⟩ | ⟨L, u, ht, rfl⟩
  · unfold readR; generalize tableF B = t at *; subst ht; rfl
  · unfold readR; generalize tableF B = t at *; subst ht
    dsimp only
    by_cases h1 : n < 0 ∨ 8 ≤ n
    · rw [if_pos h1, if_pos h1]
    · rw [if_neg h1, if_neg h1]
      by_cases h2 : (L.getD n.toNat Nd.free).name = noName
      · rw [if_pos h2, if_pos h2]
      · rw [if_neg h1, if_neg h2] at h0; omega
theorem readR_good {B : List Int} {L : List Nd} {u k : Nat} (ht : tableF B = some (L, u)) (hk : k < 8) (hn : (L.getD k Nd.free).name ≠ noName) (o m : Int) : readR B k o m = if o < 0 ∨ m < 0 then ([], 1)
    else (contF B (L.getD k Nd.free).ext (min o (L.getD k Nd.free).size).toNat (min m ((L.getD k Nd.free).size - min o (L.getD k Nd.free).size)).toNat, 0) := by
  unfold readR; generalize tableF B = t at *; subst ht
  dsimp only
  rw [if_neg (by omega), Int.toNat_natCast, if_neg hn]
theorem tab_facts {B : List Int} {L : List Nd} {u k : Nat} (ht : tableF B = some (L, u)) (hk : k < 8) : okB (blkSeq (-1) (L.getD k Nd.free).ext) = true ∧ (listF (L.getD k Nd.free).ext).length = (needF (L.getD k Nd.free).size).toNat ∧ 0 ≤ (L.getD k Nd.free).size ∧ (L.getD k Nd.free).size ≤ 1472 ∧ (L.getD k Nd.free).ext.length ≤ 23 ∧ (L.getD k Nd.free).name.size ≤ 15 := by
  have hl := tableF_len ht
  rw [getD_get (by omega)]
  exact (((tableF_iff B L u).1 ht).good _ (List.getElem_mem (l := L) (n := k) (by omega))).facts

set_option maxHeartbeats 400000 in
set_option maxRecDepth 1000000 in
theorem ffread_calls {w : World} {mb : Nat} {A : Nat → Prop} {F B : List Int} (h : MemAt w mb A F B) (n o m : Int) (ho : -9223372036854775808 ≤ o ∧ o ≤ 9223372036854775807) (hm : -9223372036854775808 ≤ m ∧ m ≤ 9223372036854775807) :
    Calls Tryz.prog 59 #[.pointer (some ⟨mb, 0, none⟩), .int .i64 n, .int .i64 o, .int .i64 m] w (FsPb w mb A F B (readR B n o m)) := by
  rcases open_cases B n with ⟨x, hx, h0⟩ | ⟨hx, L, u, k, ht, hk, rfl, hnm⟩
  · have HR := Lib.hid (fopen_bad h n hx)
    rw [readR_bad hx h0]
    clear h hx
    go_enter Tryz.func59, Tryz.ntmps59
    go_wp2_with (first
              | (go_at_call 93; ((with_reducible refine HR.out.mono ?_); rintro e w1 ⟨A1, cs, rfl, hp1, hl, h1⟩)) | (refine alloc_tab rfl rfl ?_) | (refine store_tab rfl _ _ rfl w1.heap.size cs (tabC noT 0) rfl rfl (heap_new _ _) noT_len hl h1 ?_; intro w2 hb2 hF2) | fail "arm")
    go_ret2
    exact FsPb.nil (hp1.thenFr (((Fr.refl No w1).alloc _).trans' hF2 (fun i hi e => by omega)))
  · have HR := Lib.hid (fopen_good h ht (k : Int) hx)
    have HL := Lib.hid (tableF_len ht)
    obtain ⟨-, f2, f3, f4, f5, -⟩ := tab_facts ht hk
    rw [readR_good ht hk hnm]
    clear h hx ht hnm
    by_cases hneg : o < 0 ∨ m < 0
    · rw [if_pos hneg]
      clear f2 f3 f4 f5 ho hm
      have hd : decide (o < 0) = true ∨ (decide (o < 0) = false ∧ decide (m < 0) = true) := by
        by_cases h1 : o < 0
        · exact .inl (decide_eq_true h1)
        · exact .inr ⟨decide_eq_false h1, decide_eq_true (by omega)⟩
      clear hneg
      rcases hd with d1 | ⟨d1, d2⟩
      all_goals
        go_enter Tryz.func59, Tryz.ntmps59
        go_wp2_with (first
              | (go_at_call 93; ((with_reducible refine HR.out.mono ?_); rintro e w1 ⟨A1, T, rfl, hp1, hT, hv1⟩; have HT8 : RowKit.Hid (T.length = 8) := Lib.hid (by have := HL.out; rw [← hT] at this; simpa using this); have HTT := Lib.hid hT; have HTL : RowKit.Hid ((tabC T u).length = 25) := Lib.hid (by rw [tabC_length, HT8.out]); clear hT)) | (refine alloc_tab rfl rfl ?_) | (refine store_tab rfl _ _ rfl w1.heap.size (tabC T u) (tabC noT 0) rfl rfl (heap_new _ _) noT_len HTL.out (hv1.one' u) ?_; intro w2 hb2 hF2; have HAS := Lib.hid (has_mk hp1 HT8.out hv1 hb2 hF2)) | fail "arm")
        go_ret2
        exact FsPb.nil HAS.out.mp
    · rw [if_neg hneg]
      have d1 : decide (o < 0) = false := decide_eq_false (by omega)
      have d2 : decide (m < 0) = false := decide_eq_false (by omega)
      obtain ⟨x, hx⟩ : ∃ x, L.getD k Nd.free = x := ⟨_, rfl⟩
      rw [hx] at f2 f3 f4 f5 ⊢
      obtain ⟨nm, sz, xs⟩ := x
      dsimp only at f2 f3 f4 f5 ⊢
      obtain ⟨a, ha⟩ : ∃ a : Nat, min o sz = (a : Int) := ⟨(min o sz).toNat, by omega⟩
      obtain ⟨c, hc⟩ : ∃ c : Nat, min m (sz - a) = (c : Int) := ⟨(min m (sz - a)).toNat, by omega⟩
      rw [ha, hc, Int.toNat_natCast, Int.toNat_natCast]
      have ha1 : (if sz < o then sz else o) = (a : Int) := by split <;> omega
      have hc1 : (if sz - (a : Int) < m then sz - (a : Int) else m) = (c : Int) := by split <;> omega
      have hlen : a + c ≤ 64 * (listF xs).length ∧ (listF xs).length ≤ 23 := by
        rw [f2, needF]; split <;> omega
      have HLEN := Lib.hid hlen
      have HX := Lib.hid hx
      have F5 := Lib.hid f5
      have hac : (a : Int) ≤ sz ∧ (c : Int) ≤ sz - a := by omega
      obtain ⟨hac1, hac2⟩ := hac
      have hki0 : (0 : Int) ≤ (k : Int) := by omega
      have hki1 : (k : Int) < 8 := by omega
      clear ha hc hlen hx f2 f5 hneg ho hm
      go_enter Tryz.func59, Tryz.ntmps59
      go_upto_region 6 with (first
              | (go_at_call 93; ((with_reducible refine HR.out.mono ?_); rintro e w1 ⟨A1, T, rfl, hp1, hT, hv1⟩; have HT8 : RowKit.Hid (T.length = 8) := Lib.hid (by have := HL.out; rw [← hT] at this; simpa using this); have HTT := Lib.hid hT; have HTL : RowKit.Hid ((tabC T u).length = 25) := Lib.hid (by rw [tabC_length, HT8.out]); clear hT)) | (refine alloc_tab rfl rfl ?_) | (refine store_tab rfl _ _ rfl w1.heap.size (tabC T u) (tabC noT 0) rfl rfl (heap_new _ _) noT_len HTL.out (hv1.one' u) ?_; intro w2 hb2 hF2; have HAS := Lib.hid (has_mk hp1 HT8.out hv1 hb2 hF2); obtain ⟨c0, c1, hkT, c2, hex⟩ := tb_cell HAS.out.tb hk; rw [HTT.out, HX.out] at c0 c1 hex; obtain ⟨hsl, hsb⟩ := HAS.out.tv _ (List.getElem_mem hkT); rw [hex] at hsl hsb; obtain ⟨av, cv, ev⟩ := hsl.form; rw [ev] at hsl hsb c2; have HSL := Lib.hid hsl; have HSB := Lib.hid hsb; clear hsl hsb ev hex) | fail "arm")
      dsimp only at c0 c1 c2
      go_upto_region 8 with fail
      dsimp only at HSL HSB
      have HCT := Lib.hid (by
        have hFa : Fr No w2 (w2.alloc (Obj.cells #[.string nm, .int .i64 sz, .slice av xs.length cv] 95)) := (Fr.refl _ _).alloc _
        have h2 := HAS.out.fr hFa
        have := fcontent_calls h2.mp.1 nm sz (.slice av xs.length cv) xs (HSL.out.fr0 hFa) (fun j e hne hA => HSB.out j e hne (.inr (.inl hA))) F5.out a c HLEN.out.1 HLEN.out.2
        rw [Int.natCast_add] at this; exact this)
      clear c0 c1 c2 hkT hF2 hb2 hv1
      go_wp2_with (go_at_call 97; ((with_reducible refine HCT.out.mono ?_); rintro e w4 ⟨r, A4, rfl, hp4, hown4, hout4⟩))
      go_ret2
      exact ⟨A4, r, rfl, (HAS.out.fr ((Fr.refl No w2).alloc _)).mp.trans hp4, by
        have := HAS.out.mp.2.1.size
        rw [contF_length]; exact ownsRow_base hown4 (by simp; omega), hout4⟩
end Go.Proofs.YtoajnmbbgbpbgaaGreat
