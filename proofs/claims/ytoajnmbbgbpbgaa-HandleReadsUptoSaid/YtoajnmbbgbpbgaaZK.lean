/-
  Chapter 12: the files, one by one.
-/
import Derived.Test.YtoajnmbbgbpbgaaZJ
import Derived.Test.YtoajnmbbgbpbgaaZF
import Derived.Sort.QuietIn
import Derived.Stop.RegionWithIn
import Derived.Maps.OwnIn
import Derived.Test.YtoajnmbbgbpbgaaZH
namespace Go.Proofs.Ytoajnmbbgbpbgaa
set_option linter.unusedVariables false
set_option linter.unusedSimpArgs false
open Go.RowKit Go.Shelf Go.Maps
attribute [local go_sem] Oper.semAt_some wide_depth inRound_depth wide_fn inRound_fn

/-- The memory, the table in block tb, the iterator's boxes; X: blocks that are none of the memory's. -/
structure FlSt (N tb bt bm mb : Nat) (F B : List Int) (T : List TE) (u : Nat) (X : Nat → Prop) (W : World) (A : Nat → Prop) : Prop where
  mem : MemAt W mb A F B
  tab : TbAt W tb T u
  boxT : W.heap[bt]? = some (.cells #[.pointer (some ⟨tb, 0, none⟩)] 129 (0, 0))
  boxM : W.heap[bm]? = some (.cells #[.pointer (some ⟨mb, 0, none⟩)] 24 (0, 0))
  tv : TV (fun k => A k ∨ X k ∨ N ≤ k) W T
  out : ∀ k, X k → ¬ A k
  xt : X tb
  xb : X bt
  xm : X bm
  low : ∀ k, X k → k < W.heap.size
theorem FlSt.fr {N tb bt bm mb : Nat} {F B : List Int} {T : List TE} {u : Nat} {X S A : Nat → Prop} {W W' : World} (h : FlSt N tb bt bm mb F B T u X W A) (hF : Fr S W W') (hS : ∀ k, S k → (X k ∨ (N ≤ k ∧ ¬ A k)) ∧ k ≠ tb ∧ k ≠ bt ∧ k ≠ bm) : FlSt N tb bt bm mb F B T u X W' A :=
  ⟨h.mem.fr hF (fun k hk => (hS k hk).1.elim (h.out k) And.right), h.tab.fr hF (fun hk => (hS _ hk).2.1 rfl), hF.heap h.boxT (fun hk => (hS _ hk).2.2.1 rfl), hF.heap h.boxM (fun hk => (hS _ hk).2.2.2 rfl),
    h.tv.fr hF (fun k _ hk => .inr ((hS k hk).1.imp id And.left)), h.out, h.xt, h.xb, h.xm, fun k hk => Nat.lt_of_lt_of_le (h.low k hk) hF.size⟩
theorem FlSt.fr0 {N tb bt bm mb : Nat} {F B : List Int} {T : List TE} {u : Nat} {X A : Nat → Prop} {W W' : World} (h : FlSt N tb bt bm mb F B T u X W A) (hF : Fr No W W') : FlSt N tb bt bm mb F B T u X W' A := h.fr hF (fun _ h => h.elim)
theorem FlSt.mp {N tb bt bm mb : Nat} {F B : List Int} {T : List TE} {u : Nat} {X A A' : Nat → Prop} {W W' : World} (h : FlSt N tb bt bm mb F B T u X W A) (hp : Mp W mb A F B W' A') : FlSt N tb bt bm mb F B T u X W' A' where
  mem := hp.1
  tab := h.tab.fr hp.2.1 (h.out _ h.xt)
  boxT := hp.2.1.heap h.boxT (h.out _ h.xb)
  boxM := hp.2.1.heap h.boxM (h.out _ h.xm)
  tv := (h.tv.up.fr hp.2.1 (fun k _ hk => .inl (.inl hk))).mono (fun k _ hk => by
    rcases hk with hk | hk
    · rcases hp.2.2 k hk with h1 | h1
      · exact .inl (.inl h1)
      · exact .inr h1
    · exact .inl (.inr hk))
  out := fun k hX hA => by
    rcases hp.2.2 k hA with h1 | h1
    · exact h.out k hX h1
    · have := h.low k hX; omega
  xt := h.xt
  xb := h.xb
  xm := h.xm
  low := fun k hk => Nat.lt_of_lt_of_le (h.low k hk) hp.2.1.size
/-- How a file is handed on. -/
def FlEnc (X : Nat → Prop) (x : ByteArray × List Int) (W : World) (A : Nat → Prop) (vs : Array Value) : Prop :=
  ∃ v, vs = #[.agg #[.string x.1, v]] ∧ W.ownsRow 0 5 1 v x.2.length (bys x.2) ∧ ∀ k, v.ownBlock = some k → ¬ (A k ∨ X k)
theorem filesL_snoc (B : List Int) (L : List Nd) (j : Nat) (hj : j < L.length) : filesL B (L.take (j + 1)) = filesL B (L.take j) ++ (if named L[j] = true then [entry B L[j]] else []) := by
  rw [filesL, filesL, List.take_succ_eq_append_getElem hj, List.filter_append, List.map_append]
  congr 1
  by_cases h : named L[j] = true
  · rw [if_pos h, List.filter_cons_of_pos h]; rfl
  · rw [if_neg h, List.filter_cons_of_neg h]; rfl
theorem filesL_prefix (B : List Int) (L : List Nd) (j : Nat) : filesL B (L.take j) <+: filesL B L := by
  conv => rhs; rw [← List.take_append_drop j L]
  rw [filesL, filesL, List.filter_append, List.map_append]
  exact List.prefix_append _ _
theorem run_nodes {w : World} {b : Nat} {T : List TE} {u : Nat} (h : TbAt w b T u) : (Instr.loadAt 81 (.pointer (some ⟨b, 0, none⟩))).run Try.prog w = .ok (.agg (nodC T).toArray) w := by
  refine run_loadAt_mid (P := Try.prog) w b 0 _ (nodC T) _ (fun j v hj => ?_) Try.underlying81 rfl (by rw [size_nodes, nodC_length, h.2])
  have hl : j < (nodC T).length := (List.getElem?_eq_some_iff.1 hj).1
  rw [Nat.zero_add]
  exact heap_cell h.1 (by rw [tabC]; simpa [List.getElem?_append_left hl] using hj)
theorem load_nodesIn {F : Fence} {n : Nat} {ops : Array Oper} {rest : List Oper} {o : Oper} {a : Act} {w : World} {Q : Exit → Act → World → Prop} (hg : o.guard = none) (x : Operand) (ho : o.op = .load 81 x)
    (b : Nat) (T : List TE) (u : Nat) (hx : a.eval x = .pointer (some ⟨b, 0, none⟩)) (h : TbAt w b T u)
    (hK : wpListIn F n Try.prog ops Q rest (a.put o.dst (.agg (nodC T).toArray)) w) : wpListIn F n Try.prog ops Q (o :: rest) a w := by
  refine wpListIn_plain hg fun K hK' => ?_
  have hl : (Instr.loadAt 81 (.pointer (some ⟨b, 0, none⟩))).run Try.prog w = .ok (.agg (nodC T).toArray) w := run_nodes h
  unfold Oper.wpIn
  refine ⟨by simp [Oper.about, ho], ?_⟩
  rw [Oper.semAt_plain F _ _ (by rw [ho]; intro c hc'; cases hc')]
  simp only [execOp, ho, hx, Sem.run_bind, hl, Result.andThen]
  exact hK' _ _ hK

theorem yd_split {e : Ending} {a c : Prop} (h : (e = .returned (.bool true) ∧ a) ∨ (e = .returned (.bool false) ∧ c)) : ∃ bo : Bool, e = .returned (.bool bo) ∧ ((bo = true ∧ a) ∨ (bo = false ∧ c)) := by
  rcases h with ⟨rfl, h⟩ | ⟨rfl, h⟩
  · exact ⟨true, rfl, .inl ⟨rfl, h⟩⟩
  · exact ⟨false, rfl, .inr ⟨rfl, h⟩⟩
set_option maxHeartbeats 6000000 in
set_option maxRecDepth 1000000 in
theorem files1_iter (N0 tb bt bm mb : Nat) (F B : List Int) (T : List TE) (u : Nat) (X : Nat → Prop) (L : List Nd) (hT : T.map Prod.fst = L) (hg : ∀ x ∈ L, x.good) :
    IterM Fence.wide Try.prog 82 #[.pointer (some ⟨bt, 0, none⟩), .pointer (some ⟨bm, 0, none⟩)] (FlEnc X) (FlSt N0 tb bt bm mb F B T u X) (filesL B L) := by
  intro l J E W A hS hJ hY hE h0
  have hct := heap_cell (o := 0) hS.boxT rfl
  have HS := Lib.hid hS
  have HJ := Lib.hid hJ
  have HY := Lib.hid hY
  have HE := Lib.hid hE
  clear hS hJ hY hE
  refine callsIn_of_wp Try.func82 rfl trivial ?_ rfl
  simp only [Try.ntmps82, List.size_toArray, List.length_cons, List.length_nil, Nat.reduceAdd, Nat.reduceSub, Array.replicate_succ, Array.replicate_zero, List.push_toArray, List.append_toArray, List.nil_append, List.cons_append]
  gi_wp2_with (refine load_nodesIn rfl _ rfl tb T u rfl HS.out.tab ?_)
  have HQ := Lib.hid (fun (w : World) (j : Nat) (hj : j < T.length) => run_node w HS.out.tab.2 j hj)
  have hT8 : T.length = 8 := HS.out.tab.2
  have HT8 := Lib.hid hT8
  have HTT := Lib.hid hT
  have HG := Lib.hid hg
  clear hT hg hct hT8
  generalize (nodC T).toArray = ns at *
  gi_loopw [10] (fun i wr => ∃ j : Nat, j ≤ 8 ∧ i = .int .i64 (j : Int) ∧ ∃ A', J (filesL B (L.take j)) wr A' ∧ FlSt N0 tb bt bm mb F B T u X wr A') (fun i _ => 8 - (intOf i).toNat)
  case atStart => exact ⟨0, Nat.zero_le _, rfl, A, h0, HS.out⟩
  case round =>
    obtain ⟨j, hj, rfl, A1, hJr, hS1⟩ := hrel
    by_cases hlt : j < 8
    · have hjT : j < T.length := by have := HT8.out; omega
      have hjL : j < L.length := by rw [← HTT.out]; simpa using hjT
      have q := HQ.out wr j hjT
      have hex : T[j].1 = L[j] := by
        have : (T.map Prod.fst)[j]'(by simpa using hjT) = L[j] := by simp only [HTT.out]
        rw [← this, List.getElem_map]
      obtain ⟨hsl, hsb⟩ := hS1.tv _ (List.getElem_mem hjT)
      rw [hex] at q hsl hsb
      have hgd := HG.out _ (List.getElem_mem hjL)
      have hsn := filesL_snoc B L j hjL
      have hpx := filesL_prefix B L (j + 1)
      obtain ⟨av, cv, ev⟩ := hsl.form
      rw [ev] at q hsl hsb
      clear ev hex
      obtain ⟨x, hx⟩ : ∃ x, L[j] = x := ⟨_, rfl⟩
      rw [hx] at q hsl hsb hgd hsn
      clear hx
      obtain ⟨nm, sz, xs⟩ := x
      dsimp only at q hsl hsb
      have HS1 := Lib.hid hS1
      have HJr := Lib.hid hJr
      have HSL := Lib.hid hsl
      have HSB := Lib.hid hsb
      have HGD := Lib.hid hgd
      have HPX := Lib.hid hpx
      have HSN := Lib.hid hsn
      clear hS1 hJr hsl hsb hgd hpx hsn
      cases hem : nm.toList.isEmpty
      rotate_left
      · have hnm : nm = noName := by have := emp_str nm; rw [hem] at this; exact of_decide_eq_true this.symm
        have HSN2 : RowKit.Hid (filesL B (L.take (j + 1)) = filesL B (L.take j)) := Lib.hid (by rw [HSN.out, if_neg (by simp [named, hnm]), List.append_nil])
        clear hnm
        have hne : (!nm.toList.isEmpty) = false := by rw [hem]; rfl
        gi_wp2
        gi_quiet (fail)
        all_goals
          gi_wp2
          go_roundw
          case rel => exact ⟨j + 1, by omega, by go_num, A1, by rw [HSN2.out]; exact HJ.out _ _ _ _ _ HS1.out HJr.out (Fr.drewN ((Fr.refl _ _).alloc _) _).no (fun k h => .inl h), HS1.out.fr0 (Fr.drewN ((Fr.refl _ _).alloc _) _)⟩
          case measure => simp [intOf]; omega
      · have hnm : nm ≠ noName := by have := emp_str nm; rw [hem] at this; exact of_decide_eq_false this.symm
        have HSN2 : RowKit.Hid (filesL B (L.take (j + 1)) = filesL B (L.take j) ++ [entry B ⟨nm, sz, xs⟩]) := Lib.hid (by rw [HSN.out, if_pos (by simp [named, hnm])])
        obtain ⟨-, f2, f3, f4, f5, -⟩ := HGD.out.facts
        dsimp only at f2 f3 f4 f5
        obtain ⟨N, rfl⟩ := Int.eq_ofNat_of_zero_le f3
        have HCT := Lib.hid (fun w1 (h : Fr No wr w1) => (by
          have := fcontent_calls (HS1.out.mem.fr0 h) nm (N : Int) (.slice av xs.length cv) xs (HSL.out.fr0 h) (fun k e hne hA => HSB.out k e hne (.inl hA)) f5 0 N (by rw [f2, needF]; split <;> omega) (by rw [f2, needF]; split <;> omega)
          rw [Nat.zero_add] at this
          exact callsIn_wide.2 this : CallsIn Fence.wide 0 Try.prog 54 #[.pointer (some ⟨mb, 0, none⟩), .agg #[.string nm, .int .i64 (N : Int), .slice av xs.length cv], .int .i64 0, .int .i64 (N : Int)] w1 _))
        have hFa : Fr No wr (wr.alloc (Obj.cells #[.string nm, .int .i64 (N : Int), .slice av xs.length cv] 80)) := (Fr.refl _ _).alloc _
        have hba := heap_new wr (Obj.cells #[.string nm, .int .i64 (N : Int), .slice av xs.length cv] 80)
        have hbm := heap_cell (o := 0) (hFa.heap HS1.out.boxM (fun h => h)) rfl
        have k0 := heap_cell (o := 0) hba rfl
        have k1 := heap_cell (o := 1) hba rfl
        have k2 := heap_cell (o := 2) hba rfl
        have hne : (!nm.toList.isEmpty) = true := by rw [hem]; rfl
        have HLW : RowKit.Hid (¬ A1 wr.heap.size) := Lib.hid (fun h => Nat.lt_irrefl _ (HS1.out.mem.low _ h))
        have HXM : RowKit.Hid (¬ A1 bm) := Lib.hid (fun h => HS1.out.out _ HS1.out.xm h)
        clear hnm f2 f3 f4 f5 hba
        gi_wp2
        generalize wr.alloc _ = W1 at *
        have HFA := Lib.hid hFa
        clear hFa
        have HY4 := Lib.hid (fun (w4 : World) (A4 : Nat → Prop) (r : Value) (hp4 : Mp W1.drew mb A1 F B w4 A4) (hown4 : w4.ownsRow W1.drew.heap.size 5 1 r N (bys (contF B xs 0 N))) (hout4 : ∀ k, r.ownBlock = some k → ¬ A4 k) => by
          have hF4 : Fr A1 wr w4 := (HFA.out.drew).no.trans hp4.2.1
          exact HY.out (filesL B (L.take j)) (entry B ⟨nm, (N : Int), xs⟩) #[.agg #[.string nm, r]] w4 A4 (by rw [← HSN2.out]; exact HPX.out) (HJ.out _ _ _ _ A4 HS1.out HJr.out hF4 (fun k h => (hp4.2.2 k h).imp id (fun h1 => Nat.le_trans HFA.out.size h1))) ((HS1.out.fr0 HFA.out.drew).mp hp4)
            ⟨r, rfl, by
              have h := ownsRow_base hown4 (Nat.zero_le _)
              simp only [entry, contF_length, Int.toNat_natCast]
              exact h, fun k e h => by
              rcases h with h | h
              · exact hout4 k e h
              · have h1 := HS1.out.low k h
                have h2 := (hown4.lt k e).1
                have h3 := HFA.out.size
                exact Nat.lt_irrefl _ (Nat.lt_of_lt_of_le h1 (Nat.le_trans h3 h2))⟩)
        gi_region_with (first
          | (gi_at_call 54; ((with_reducible refine (HCT.out _ HFA.out.drew).mono ?_); rintro e w4 ⟨r, A4, rfl, hp4, hown4, hout4⟩; obtain ⟨ar, cr, rfl⟩ := (Sl.of_owns hown4).form; obtain ⟨fn, tmps, assign, body, hy, hR⟩ := HY4.out w4 A4 _ hp4 hown4 hout4; have k0' := hp4.2.1.cell k0 HLW.out; have k1' := hp4.2.1.cell k1 HLW.out; have k2' := hp4.2.1.cell k2 HLW.out; have hbm' := hp4.2.1.cell hbm HXM.out; clear hp4 hown4 hout4))
          | (refine hR.mono ?_; intro e W3 h3; obtain ⟨bo, rfl, hd3⟩ := yd_split h3; have HD3 := Lib.hid hd3; clear hd3 h3)
          | fail "arm")
        all_goals
          cases bo
          · gi_wp2
            refine bodyPost_ret (results_none rfl _ _ _) rfl ⟨⟨_, rfl⟩, ?_⟩
            exact (HD3.out.resolve_left (fun h => nomatch h.1)).2
          · have HD4 := Lib.hid ((HD3.out.resolve_right (fun h => nomatch h.1)).2)
            clear HD3
            gi_wp2
            go_roundw
            case rel => exact ⟨j + 1, by omega, by go_num, by rw [HSN2.out]; exact HD4.out⟩
            case measure => simp [intOf]; omega
    · have hj8 : j = 8 := by omega
      have hall : L.take j = L := List.take_of_length_le (by rw [← HTT.out, hj8]; simp [HT8.out])
      have HEE := Lib.hid (HE.out _ _ (by rw [hall] at hJr; exact hJr) hS1)
      clear hJr hS1 hall hj8
      gi_wp2
      refine bodyPost_end (results_none rfl _ _ _) rfl ?_
      exact ⟨⟨_, rfl⟩, HEE.out⟩
end Go.Proofs.Ytoajnmbbgbpbgaa
namespace Go.Proofs.Ytoajnmbbgbpbgaa
set_option linter.unusedVariables false
set_option linter.unusedSimpArgs false
open Go.RowKit Go.Shelf Go.Maps

theorem tfiles_calls (v m : Option Addr) (w : World) :
    Calls Try.prog 44 #[.pointer v, .pointer m] w fun e w' => e = .returned (.func (.func 82) #[] #[.pointer (some ⟨w.heap.size, 0, none⟩), .pointer (some ⟨w.heap.size + 1, 0, none⟩)]) ∧
      w' = (w.alloc (.cells #[.pointer v] 129)).alloc (.cells #[.pointer m] 24) := by
  go_enter Try.func44, Try.ntmps44
  go_wp2
  go_ret
  exact ⟨by simp, rfl⟩

set_option maxHeartbeats 400000 in
set_option maxRecDepth 1000000 in
theorem ffiles_bad {w : World} {mb : Nat} {A : Nat → Prop} {F B : List Int} (h : MemAt w mb A F B) (ht : tableF B = none) :
    Calls Try.prog 15 #[.pointer (some ⟨mb, 0, none⟩)] w (FsP w mb A F B (.tuple #[.slice none 0 0, .int .i64 120])) := by
  have HR := Lib.hid (fread_bad h ht)
  clear h ht
  go_enter Try.func15, Try.ntmps15
  go_wp2_with (first
    | (go_at_call 43; ((with_reducible refine HR.out.mono ?_); rintro e w1 ⟨A1, cs, rfl, hp1, hl, h1⟩))
    | (refine alloc_tab rfl rfl ?_)
    | (refine store_tab rfl _ _ rfl w1.heap.size cs (tabC noT 0) rfl rfl (heap_new _ _) noT_len hl h1 ?_; intro w2 hb2 hF2)
    | fail "arm")
  go_ret2
  exact ⟨A1, rfl, hp1.thenFr (((Fr.refl No w1).alloc _).trans' hF2 (fun i hi e => by omega))⟩

/-- What leaves a row's block leaves the row. -/
theorem ownsRow_fr {W W' : World} {S : Nat → Prop} {base e size n : Nat} {v : Value} {xs : List Value} (h : W.ownsRow base e size v n xs) (hF : Fr S W W') (hn : ∀ k, v.ownBlock = some k → ¬ S k) : W'.ownsRow base e size v n xs := by
  obtain ⟨h1, h2 | ⟨g, cap, cur, rfl, hg, hh, r⟩⟩ := h
  · exact ⟨h1, .inl h2⟩
  · exact ⟨h1, .inr ⟨g, cap, cur, rfl, hg, hF.heap hh (hn g rfl), r⟩⟩
/-- Rows of two types lie in two blocks. -/
theorem rows_apart {W : World} {b1 e1 s1 n1 b2 e2 s2 n2 : Nat} {v1 v2 : Value} {xs1 xs2 : List Value} (h : W.ownsRow b1 e1 s1 v1 n1 xs1) (h' : W.ownsRow b2 e2 s2 v2 n2 xs2) (hne : e1 ≠ e2) (k : Nat) (hk : v1.ownBlock = some k) : v2.ownBlock ≠ some k := by
  obtain ⟨_, ⟨rfl, _⟩ | ⟨g, cap, cur, rfl, hg, hh, _⟩⟩ := h
  · simp [Value.ownBlock] at hk
  · have := not_row hh hne h'
    obtain rfl : g = k := by simpa [Value.ownBlock] using hk
    exact fun e2 => this e2.symm
/-- Two lists, element by element. -/
inductive All2 {α β : Type} (R : α → β → Prop) : List α → List β → Prop
  | nil : All2 R [] []
  | cons {x : α} {y : β} {xs : List α} {ys : List β} : R x y → All2 R xs ys → All2 R (x :: xs) (y :: ys)
theorem All2.len {α β : Type} {R : α → β → Prop} {xs : List α} {ys : List β} (h : All2 R xs ys) : xs.length = ys.length := by
  induction h with
  | nil => rfl
  | cons _ _ ih => simp [ih]
/-- Files as values: each a name and a row of its own, in none of the blocks A. -/
def FilesV (fs : Files) (vs : List (ByteArray × Value)) (W : World) (A : Nat → Prop) : Prop :=
  All2 (fun x p => p.1 = x.1 ∧ W.ownsRow 0 5 1 p.2 x.2.length (bys x.2) ∧ ∀ k, p.2.ownBlock = some k → ¬ A k) fs vs
theorem forall2_imp {α β : Type} {R S : α → β → Prop} {xs : List α} {ys : List β} (h : All2 R xs ys) (hi : ∀ x y, R x y → S x y) : All2 S xs ys := by
  induction h with
  | nil => exact .nil
  | cons h1 _ ih => exact .cons (hi _ _ h1) ih
theorem FilesV.fr {fs : Files} {vs : List (ByteArray × Value)} {W W' : World} {A A' : Nat → Prop} (h : FilesV fs vs W A) (hF : Fr A W W') (hA : ∀ k, A' k → A k ∨ W.heap.size ≤ k) : FilesV fs vs W' A' :=
  forall2_imp h fun x p ⟨h1, h2, h3⟩ => ⟨h1, ownsRow_fr h2 hF h3, fun k e hk => by
    rcases hA k hk with h | h
    · exact h3 k e h
    · have := (h2.lt k e).2; omega⟩
theorem FilesV.grown {fs : Files} {vs : List (ByteArray × Value)} {W W' : World} {A : Nat → Prop} {row : Option Nat} (h : FilesV fs vs W A) (hg : W.grownBy W' row) (hr : ∀ r, row = some r → ∀ v n xs, W.ownsRow 0 5 1 v n xs → v.ownBlock ≠ some r) : FilesV fs vs W' A :=
  forall2_imp h fun x p ⟨h1, h2, h3⟩ => ⟨h1, ownsRow_fr h2 (fr_grown hg) (fun k e hk => hr k hk _ _ _ h2 e), h3⟩
theorem FilesV.snoc {fs : Files} {vs : List (ByteArray × Value)} {W : World} {A : Nat → Prop} (h : FilesV fs vs W A) {x : ByteArray × List Int} {v : Value} (h1 : W.ownsRow 0 5 1 v x.2.length (bys x.2)) (h2 : ∀ k, v.ownBlock = some k → ¬ A k) : FilesV (fs ++ [x]) (vs ++ [(x.1, v)]) W A := by
  induction h with
  | nil => exact .cons ⟨rfl, h1, h2⟩ .nil
  | cons h3 _ ih => exact .cons h3 ih
def fileCells (vs : List (ByteArray × Value)) : List Value := vs.flatMap fun p => [.string p.1, p.2]
theorem fileCells_snoc (vs : List (ByteArray × Value)) (s : ByteArray) (v : Value) : fileCells (vs ++ [(s, v)]) = fileCells vs ++ [.string s, v] := by simp [fileCells]
theorem el_file : Elem Try.prog 30 45 (.agg #[.string ⟨#[]⟩, .slice none 0 0]) 2 40 := ⟨by kernel_rfl, by kernel_rfl, rfl, by decide⟩
end Go.Proofs.Ytoajnmbbgbpbgaa
namespace Go.Proofs.Ytoajnmbbgbpbgaa
set_option linter.unusedVariables false
set_option linter.unusedSimpArgs false
open Go.RowKit Go.Shelf Go.Maps

theorem alloc_tabIn {F : Fence} {n : Nat} {ops : Array Oper} {rest : List Oper} {o : Oper} {a : Act} {w : World} {Q : Exit → Act → World → Prop} (hg : o.guard = none) (ho : o.op = .alloc 83)
    (hK : wpListIn F n Try.prog ops Q rest (a.put o.dst (.pointer (some ⟨w.heap.size, 0, none⟩))) (w.alloc (.cells (tabC noT 0).toArray 83))) : wpListIn F n Try.prog ops Q (o :: rest) a w := by
  have hr : (Instr.alloc 83 true (.tuple #[])).run Try.prog w = .ok (.pointer (some ⟨w.heap.size, 0, none⟩)) (w.alloc (.cells (tabC noT 0).toArray 83)) := by kernel_rfl
  refine wpListIn_plain hg fun K hK' => ?_
  unfold Oper.wpIn
  refine ⟨by simp [Oper.about, ho], ?_⟩
  rw [Oper.semAt_plain F _ _ (by rw [ho]; intro c hc'; cases hc')]
  simp only [execOp, ho, Sem.run_bind, hr, Result.andThen]
  exact hK' _ _ hK
theorem store_tabIn {F : Fence} {n : Nat} {ops : Array Oper} {rest : List Oper} {o : Oper} {a : Act} {w : World} {Q : Exit → Act → World → Prop} (hg : o.guard = none) (x y : Operand) (ho : o.op = .store 83 x y)
    (b : Nat) (cs old : List Value) (hx : a.eval x = .pointer (some ⟨b, 0, none⟩)) (hy : a.eval y = .agg cs.toArray) (hb : w.heap[b]? = some (.cells old.toArray 83 (0, 0))) (hl : old.length = 25) (hc : cs.length = 25) (h1 : ∀ v ∈ cs, v.oneCell' = true)
    (hK : ∀ w', w'.heap[b]? = some (.cells cs.toArray 83 (0, 0)) → Fr (fun k => k = b) w w' → wpListIn F n Try.prog ops Q rest (a.put o.dst undef) w') : wpListIn F n Try.prog ops Q (o :: rest) a w := by
  have hr := run_storeAt_mid (P := Try.prog) w b 0 83 cs.toArray (fun j hj => by
    have hj' : j < old.length := by simpa [hl, hc] using hj
    rw [Nat.zero_add]
    exact ⟨by rw [heap_cell hb (v := old[j]) (by simp [hj'])]; rfl, heap_frozen hb⟩) (by rw [size_tab, List.size_toArray, hc]) (all_oneCell_toArray h1)
  refine wpListIn_plain hg fun K hK' => ?_
  unfold Oper.wpIn
  refine ⟨by simp [Oper.about, ho], ?_⟩
  rw [Oper.semAt_plain F _ _ (by rw [ho]; intro c hc'; cases hc')]
  simp only [execOp, ho, hx, hy, Sem.run_bind, hr, Result.andThen]
  exact hK' _ _ (hK _ (heap_setCells hb cs (by rw [hl, hc])) (fr_setCells _ _ _ _))

/-- The files gathered so far: the slice in the box b6, its elements; the memory's frame from w on. -/
def FlI (w : World) (A0 : Nat → Prop) (b6 n0 : Nat) (pre : Files) (W : World) (A : Nat → Prop) : Prop :=
  ∃ r vs, W.heap[b6]? = some (.cells #[r] 30 (0, 0)) ∧ W.ownsRow n0 45 2 r pre.length (fileCells vs) ∧ (∀ k, r.ownBlock = some k → ¬ A k) ∧ FilesV pre vs W A ∧ Fr A0 w W ∧ Gr w A0 A
theorem FlI.fr {w : World} {A0 : Nat → Prop} {b6 n0 : Nat} {pre : Files} {W W' : World} {A A' : Nat → Prop} (h : FlI w A0 b6 n0 pre W A) (hb : ¬ A b6) (hF : Fr A W W') (hg : Gr W A A') : FlI w A0 b6 n0 pre W' A' := by
  obtain ⟨r, vs, h1, h2, h3, h4, h5, h6⟩ := h
  refine ⟨r, vs, hF.heap h1 hb, ownsRow_fr h2 hF h3, fun k e hk => ?_, h4.fr hF hg, h5.thenG hF h6, h6.trans hg h5.size⟩
  rcases hg k hk with h | h
  · exact h3 k e h
  · have := (h2.lt k e).2; omega
theorem FlI.own {w : World} {A0 : Nat → Prop} {b6 n0 B : Nat} (hB : w.heap.size ≤ B) (A : Nat → Prop) : OwnFrom B (fun pre W => FlI w A0 b6 n0 pre W A) := by
  rintro pre W W' row ⟨r, vs, h1, h2, h3, h4, h5, h6⟩ hg hr
  refine ⟨r, vs, (ownFrom_heap (β := Unit)) () W W' row h1 hg hr, ownsRow_from h2 hg hr, h3, h4.grown hg ?_, h5.grown hg (fun k e hk => ?_), h6⟩
  · intro k e v n xs hv ev
    obtain ⟨_, o, ho, hc⟩ := hr k e
    obtain ⟨_, ⟨rfl, _⟩ | ⟨g, cap, cur, rfl, _, hh, _⟩⟩ := hv
    · simp [Value.ownBlock] at ev
    · obtain rfl : g = k := by simpa [Value.ownBlock] using ev
      rw [hh] at ho; cases ho; cases hc
  · have := (hr k e).1; omega
end Go.Proofs.Ytoajnmbbgbpbgaa
namespace Go.Proofs.Ytoajnmbbgbpbgaa
set_option linter.unusedVariables false
set_option linter.unusedSimpArgs false
open Go.RowKit Go.Shelf Go.Maps
attribute [local go_sem] Oper.semAt_some wide_depth inRound_depth wide_fn inRound_fn

/-- 'append', and whose block the slice then lies in. -/
theorem append_in2 {F : Fence} {n : Nat} {P : Program} {w : World} {ops : Array Oper} {rest : List Oper} {o : Oper} {a : Act} {Q : Exit → Act → World → Prop}
    {t e : TypeId} {z : Value} {size bytes : Nat} (hE : Elem P t e z size bytes)
    (hg : o.guard = none) (s x : Operand) (hop : o.op = Op.call { callee := Callee.builtin Builtin.append, args := #[s, x], argTypes := #[t, t] })
    (base : Nat) (v : Value) (k : Nat) (xs : List Value) (hs : a.eval s = v) (hown : w.ownsRow base e size v k xs) (ad : Addr) (m c : Nat) (news : List Value) (hx : a.eval x = .slice (some ad) m c) (hn : news.length = m * size)
    (hc : ∀ j u, news[j]? = some u → w.cell? (ad.add j) = some u) (h1c : ∀ u ∈ news, u.oneCell' = true) (b1 : k + m ≤ maxLen) (b2 : (k + m) * bytes ≤ 140737488355328) (b3 : base ≤ w.heap.size)
    (hK : ∀ v' w', w'.ownsRow base e size v' (k + m) (xs ++ news) → w.grownBy w' v.ownBlock → (v'.ownBlock = v.ownBlock ∨ v'.ownBlock = some w.heap.size) → wpListIn F n P ops Q rest (a.put o.dst v') w') :
    wpListIn F n P ops Q (o :: rest) a w := by
  obtain ⟨i0, hi, hz0, hz1, hz2⟩ := info_parts hE.info
  exact wpListIn_append_own_at w hg s x t hop base e i0 z size bytes hE.und hi hz0 hz1 hz2 hE.zs hE.pos v k xs hs hown ad m c news hx hn hc h1c b1 b2 b3 (fun v' w' q1 q2 _ q4 => hK v' w' q1 q2 q4)
/-- A row of bytes lies neither in the box nor in the files' slice. -/
theorem u8_apart {W : World} {b6 n0 m : Nat} {r : Value} {cs : List Value} (h1 : W.heap[b6]? = some (.cells #[r] 30 (0, 0))) (h2 : W.ownsRow n0 45 2 r m cs) {k n : Nat} {v : Value} {xs : List Value} (hv : W.ownsRow 0 5 1 v n xs) (e : v.ownBlock = some k) (hk : k = b6 ∨ r.ownBlock = some k) : False := by
  rcases hk with rfl | h
  · exact not_row h1 (by decide) hv e.symm
  · exact rows_apart h2 hv (by decide) k h e
theorem FilesV.fr2 {fs : Files} {vs : List (ByteArray × Value)} {W W' : World} {A : Nat → Prop} {b6 n0 m : Nat} {r : Value} {cs : List Value} (h : FilesV fs vs W A) (hF : Fr (fun k => k = b6 ∨ r.ownBlock = some k) W W') (h1 : W.heap[b6]? = some (.cells #[r] 30 (0, 0))) (h2 : W.ownsRow n0 45 2 r m cs) : FilesV fs vs W' A :=
  forall2_imp h fun x p ⟨h3, h4, h5⟩ => ⟨h3, ownsRow_fr h4 hF (fun k e hk => u8_apart h1 h2 h4 e hk), h5⟩
/-- What Files comes to. -/
def FilesPost (w : World) (mb : Nat) (A : Nat → Prop) (F B : List Int) (fs : Files) (e : Ending) (w' : World) : Prop :=
  ∃ A' r vs, e = .returned (.tuple #[r, .int .i64 0]) ∧ Mp w mb A F B w' A' ∧ w'.ownsRow w.heap.size 45 2 r fs.length (fileCells vs) ∧ (∀ k, r.ownBlock = some k → ¬ A' k) ∧ FilesV fs vs w' A'

set_option maxHeartbeats 2000000 in
set_option maxRecDepth 1000000 in
theorem ffiles_good {w : World} {mb : Nat} {A : Nat → Prop} {F B : List Int} (h : MemAt w mb A F B) {L : List Nd} {u : Nat} (ht : tableF B = some (L, u)) :
    Calls Try.prog 15 #[.pointer (some ⟨mb, 0, none⟩)] w (FilesPost w mb A F B (filesL B L)) := by
  have HR := Lib.hid (fread_good h ht)
  have HL := Lib.hid (tableF_len ht)
  have HG : RowKit.Hid (∀ x ∈ L, x.good) := Lib.hid (((tableF_iff B L u).1 ht).good)
  have HN : RowKit.Hid ((filesL B L).length ≤ 8) := Lib.hid (by rw [filesL, List.length_map, ← HL.out]; exact List.length_filter_le _ _)
  clear h ht
  refine (callsIn_wide (n := 0)).1 ?_
  refine callsIn_of_wp_marks Try.func15 rfl trivial ?_ rfl
  simp only [Try.ntmps15, List.size_toArray, List.length_cons, List.length_nil, Nat.reduceAdd, Nat.reduceSub, Array.replicate_succ, Array.replicate_zero, List.push_toArray, List.append_toArray, List.nil_append, List.cons_append]
  gi_wp2_with (first
    | (gi_at_call 43; ((with_reducible refine (callsIn_wide.2 HR.out).mono ?_); rintro e w1 ⟨A1, T, rfl, hp1, hT, hv1⟩; have HT8 : RowKit.Hid (T.length = 8) := Lib.hid (by have := HL.out; rw [← hT] at this; simpa using this); have HTT := Lib.hid hT; clear hT))
    | (refine alloc_tabIn rfl rfl ?_)
    | (refine store_tabIn rfl _ _ rfl w1.heap.size (tabC T u) (tabC noT 0) rfl rfl (heap_new _ _) noT_len (by rw [tabC_length, HT8.out]) (hv1.one' u) ?_; intro w2 hb2 hF2; have HAS := Lib.hid (has_mk hp1 HT8.out hv1 hb2 hF2))
    | (gi_at_call 44; ((with_reducible refine (callsIn_wide.2 (tfiles_calls _ _ _)).mono ?_); rintro e w' ⟨rfl, rfl⟩))
    | fail "arm")
  refine wpIn_gen fun W0 hW0 => ?_
  have hsz : W0.heap.size = w2.heap.size + 3 := by rw [hW0]; simp
  have hF20 : Fr No w2 W0 := by rw [hW0]; exact (((Fr.refl _ _).alloc _).alloc _).alloc _
  have hb6 : W0.heap[w2.heap.size]? = some (.cells #[.slice none 0 0] 30 (0, 0)) := by rw [hW0]; exact heap_alloc _ (heap_alloc _ (heap_new _ _))
  have hbt : W0.heap[w2.heap.size + 1]? = some (.cells #[.pointer (some ⟨w1.heap.size, 0, none⟩)] 129 (0, 0)) := by rw [hW0]; exact heap_alloc _ (heap_new2 _ _ _)
  have hbm : W0.heap[w2.heap.size + 2]? = some (.cells #[.pointer (some ⟨mb, 0, none⟩)] 24 (0, 0)) := by rw [hW0]; have := heap_new2 (w2.alloc (.cells #[.slice none 0 0] 30)) (.cells #[.pointer (some ⟨w1.heap.size, 0, none⟩)] 129) (.cells #[.pointer (some ⟨mb, 0, none⟩)] 24); rwa [World.size_alloc] at this
  have h12 := heap_lt HAS.out.tb.1
  have hw2 := HAS.out.mp.2.1.size
  clear hW0 hF2
  refine range_mem opens_wide rfl (gf := 82) (lb := #[.pointer (some ⟨w2.heap.size + 1, 0, none⟩), .pointer (some ⟨w2.heap.size + 2, 0, none⟩)]) rfl (enters_of Try.func82 (by kernel_rfl) rfl)
    (files1_iter W0.heap.size w1.heap.size (w2.heap.size + 1) (w2.heap.size + 2) mb F B T u (fun k => k = w1.heap.size ∨ (w2.heap.size ≤ k ∧ k < W0.heap.size + 2)) L HTT.out HG.out) ?hps ?hSF ?hSL (A0 := A1) ?hS0
    (FlI w A w2.heap.size W0.heap.size) (FlI.own (by omega)) ?hIA ?h0 ?hround ?hdone
  case hps => rintro x W A vs ⟨v, rfl, -⟩; rfl
  case hSF => exact fun W W' A S hs hF hk => hs.fr hF (fun k h => by rcases hk k h with rfl | rfl <;> refine ⟨.inl (.inr ⟨by omega, by omega⟩), by omega, by omega, by omega⟩)
  case hSL => exact fun W A hs => ⟨hs.out _ (.inr ⟨by omega, by omega⟩), hs.out _ (.inr ⟨by omega, by omega⟩)⟩
  case hS0 =>
    intro W1 hF' hs'
    have hF := hF20.trans hF'
    refine ⟨HAS.out.mp.1.fr0 hF, HAS.out.tb.fr hF (fun h => h), hF'.heap hbt (fun h => h), hF'.heap hbm (fun h => h), (HAS.out.tv.up.fr0 hF).mono (fun k _ hk => ?_), fun k hX hA => ?_, .inl rfl, .inr ⟨by omega, by omega⟩, .inr ⟨by omega, by omega⟩, fun k hX => ?_⟩
    · rcases hk with h | (h | h) | h
      · exact .inl (.inr (.inl h))
      · exact .inl (.inr (.inr h))
      · exact .inr h.1
      · exact .inr (by omega)
    · rcases hX with rfl | hX
      · exact HAS.out.out hA
      · have := HAS.out.mp.1.low k hA; omega
    · rcases hX with rfl | hX <;> omega
  case hIA => exact fun pre W W' A A' hs hi hf hg => hi.fr (hs.out _ (.inr ⟨Nat.le_refl _, by omega⟩)) hf hg
  case h0 => exact ⟨_, [], hb6, World.ownsRow_nil _ _ _ _, fun k e => by simp [Value.ownBlock] at e, .nil, HAS.out.mp.2.1.trans' hF20 (fun _ _ h => h.elim), HAS.out.mp.2.2⟩
  case hround =>
    rintro l pre x vs W A2 hl ⟨lr, hlr⟩ hpx hI hs ⟨v, rfl, hv, hva⟩
    obtain ⟨av, cv, rfl⟩ := (Sl.of_owns hv).form
    have hpl : pre.length + 1 ≤ 8 := by have := hpx.length_le; have := HN.out; simp at *; omega
    have hlt := heap_lt hlr
    have HI := Lib.hid hI
    have HS := Lib.hid hs
    have HV := Lib.hid hv
    have HVA := Lib.hid hva
    have HSZ := Lib.hid hsz
    clear hI hs hv hva hpx hsz
    gi_wp2
    refine ⟨(KeepsOthers.alloc W _).from _, (FlI.own (by have := HSZ.out; omega) A2).alloc _ HI.out, HS.out.fr0 ((Fr.refl _ _).alloc _), ?_⟩
    intro W2 hg lr2 hlr2 hI2 hs2
    have hb7 : W2.heap[W.heap.size]? = some (.cells #[.string x.1, .slice av x.2.length cv] 45 (0, 0)) := (hg.block _ (by simp) (fun e => by injection e with e; omega)).trans (heap_new W _)
    have e0 := heap_cell (o := 0) hb7 rfl
    have e1 := heap_cell (o := 1) hb7 rfl
    have hge : W0.heap.size ≤ W2.heap.size := by have := hg.size; simp at this; omega
    have HV2 : RowKit.Hid (W2.ownsRow 0 5 1 (.slice av x.2.length cv) x.2.length (bys x.2)) := Lib.hid (ownsRow_from (B := 0) (HV.out.alloc _) hg (fun k e => by cases e; exact ⟨Nat.zero_le _, _, heap_alloc _ hlr, rfl⟩))
    obtain ⟨r2, vs2, h1, h2, h3, h4, h5, h6⟩ := hI2
    have c6 : W2.cell? ⟨w2.heap.size, 0, none⟩ = some r2 := heap_cell (o := 0) h1 rfl
    have HS2 := Lib.hid hs2
    have H3 := Lib.hid h3
    have H4 := Lib.hid h4
    have H5 := Lib.hid h5
    have H6 := Lib.hid h6
    clear hs2 h3 h4 h5 h6 hb7 hg
    gi_wp2_with (gi_at_builtin; refine append_in2 el_file rfl _ _ rfl W0.heap.size r2 _ _ rfl (World.ownsRow.alloc (w := W2) h2 _) ⟨W2.heap.size, 0, none⟩ 1 1 [.string x.1, .slice av x.2.length cv] rfl rfl (cell_two_new _ _ _ _) (by simp [Value.oneCell']) (by unfold maxLen; omega) (by omega) (by simp; omega) ?_; intro v' w3 hown' hgrow hwh; obtain ⟨g', cap', rfl⟩ := ownsRow_succ hown'; obtain ⟨q1, q2, q3, q4, q5, q6⟩ := app_box (B := W0.heap.size) h1 (by decide) h2 hgrow hown')
    have hFS : Fr (fun k => k = w2.heap.size ∨ r2.ownBlock = some k) W2 (w3.setCell ⟨w2.heap.size, 0, none⟩ (.slice (some ⟨g', 0, none⟩) (pre.length + 1) cap')) := (((Fr.refl _ W2).alloc _).grown hgrow (fun j ej _ => .inr ej)).setCell (fun _ => .inl rfl) _
    have hr2 : ∀ k, r2.ownBlock = some k → W0.heap.size ≤ k := fun k e => (h2.lt k e).1
    have hout : ∀ k, (Value.slice (some ⟨g', 0, none⟩) (pre.length + 1) cap').ownBlock = some k → ¬ A2 k := fun k e hA => by
      rcases hwh with h | h
      · exact H3.out k (h.symm.trans e) hA
      · rw [h] at e; injection e with e; have := HS2.out.mem.low k hA; simp at e; omega
    have HSS : RowKit.Hid (∀ k, (k = w2.heap.size ∨ r2.ownBlock = some k) → ¬ A2 k) := Lib.hid (fun k hk => by
      rcases hk with rfl | h
      · exact HS2.out.out _ (.inr ⟨Nat.le_refl _, by have := HSZ.out; omega⟩)
      · exact H3.out k h)
    have hfv : FilesV pre vs2 (w3.setCell ⟨w2.heap.size, 0, none⟩ (.slice (some ⟨g', 0, none⟩) (pre.length + 1) cap')) A2 := H4.out.fr2 hFS h1 h2
    have hxv : (w3.setCell ⟨w2.heap.size, 0, none⟩ (.slice (some ⟨g', 0, none⟩) (pre.length + 1) cap')).ownsRow 0 5 1 (.slice av x.2.length cv) x.2.length (bys x.2) := ownsRow_fr HV2.out hFS (fun k e hk => u8_apart h1 h2 HV2.out e hk)
    refine ⟨A2, HS2.out.fr hFS (fun k hk => ?_), _, vs2 ++ [(x.1, .slice av x.2.length cv)], q3, by rw [List.length_append, fileCells_snoc]; exact q4, hout, hfv.snoc hxv (fun k e hA => HVA.out k e (.inl hA)), H5.out.trans' hFS (fun i hi e => ?_), H6.out⟩
    · have := HSZ.out
      rcases hk with rfl | h
      · exact ⟨.inl (.inr ⟨Nat.le_refl _, by omega⟩), by omega, by omega, by omega⟩
      · have := hr2 k h
        exact ⟨.inr ⟨by omega, H3.out k h⟩, by omega, by omega, by omega⟩
    · have := HSZ.out
      rcases e with rfl | e
      · omega
      · have := hr2 i e; omega
  case hdone =>
    rintro D W A2 rfl ⟨⟨r, vs, h1, h2, h3, h4, h5, h6⟩, hs⟩ hd
    have c3 : W.cell? ⟨w2.heap.size, 0, none⟩ = some r := heap_cell (o := 0) h1 rfl
    have HSZ := Lib.hid hsz
    clear hsz
    gi_wp2
    refine ⟨by simp, .inl ⟨_, _, rfl, run_takeDeferred hd, ?_⟩⟩
    refine ⟨.tuple #[r, .int .i64 0], by simp [results, Try.f15, go_sem], ?_⟩
    have hg := grownBy_putObj' W W0.heap.size (.deferred none)
    refine ⟨A2, r, vs, rfl, ⟨hs.mem.fr (fr_grown hg) (fun k e => ?_), h5.putObj (by have := HSZ.out; omega) _, h6⟩, ownsRow_base (ownsRow_from (B := 0) h2 hg (fun k e => by cases e; exact ⟨Nat.zero_le _, _, hd, rfl⟩)) (by have := HSZ.out; omega), h3, h4.grown hg (fun k e v n xs hv ev => ?_)⟩
    · cases e; exact hs.out _ (.inr ⟨by have := HSZ.out; omega, by omega⟩)
    · cases e
      obtain ⟨_, ⟨rfl, _⟩ | ⟨g, cap, cur, rfl, _, hh, _⟩⟩ := hv
      · simp [Value.ownBlock] at ev
      · obtain rfl : g = W0.heap.size := by simpa [Value.ownBlock] using ev
        rw [hh] at hd; cases hd
end Go.Proofs.Ytoajnmbbgbpbgaa
namespace Go.Proofs.Ytoajnmbbgbpbgaa
open Go.RowKit Go.Shelf Go.Maps

theorem ffiles_calls {w : World} {mb : Nat} {A : Nat → Prop} {F B : List Int} (h : MemAt w mb A F B) :
    Calls Try.prog 15 #[.pointer (some ⟨mb, 0, none⟩)] w fun e w' => ∃ A' r vs, e = .returned (.tuple #[r, .int .i64 (filesR B).2]) ∧ Mp w mb A F B w' A' ∧
      w'.ownsRow w.heap.size 45 2 r (filesR B).1.length (fileCells vs) ∧ (∀ k, r.ownBlock = some k → ¬ A' k) ∧ FilesV (filesR B).1 vs w' A' := by
  cases ht : tableF B with
  | none =>
    have hr : filesR B = ([], 120) := by unfold filesR; generalize tableF B = t at *; subst ht; rfl
    rw [hr]
    refine (ffiles_bad h ht).mono ?_
    rintro e w' ⟨A', rfl, hp⟩
    exact ⟨A', _, [], rfl, hp, World.ownsRow_nil _ _ _ _, fun k e => by simp [Value.ownBlock] at e, .nil⟩
  | some p =>
    obtain ⟨L, u⟩ := p
    have hr : filesR B = (filesL B L, 0) := by unfold filesR; generalize tableF B = t at *; subst ht; rfl
    rw [hr]
    refine (ffiles_good h ht).mono ?_
    rintro e w' ⟨A', r, vs, rfl, hp, h1, h2, h3⟩
    exact ⟨A', r, vs, rfl, hp, h1, h2, h3⟩
end Go.Proofs.Ytoajnmbbgbpbgaa
namespace Go.Proofs.Ytoajnmbbgbpbgaa
set_option linter.unusedVariables false
set_option linter.unusedSimpArgs false
open Go.RowKit Go.Shelf Go.Maps

theorem fileCells_len (vs : List (ByteArray × Value)) : (fileCells vs).length = 2 * vs.length := by
  induction vs with
  | nil => rfl
  | cons p vs ih => simp only [fileCells, List.flatMap_cons, List.length_append, List.length_cons, List.length_nil] at *; omega
theorem fileCells_get (vs : List (ByteArray × Value)) (j : Nat) (hj : j < vs.length) : (fileCells vs)[2 * j]? = some (.string vs[j].1) := by
  induction vs generalizing j with
  | nil => simp at hj
  | cons p vs ih =>
    cases j with
    | zero => rfl
    | succ j =>
      have := ih j (by simpa using hj)
      rw [show 2 * (j + 1) = 2 * j + 1 + 1 by omega]
      simpa [fileCells] using this

set_option maxHeartbeats 400000 in
set_option maxRecDepth 1000000 in
theorem lfind_calls (v : Value) (vs : List (ByteArray × Value)) (s : ByteArray) (w : World) (hlen : vs.length ≤ 100) (hv : Sl w v vs.length (fileCells vs)) :
    Calls Try.prog 18 #[v, .string s] w fun e w' => ∃ k : Int, e = .returned (.int .i64 k) ∧ Fr No w w' ∧ ((k = -1 ∧ ∀ p ∈ vs, p.1 ≠ s) ∨ ∃ j : Nat, k = j ∧ ∃ hj : j < vs.length, vs[j].1 = s) := by
  obtain ⟨av, cap, rfl⟩ := hv.form
  go_enter Try.func18, Try.ntmps18
  have HV := Lib.hid hv
  have HLEN := Lib.hid hlen
  clear hv hlen
  go_wp2
  go_loopw [8] (fun i wr => ∃ j : Nat, j ≤ vs.length ∧ i = .int .i64 j ∧ Fr No w wr ∧ ∀ k (hk : k < vs.length), k < j → vs[k].1 ≠ s) (fun i _ => vs.length - (intOf i).toNat)
  case atStart => exact ⟨0, Nat.zero_le _, rfl, Fr.refl _ _, fun k _ h => absurd h (Nat.not_lt_zero k)⟩
  case round =>
    obtain ⟨j, hj, rfl, hF, hne⟩ := hrel
    have HN := Lib.hid hne
    clear hne
    by_cases hlt : j < vs.length
    · obtain ⟨vb, off, rfl, -, hc⟩ := (HV.out.fr0 hF).at (by intro e; have := fileCells_len vs; rw [e] at this; simp at this; omega)
      have HLT := Lib.hid hlt
      obtain ⟨nm, hnm⟩ : ∃ nm, vs[j].1 = nm := ⟨_, rfl⟩
      have c1 : wr.cell? ⟨vb, off + 2 * j, none⟩ = some (.string nm) := by rw [← hnm]; exact hc _ _ (fileCells_get vs j hlt)
      have c2 : wr.cell? ⟨vb, off + j * 2, none⟩ = some (.string nm) := by rw [Nat.mul_comm]; exact c1
      have qe := eq_str nm s
      have HNM := Lib.hid hnm
      clear hnm hc
      have h99 := HLEN.out
      by_cases hs : nm = s
      · rw [decide_eq_true hs] at qe
        have HS := Lib.hid hs
        clear hs
        go_wp2
        go_ret
        exact ⟨j, rfl, hF, .inr ⟨j, rfl, HLT.out, HNM.out.trans HS.out⟩⟩
      · rw [decide_eq_false hs] at qe
        have HS := Lib.hid hs
        clear hs
        go_wp2
        go_roundw
        case rel =>
          refine ⟨j + 1, by omega, by go_num, hF, fun k hk hkj => ?_⟩
          by_cases e : k = j
          · subst e; exact fun h => HS.out (HNM.out.symm.trans h)
          · exact HN.out k hk (by omega)
        case measure => simp [intOf]; omega
    · go_wp2
      go_ret
      exact ⟨-1, rfl, hF, .inl ⟨rfl, fun p hp => by obtain ⟨i, hi, rfl⟩ := List.mem_iff_getElem.1 hp; exact HN.out i hi (by omega)⟩⟩
end Go.Proofs.Ytoajnmbbgbpbgaa
namespace Go.Proofs.Ytoajnmbbgbpbgaa
set_option linter.unusedVariables false
set_option linter.unusedSimpArgs false
open Go.RowKit Go.Shelf Go.Maps

def aName : ByteArray := ⟨#[97]⟩
theorem nameF_a : nameF aName = true := by decide +kernel
theorem aName_ne : aName ≠ noName := nameF_ne nameF_a

theorem findI_rep (s : ByteArray) (hs : s ≠ noName) : findI (List.replicate 8 Nd.free) s = -1 :=
  findI_no (fun k hk h => by rw [List.getElem_replicate] at h; exact hs h.symm)
theorem findI_rep0 : findI (List.replicate 8 Nd.free) noName = 0 := rfl
/-- A name laid in a fresh region. -/
theorem create_fresh {F : List Int} (hF : F.length = 8192) {s : ByteArray} (hs : nameF s = true) :
    ∃ B1, createR (formatF F) s = (B1, 0, 0) ∧ Rel [(s, [])] B1 ((List.replicate 8 Nd.free).set 0 ⟨s, 0, []⟩) 0 := by
  have ht := format_tab F hF
  have hB : (formatF F).length = 8192 := by rw [formatF, layF_length, layF_length, hF]
  have hT := (tableF_iff _ _ _).2 ht
  refine ⟨layT (formatF F) 0 ((List.replicate 8 Nd.free).set 0 ⟨s, 0, []⟩) 0, ?_, by rw [layT_length]; exact hB, ?_, ?_⟩
  · rw [createR_some hT, if_neg (by simp [hs]), if_neg (by rw [findI_rep s (nameF_ne hs)]; decide), if_neg (by rw [findI_rep0]; decide), findI_rep0]
    rfl
  · exact create_tab hB ht (n := 0) (by simp) (by rw [List.getElem_replicate]; rfl) hs (fun x hx h => by
      rw [List.eq_of_mem_replicate hx] at h; exact nameF_ne hs h.symm)
  · have hn : named (⟨s, 0, []⟩ : Nd) = true := by simp [named, nameF_ne hs]
    have hf : named Nd.free = false := by simp [named, Nd.free]
    have e : filesL (layT (formatF F) 0 ((List.replicate 8 Nd.free).set 0 ⟨s, 0, []⟩) 0) ((List.replicate 8 Nd.free).set 0 ⟨s, 0, []⟩) = [(s, [])] := by
      rw [show (List.replicate 8 Nd.free).set 0 ⟨s, 0, []⟩ = ⟨s, 0, []⟩ :: List.replicate 7 Nd.free from rfl, filesL, List.filter_cons_of_pos hn]
      rw [List.filter_eq_nil_iff.2 (fun x hx => by rw [List.eq_of_mem_replicate hx, hf]; decide)]
      rfl
    rw [e]
/-- Bytes written into a file that was just made. -/
theorem write_fresh {B1 : List Int} {s : ByteArray} {L : List Nd} {u : Nat} (hr : Rel [(s, [])] B1 L u) (hn : 0 < L.length) (h1 : L[0].name ≠ noName) (h2 : (s, []) = entry B1 L[0]) (z : List Int) (hz : (needF z.length).toNat ≤ 23) :
    (writeR B1 0 0 z).2 = 0 ∧ ∃ L' u', Rel [(s, z)] (writeR B1 0 0 z).1 L' u' := by
  have hw := (map_write hr (k := 0) (n := 0) (by simp) hn h1 h2 z).1
  have e1 : ([(s, [])] : Files).set 0 ((([(s, [])] : Files)[0]).1, (([(s, [])] : Files)[0]).2 ++ z) = [(s, z)] := rfl
  have e2 : ((((([(s, [])] : Files)[0]).2.length : Nat)) : Int) = 0 := rfl
  rw [e1, e2] at hw
  exact hw (by simpa [sumF] using hz)
theorem awake12_pure {F : List Int} (hF : F.length = 8192) : ∃ B1 B2, createR (formatF F) aName = (B1, 0, 0) ∧ writeR B1 0 0 (zs 70) = (B2, 0) ∧ filesR B2 = ([(aName, zs 70)], 0) ∧ checkE B2 = 0 := by
  obtain ⟨B1, h1, hr⟩ := create_fresh hF nameF_a
  have hz : (needF (zs 70).length).toNat ≤ 23 := by rw [zs_length]; decide
  generalize zs 70 = z at *
  obtain ⟨e0, L', u', hr'⟩ := write_fresh hr (by simp) (by simp [aName_ne]) (by simp [entry, contF]) z hz
  obtain ⟨q, hq⟩ : ∃ q, writeR B1 0 0 z = q := ⟨_, rfl⟩
  rw [hq] at e0 hr'
  obtain ⟨B2, e⟩ := q
  dsimp only at e0 hr'
  refine ⟨B1, B2, h1, by rw [hq, e0], ?_, ?_⟩
  · have h2 := hr'.2.2
    rw [filesR_tab' hr'.2.1]
    have e : filesL B2 L' = [(aName, z)] := List.perm_singleton.1 (h2.symm)
    rw [e]
  · exact checkE_some ((tableF_iff _ _ _).2 hr'.2.1)
end Go.Proofs.Ytoajnmbbgbpbgaa
namespace Go.Proofs.Ytoajnmbbgbpbgaa
set_option linter.unusedVariables false
set_option linter.unusedSimpArgs false
open Go.RowKit Go.Shelf Go.Maps

theorem one_file {w : World} {base : Nat} {r : Value} {s : ByteArray} {l : List Int} {vs : List (ByteArray × Value)} {A : Nat → Prop} (h1 : w.ownsRow base 45 2 r [(s, l)].length (fileCells vs)) (h2 : FilesV [(s, l)] vs w A) :
    ∃ g off cap av cv, r = .slice (some ⟨g, off, none⟩) 1 cap ∧ w.cell? ⟨g, off, none⟩ = some (.string s) ∧ w.cell? ⟨g, off + 1, none⟩ = some (.slice av l.length cv) := by
  cases h2 with
  | cons hx hr =>
    cases hr
    rename_i p
    obtain ⟨e1, hv, -⟩ := hx
    obtain ⟨av, cv, hvf⟩ := (Sl.of_owns hv).form
    have hs := Sl.of_owns h1
    obtain ⟨a, cap, rfl⟩ := hs.form
    obtain ⟨g, off, rfl, -, hc⟩ := hs.at (by simp [fileCells])
    refine ⟨g, off, cap, av, cv, rfl, ?_, ?_⟩
    · have := hc 0 (.string p.1) (by simp [fileCells])
      rw [e1] at this; simpa using this
    · have := hc 1 p.2 (by simp [fileCells])
      rw [hvf] at this; exact this

set_option maxHeartbeats 1000000 in
set_option maxRecDepth 1000000 in
theorem awake12_calls (w : World) : Calls Try.prog 10 #[] w fun e w' => e = .returned (.bool true) ∧ Fr No w w' := by
  have HFl := Lib.hid (flat_calls (.slice none 0 0) [] w (by simp) (Sl.nil w))
  have hlF := flatF_length []
  generalize flatF [] = F at *
  obtain ⟨B1, B2, h1, h2, h3, h4⟩ := awake12_pure hlF
  have C0 := Lib.hid (fun (w1 : World) (mb : Nat) (A : Nat → Prop) (h : MemAt w1 mb A F F) => fformat_calls h)
  generalize formatF F = B0 at *
  have C1 := Lib.hid (fun (w1 : World) (mb : Nat) (A : Nat → Prop) (h : MemAt w1 mb A F B0) => (by have := fcreate_calls h aName (by decide); rw [h1] at this; exact this :
    Calls Try.prog 20 #[.pointer (some ⟨mb, 0, none⟩), .string ⟨#[97]⟩] w1 (FsP w1 mb A F B1 (.tuple #[.int .i64 0, .int .i64 0]))))
  have C2 := Lib.hid (fun (w1 : World) (mb b : Nat) (A : Nat → Prop) (h : MemAt w1 mb A F B1) (hb : ¬ A b) (hr : Row w1 b 5 (zs 70)) => (by
      have hz : (zs 70).length = 70 := zs_length 70
      have hsl := hr.sl
      have := fwrite_calls h 0 0 (.slice (some ⟨b, 0, none⟩) (zs 70).length (zs 70).length) (zs 70) (by omega) hsl (fun k e _ => by cases e; exact hb) (zs_range 70) (by rw [hz]; omega)
      rw [h2, hz] at this; exact this :
    Calls Try.prog 24 #[.pointer (some ⟨mb, 0, none⟩), .int .i64 0, .int .i64 0, .slice (some ⟨b, 0, none⟩) 70 70] w1 (FsP w1 mb A F B2 (.int .i64 0))))
  have C3 := Lib.hid (fun (w1 : World) (mb : Nat) (A : Nat → Prop) (h : MemAt w1 mb A F B2) => (by have := ffiles_calls h; rw [h3] at this; exact this :
    Calls Try.prog 15 #[.pointer (some ⟨mb, 0, none⟩)] w1 fun e w' => ∃ A' r vs, e = .returned (.tuple #[r, .int .i64 0]) ∧ Mp w1 mb A F B2 w' A' ∧
      w'.ownsRow w1.heap.size 45 2 r [(aName, zs 70)].length (fileCells vs) ∧ (∀ k, r.ownBlock = some k → ¬ A' k) ∧ FilesV [(aName, zs 70)] vs w' A'))
  have C4 := Lib.hid (fun (w1 : World) (mb : Nat) (A : Nat → Prop) (h : MemAt w1 mb A F B2) => (by have := fcheck_calls h; rw [h4] at this; exact this :
    Calls Try.prog 28 #[.pointer (some ⟨mb, 0, none⟩)] w1 (FsP w1 mb A F B2 (.int .i64 0))))
  have hmk : ∀ w : World, (Instr.makeSlice 22 (.int .i64 70) (.int .i64 70)).run Try.prog w = .ok (.slice (some ⟨w.heap.size, 0, none⟩) 70 70) (w.alloc (.cells (bys (zs 70)).toArray 5)) := fun w => mk_bytes w 70 (by omega)
  have HZ := Lib.hid (zs_length 70)
  generalize zs 70 = z at *
  clear h1 h2 h3 h4 hlF
  go_enter Try.func10, Try.ntmps10
  go_wp2_with fail
  refine HFl.out.mono ?_
  rintro e w1 ⟨mb, A1, rfl, hM1, hF1, hA1⟩
  go_wp2_with fail
  refine (C0.out _ _ _ hM1).mono ?_
  rintro e w2 ⟨A2, rfl, hp2⟩
  obtain ⟨hF2, hA2⟩ := hp2.step hF1 hA1
  go_wp2_with fail
  refine (C1.out _ _ _ hp2.1).mono ?_
  rintro e w3 ⟨A3, rfl, hp3⟩
  obtain ⟨hF3, hA3⟩ := hp3.step hF2 hA2
  have HM3 : RowKit.Hid (MemAt w3 mb A3 F B1) := Lib.hid hp3.1
  clear hM1 hp2 hp3
  go_wp2_with fail
  refine (C2.out _ _ _ _ (HM3.out.fr0 ((Fr.refl No _).alloc _)) (fun h => Nat.lt_irrefl _ (HM3.out.low _ h)) (Row.new _ _ _)).mono ?_
  rintro e w4 ⟨A4, rfl, hp4⟩
  obtain ⟨hF4, hA4⟩ := hp4.step (hF3.alloc _) hA3
  have HM4 : RowKit.Hid (MemAt w4 mb A4 F B2) := Lib.hid hp4.1
  clear hp4
  go_wp2_with fail
  refine (C3.out _ _ _ HM4.out).mono ?_
  rintro e w5 ⟨A5, r, vs, rfl, hp5, hr5, -, hv5⟩
  obtain ⟨hF5, hA5⟩ := hp5.step hF4 hA4
  obtain ⟨g, off, cap, av, cv, rfl, c0, c1⟩ := one_file hr5 hv5
  rw [HZ.out] at c1
  have HM5 : RowKit.Hid (MemAt w5 mb A5 F B2) := Lib.hid hp5.1
  clear hp5 hr5 hv5
  have qn : (aName.toList == [97]) = true := by
    have h1 := eq_str aName aName
    have h2 : aName.toList = [97] := by simp [aName]
    rw [h2]; rfl
  go_wp2_with (go_at_call 28; ((with_reducible refine (C4.out _ _ _ HM5.out).mono ?_); rintro e w6 ⟨A6, rfl, hp6⟩))
  obtain ⟨hF6, hA6⟩ := hp6.step hF5 hA5
  go_ret
  exact ⟨rfl, hF6⟩
end Go.Proofs.Ytoajnmbbgbpbgaa
