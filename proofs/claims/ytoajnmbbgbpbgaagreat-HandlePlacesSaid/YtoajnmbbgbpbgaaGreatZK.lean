/-
  Chapter 12: the files, one by one.
-/
import Derived.Test.YtoajnmbbgbpbgaaGreatZJ
import Derived.Test.YtoajnmbbgbpbgaaGreatZF
import Derived.Sort.QuietIn
import Derived.Stop.RegionWithIn
import Derived.Maps.OwnIn
import Derived.Test.YtoajnmbbgbpbgaaGreatZH
namespace Go.Proofs.YtoajnmbbgbpbgaaGreat
set_option linter.unusedVariables false
set_option linter.unusedSimpArgs false
open Go.RowKit Go.Shelf Go.Maps
attribute [local go_sem] Oper.semAt_some wide_depth inRound_depth wide_fn inRound_fn

/-- The memory, the table in block tb, the iterator's boxes; X: blocks that are none of the memory's. -/
structure FlSt (N tb bt bm mb : Nat) (F B : List Int) (T : List TE) (u : Nat) (X : Nat → Prop) (W : World) (A : Nat → Prop) : Prop where
  mem : MemAt W mb A F B
  tab : TbAt W tb T u
  boxT : W.heap[bt]? = some (.cells #[.pointer (some ⟨tb, 0, none⟩)] 135 (0, 0))
  boxM : W.heap[bm]? = some (.cells #[.pointer (some ⟨mb, 0, none⟩)] 26 (0, 0))
  tv : TV (fun k => A k ∨ X k ∨ N ≤ k) W T
  out : ∀ k, X k → ¬ A k
  xt : X tb
  xb : X bt
  xm : X bm
  low : ∀ k, X k → k < W.heap.size
theorem FlSt.fr {N tb bt bm mb : Nat} {F B : List Int} {T : List TE} {u : Nat} {X S A : Nat → Prop} {W W' : World} (h : FlSt N tb bt bm mb F B T u X W A) (hF : Fr S W W') (hS : ∀ k, S k → (X k ∨ (N ≤ k ∧ ¬ A k)) ∧ k ≠ tb ∧ k ≠ bt ∧ k ≠ bm) : FlSt N tb bt bm mb F B T u X W' A :=
  ⟨h.mem.fr hF (fun k hk => (hS k hk).1.elim (h.out k) And.right), h.tab.fr hF (fun hk => (hS _ hk).2.1 rfl), hF.heap h.boxT (fun hk => (hS _ hk).2.2.1 rfl), hF.heap h.boxM (fun hk => (hS _ hk).2.2.2 rfl),
    h.tv.fr hF (fun k _ hk => .inr ((hS k hk).1.imp id And.left)), h.out, h.xt, h.xb, h.xm, fun k hk => Nat.lt_of_lt_of_le (h.low k hk) hF.size⟩
theorem FlSt.fr0 {N tb bt bm mb : Nat} {F B : List Int} {T : List TE} {u : Nat} {X A : Nat → Prop} {W W' : World} (h : FlSt N tb bt bm mb F B T u X W A) (hF : Fr No W W') : FlSt N tb bt bm mb F B T u X W' A := h.fr hF (fun _ h => h.elim)
theorem FlSt.mp {N tb bt bm mb : Nat} {F B : List Int} {T : List TE} {u : Nat} {X A A' : Nat → Prop} {W W' : World} (h : FlSt N tb bt bm mb F B T u X W A) (hp : Mp W mb A F B W' A') : FlSt N tb bt bm mb F B T u X W' A' where
  mem := hp.1
  tab := h.tab.fr hp.2.1 (h.out _ h.xt)
  boxT := hp.2.1.heap h.boxT (h.out _ h.xb)
  boxM := hp.2.1.heap h.boxM (h.out _ h.xm)
  tv := (h.tv.up.fr hp.2.1 (fun k _ hk => .inl (.inl hk))).mono (fun k _ hk => by
    rcases hk with hk | hk
    · rcases hp.2.2 k hk with h1 | h1
      · exact .inl (.inl h1)
      · exact .inr h1
    · exact .inl (.inr hk))
  out := fun k hX hA => by
    rcases hp.2.2 k hA with h1 | h1
    · exact h.out k hX h1
    · have := h.low k hX; omega
  xt := h.xt
  xb := h.xb
  xm := h.xm
  low := fun k hk => Nat.lt_of_lt_of_le (h.low k hk) hp.2.1.size
/-- How a file is handed on. -/
def FlEnc (X : Nat → Prop) (x : ByteArray × List Int) (W : World) (A : Nat → Prop) (vs : Array Value) : Prop :=
  ∃ v, vs = #[.agg #[.string x.1, v]] ∧ W.ownsRow 0 5 1 v x.2.length (bys x.2) ∧ ∀ k, v.ownBlock = some k → ¬ (A k ∨ X k)
theorem filesL_snoc (B : List Int) (L : List Nd) (j : Nat) (hj : j < L.length) : filesL B (L.take (j + 1)) = filesL B (L.take j) ++ (if named L[j] = true then [entry B L[j]] else []) := by
  rw [filesL, filesL, List.take_succ_eq_append_getElem hj, List.filter_append, List.map_append]
  congr 1
  by_cases h : named L[j] = true
  · rw [if_pos h, List.filter_cons_of_pos h]; rfl
  · rw [if_neg h, List.filter_cons_of_neg h]; rfl
theorem filesL_prefix (B : List Int) (L : List Nd) (j : Nat) : filesL B (L.take j) <+: filesL B L := by
  conv => rhs; rw [← List.take_append_drop j L]
  rw [filesL, filesL, List.filter_append, List.map_append]
  exact List.prefix_append _ _
theorem run_nodes {w : World} {b : Nat} {T : List TE} {u : Nat} (h : TbAt w b T u) : (Instr.loadAt 96 (.pointer (some ⟨b, 0, none⟩))).run Tryz.prog w = .ok (.agg (nodC T).toArray) w := by
  refine run_loadAt_mid (P := Tryz.prog) w b 0 _ (nodC T) _ (fun j v hj => ?_) Tryz.underlying96 rfl (by rw [size_nodes, nodC_length, h.2])
  have hl : j < (nodC T).length := (List.getElem?_eq_some_iff.1 hj).1
  rw [Nat.zero_add]
  exact heap_cell h.1 (by rw [tabC]; simpa [List.getElem?_append_left hl] using hj)
theorem load_nodesIn {F : Fence} {n : Nat} {ops : Array Oper} {rest : List Oper} {o : Oper} {a : Act} {w : World} {Q : Exit → Act → World → Prop} (hg : o.guard = none) (x : Operand) (ho : o.op = .load 96 x)
    (b : Nat) (T : List TE) (u : Nat) (hx : a.eval x = .pointer (some ⟨b, 0, none⟩)) (h : TbAt w b T u)
    (hK : wpListIn F n Tryz.prog ops Q rest (a.put o.dst (.agg (nodC T).toArray)) w) : wpListIn F n Tryz.prog ops Q (o :: rest) a w := by
  refine wpListIn_plain hg fun K hK' => ?_
  have hl : (Instr.loadAt 96 (.pointer (some ⟨b, 0, none⟩))).run Tryz.prog w = .ok (.agg (nodC T).toArray) w := run_nodes h
  unfold Oper.wpIn
  refine ⟨by simp [Oper.about, ho], ?_⟩
  rw [Oper.semAt_plain F _ _ (by rw [ho]; intro c hc'; cases hc')]
  simp only [execOp, ho, hx, Sem.run_bind, hl, Result.andThen]
  exact hK' _ _ hK

theorem yd_split {e : Ending} {a c : Prop} (h : (e = .returned (.bool true) ∧ a) ∨ (e = .returned (.bool false) ∧ c)) : ∃ bo : Bool, e = .returned (.bool bo) ∧ ((bo = true ∧ a) ∨ (bo = false ∧ c)) := by
  rcases h with ⟨rfl, h⟩ | ⟨rfl, h⟩
  · exact ⟨true, rfl, .inl ⟨rfl, h⟩⟩
  · exact ⟨false, rfl, .inr ⟨rfl, h⟩⟩
end Go.Proofs.YtoajnmbbgbpbgaaGreat
namespace Go.Proofs.YtoajnmbbgbpbgaaGreat
set_option linter.unusedVariables false
set_option linter.unusedSimpArgs false
open Go.RowKit Go.Shelf Go.Maps

/-- What leaves a row's block leaves the row. -/
theorem ownsRow_fr {W W' : World} {S : Nat → Prop} {base e size n : Nat} {v : Value} {xs : List Value} (h : W.ownsRow base e size v n xs) (hF : Fr S W W') (hn : ∀ k, v.ownBlock = some k → ¬ S k) : W'.ownsRow base e size v n xs := by
  obtain ⟨h1, h2 | ⟨g, cap, cur, rfl, hg, hh, r⟩⟩ := h
  · exact ⟨h1, .inl h2⟩
  · exact ⟨h1, .inr ⟨g, cap, cur, rfl, hg, hF.heap hh (hn g rfl), r⟩⟩
/-- Rows of two types lie in two blocks. -/
theorem rows_apart {W : World} {b1 e1 s1 n1 b2 e2 s2 n2 : Nat} {v1 v2 : Value} {xs1 xs2 : List Value} (h : W.ownsRow b1 e1 s1 v1 n1 xs1) (h' : W.ownsRow b2 e2 s2 v2 n2 xs2) (hne : e1 ≠ e2) (k : Nat) (hk : v1.ownBlock = some k) : v2.ownBlock ≠ some k := by
  obtain ⟨_, ⟨rfl, _⟩ | ⟨g, cap, cur, rfl, hg, hh, _⟩⟩ := h
  · simp [Value.ownBlock] at hk
  · have := not_row hh hne h'
    obtain rfl : g = k := by simpa [Value.ownBlock] using hk
    exact fun e2 => this e2.symm
/-- Two lists, element by element. -/
inductive All2 {α β : Type} (R : α → β → Prop) : List α → List β → Prop
  | nil : All2 R [] []
  | cons {x : α} {y : β} {xs : List α} {ys : List β} : R x y → All2 R xs ys → All2 R (x :: xs) (y :: ys)
theorem All2.len {α β : Type} {R : α → β → Prop} {xs : List α} {ys : List β} (h : All2 R xs ys) : xs.length = ys.length := by
  induction h with
  | nil => rfl
  | cons _ _ ih => simp [ih]
/-- Files as values: each a name and a row of its own, in none of the blocks A. -/
def FilesV (fs : Files) (vs : List (ByteArray × Value)) (W : World) (A : Nat → Prop) : Prop :=
  All2 (fun x p => p.1 = x.1 ∧ W.ownsRow 0 5 1 p.2 x.2.length (bys x.2) ∧ ∀ k, p.2.ownBlock = some k → ¬ A k) fs vs
theorem forall2_imp {α β : Type} {R S : α → β → Prop} {xs : List α} {ys : List β} (h : All2 R xs ys) (hi : ∀ x y, R x y → S x y) : All2 S xs ys := by
  induction h with
  | nil => exact .nil
  | cons h1 _ ih => exact .cons (hi _ _ h1) ih
theorem FilesV.fr {fs : Files} {vs : List (ByteArray × Value)} {W W' : World} {A A' : Nat → Prop} (h : FilesV fs vs W A) (hF : Fr A W W') (hA : ∀ k, A' k → A k ∨ W.heap.size ≤ k) : FilesV fs vs W' A' :=
  forall2_imp h fun x p ⟨h1, h2, h3⟩ => ⟨h1, ownsRow_fr h2 hF h3, fun k e hk => by
    rcases hA k hk with h | h
    · exact h3 k e h
    · have := (h2.lt k e).2; omega⟩
theorem FilesV.grown {fs : Files} {vs : List (ByteArray × Value)} {W W' : World} {A : Nat → Prop} {row : Option Nat} (h : FilesV fs vs W A) (hg : W.grownBy W' row) (hr : ∀ r, row = some r → ∀ v n xs, W.ownsRow 0 5 1 v n xs → v.ownBlock ≠ some r) : FilesV fs vs W' A :=
  forall2_imp h fun x p ⟨h1, h2, h3⟩ => ⟨h1, ownsRow_fr h2 (fr_grown hg) (fun k e hk => hr k hk _ _ _ h2 e), h3⟩
theorem FilesV.snoc {fs : Files} {vs : List (ByteArray × Value)} {W : World} {A : Nat → Prop} (h : FilesV fs vs W A) {x : ByteArray × List Int} {v : Value} (h1 : W.ownsRow 0 5 1 v x.2.length (bys x.2)) (h2 : ∀ k, v.ownBlock = some k → ¬ A k) : FilesV (fs ++ [x]) (vs ++ [(x.1, v)]) W A := by
  induction h with
  | nil => exact .cons ⟨rfl, h1, h2⟩ .nil
  | cons h3 _ ih => exact .cons h3 ih
def fileCells (vs : List (ByteArray × Value)) : List Value := vs.flatMap fun p => [.string p.1, p.2]
theorem fileCells_snoc (vs : List (ByteArray × Value)) (s : ByteArray) (v : Value) : fileCells (vs ++ [(s, v)]) = fileCells vs ++ [.string s, v] := by simp [fileCells]
end Go.Proofs.YtoajnmbbgbpbgaaGreat
namespace Go.Proofs.YtoajnmbbgbpbgaaGreat
set_option linter.unusedVariables false
set_option linter.unusedSimpArgs false
open Go.RowKit Go.Shelf Go.Maps

theorem alloc_tabIn {F : Fence} {n : Nat} {ops : Array Oper} {rest : List Oper} {o : Oper} {a : Act} {w : World} {Q : Exit → Act → World → Prop} (hg : o.guard = none) (ho : o.op = .alloc 98)
    (hK : wpListIn F n Tryz.prog ops Q rest (a.put o.dst (.pointer (some ⟨w.heap.size, 0, none⟩))) (w.alloc (.cells (tabC noT 0).toArray 98))) : wpListIn F n Tryz.prog ops Q (o :: rest) a w := by
  have hr : (Instr.alloc 98 true (.tuple #[])).run Tryz.prog w = .ok (.pointer (some ⟨w.heap.size, 0, none⟩)) (w.alloc (.cells (tabC noT 0).toArray 98)) := by kernel_rfl
  refine wpListIn_plain hg fun K hK' => ?_
  unfold Oper.wpIn
  refine ⟨by simp [Oper.about, ho], ?_⟩
  rw [Oper.semAt_plain F _ _ (by rw [ho]; intro c hc'; cases hc')]
  simp only [execOp, ho, Sem.run_bind, hr, Result.andThen]
  exact hK' _ _ hK
theorem store_tabIn {F : Fence} {n : Nat} {ops : Array Oper} {rest : List Oper} {o : Oper} {a : Act} {w : World} {Q : Exit → Act → World → Prop} (hg : o.guard = none) (x y : Operand) (ho : o.op = .store 98 x y)
    (b : Nat) (cs old : List Value) (hx : a.eval x = .pointer (some ⟨b, 0, none⟩)) (hy : a.eval y = .agg cs.toArray) (hb : w.heap[b]? = some (.cells old.toArray 98 (0, 0))) (hl : old.length = 25) (hc : cs.length = 25) (h1 : ∀ v ∈ cs, v.oneCell' = true)
    (hK : ∀ w', w'.heap[b]? = some (.cells cs.toArray 98 (0, 0)) → Fr (fun k => k = b) w w' → wpListIn F n Tryz.prog ops Q rest (a.put o.dst undef) w') : wpListIn F n Tryz.prog ops Q (o :: rest) a w := by
  have hr := run_storeAt_mid (P := Tryz.prog) w b 0 98 cs.toArray (fun j hj => by
    have hj' : j < old.length := by simpa [hl, hc] using hj
    rw [Nat.zero_add]
    exact ⟨by rw [heap_cell hb (v := old[j]) (by simp [hj'])]; rfl, heap_frozen hb⟩) (by rw [size_tab, List.size_toArray, hc]) (all_oneCell_toArray h1)
  refine wpListIn_plain hg fun K hK' => ?_
  unfold Oper.wpIn
  refine ⟨by simp [Oper.about, ho], ?_⟩
  rw [Oper.semAt_plain F _ _ (by rw [ho]; intro c hc'; cases hc')]
  simp only [execOp, ho, hx, hy, Sem.run_bind, hr, Result.andThen]
  exact hK' _ _ (hK _ (heap_setCells hb cs (by rw [hl, hc])) (fr_setCells _ _ _ _))

end Go.Proofs.YtoajnmbbgbpbgaaGreat
namespace Go.Proofs.YtoajnmbbgbpbgaaGreat
set_option linter.unusedVariables false
set_option linter.unusedSimpArgs false
open Go.RowKit Go.Shelf Go.Maps
attribute [local go_sem] Oper.semAt_some wide_depth inRound_depth wide_fn inRound_fn

/-- 'append', and whose block the slice then lies in. -/
theorem append_in2 {F : Fence} {n : Nat} {P : Program} {w : World} {ops : Array Oper} {rest : List Oper} {o : Oper} {a : Act} {Q : Exit → Act → World → Prop}
    {t e : TypeId} {z : Value} {size bytes : Nat} (hE : Elem P t e z size bytes)
    (hg : o.guard = none) (s x : Operand) (hop : o.op = Op.call { callee := Callee.builtin Builtin.append, args := #[s, x], argTypes := #[t, t] })
    (base : Nat) (v : Value) (k : Nat) (xs : List Value) (hs : a.eval s = v) (hown : w.ownsRow base e size v k xs) (ad : Addr) (m c : Nat) (news : List Value) (hx : a.eval x = .slice (some ad) m c) (hn : news.length = m * size)
    (hc : ∀ j u, news[j]? = some u → w.cell? (ad.add j) = some u) (h1c : ∀ u ∈ news, u.oneCell' = true) (b1 : k + m ≤ maxLen) (b2 : (k + m) * bytes ≤ 140737488355328) (b3 : base ≤ w.heap.size)
    (hK : ∀ v' w', w'.ownsRow base e size v' (k + m) (xs ++ news) → w.grownBy w' v.ownBlock → (v'.ownBlock = v.ownBlock ∨ v'.ownBlock = some w.heap.size) → wpListIn F n P ops Q rest (a.put o.dst v') w') :
    wpListIn F n P ops Q (o :: rest) a w := by
  obtain ⟨i0, hi, hz0, hz1, hz2⟩ := info_parts hE.info
  exact wpListIn_append_own_at w hg s x t hop base e i0 z size bytes hE.und hi hz0 hz1 hz2 hE.zs hE.pos v k xs hs hown ad m c news hx hn hc h1c b1 b2 b3 (fun v' w' q1 q2 _ q4 => hK v' w' q1 q2 q4)
end Go.Proofs.YtoajnmbbgbpbgaaGreat
namespace Go.Proofs.YtoajnmbbgbpbgaaGreat
open Go.RowKit Go.Shelf Go.Maps

end Go.Proofs.YtoajnmbbgbpbgaaGreat
namespace Go.Proofs.YtoajnmbbgbpbgaaGreat
set_option linter.unusedVariables false
set_option linter.unusedSimpArgs false
open Go.RowKit Go.Shelf Go.Maps

theorem fileCells_len (vs : List (ByteArray × Value)) : (fileCells vs).length = 2 * vs.length := by
  induction vs with
  | nil => rfl
  | cons p vs ih => simp only [fileCells, List.flatMap_cons, List.length_append, List.length_cons, List.length_nil] at *; omega
theorem fileCells_get (vs : List (ByteArray × Value)) (j : Nat) (hj : j < vs.length) : (fileCells vs)[2 * j]? = some (.string vs[j].1) := by
  induction vs generalizing j with
  | nil => simp at hj
  | cons p vs ih =>
    cases j with
    | zero => rfl
    | succ j =>
      have := ih j (by simpa using hj)
      rw [show 2 * (j + 1) = 2 * j + 1 + 1 by omega]
      simpa [fileCells] using this

end Go.Proofs.YtoajnmbbgbpbgaaGreat
namespace Go.Proofs.YtoajnmbbgbpbgaaGreat
set_option linter.unusedVariables false
set_option linter.unusedSimpArgs false
open Go.RowKit Go.Shelf Go.Maps

def aName : ByteArray := ⟨#[97]⟩
theorem nameF_a : nameF aName = true := by decide +kernel
theorem aName_ne : aName ≠ noName := nameF_ne nameF_a

theorem findI_rep (s : ByteArray) (hs : s ≠ noName) : findI (List.replicate 8 Nd.free) s = -1 :=
  findI_no (fun k hk h => by rw [List.getElem_replicate] at h; exact hs h.symm)
theorem findI_rep0 : findI (List.replicate 8 Nd.free) noName = 0 := rfl
/-- A name laid in a fresh region. -/
theorem create_fresh {F : List Int} (hF : F.length = 8192) {s : ByteArray} (hs : nameF s = true) :
    ∃ B1, createR (formatF F) s = (B1, 0, 0) ∧ Rel [(s, [])] B1 ((List.replicate 8 Nd.free).set 0 ⟨s, 0, []⟩) 0 := by
  have ht := format_tab F hF
  have hB : (formatF F).length = 8192 := by rw [formatF, layF_length, layF_length, hF]
  have hT := (tableF_iff _ _ _).2 ht
  refine ⟨layT (formatF F) 0 ((List.replicate 8 Nd.free).set 0 ⟨s, 0, []⟩) 0, ?_, by rw [layT_length]; exact hB, ?_, ?_⟩
  · rw [createR_some hT, if_neg (by simp [hs]), if_neg (by rw [findI_rep s (nameF_ne hs)]; decide), if_neg (by rw [findI_rep0]; decide), findI_rep0]
    rfl
  · exact create_tab hB ht (n := 0) (by simp) (by rw [List.getElem_replicate]; rfl) hs (fun x hx h => by
      rw [List.eq_of_mem_replicate hx] at h; exact nameF_ne hs h.symm)
  · have hn : named (⟨s, 0, []⟩ : Nd) = true := by simp [named, nameF_ne hs]
    have hf : named Nd.free = false := by simp [named, Nd.free]
    have e : filesL (layT (formatF F) 0 ((List.replicate 8 Nd.free).set 0 ⟨s, 0, []⟩) 0) ((List.replicate 8 Nd.free).set 0 ⟨s, 0, []⟩) = [(s, [])] := by
      rw [show (List.replicate 8 Nd.free).set 0 ⟨s, 0, []⟩ = ⟨s, 0, []⟩ :: List.replicate 7 Nd.free from rfl, filesL, List.filter_cons_of_pos hn]
      rw [List.filter_eq_nil_iff.2 (fun x hx => by rw [List.eq_of_mem_replicate hx, hf]; decide)]
      rfl
    rw [e]
/-- Bytes written into a file that was just made. -/
theorem write_fresh {B1 : List Int} {s : ByteArray} {L : List Nd} {u : Nat} (hr : Rel [(s, [])] B1 L u) (hn : 0 < L.length) (h1 : L[0].name ≠ noName) (h2 : (s, []) = entry B1 L[0]) (z : List Int) (hz : (needF z.length).toNat ≤ 23) :
    (writeR B1 0 0 z).2 = 0 ∧ ∃ L' u', Rel [(s, z)] (writeR B1 0 0 z).1 L' u' := by
  have hw := (map_write hr (k := 0) (n := 0) (by simp) hn h1 h2 z).1
  have e1 : ([(s, [])] : Files).set 0 ((([(s, [])] : Files)[0]).1, (([(s, [])] : Files)[0]).2 ++ z) = [(s, z)] := rfl
  have e2 : ((((([(s, [])] : Files)[0]).2.length : Nat)) : Int) = 0 := rfl
  rw [e1, e2] at hw
  exact hw (by simpa [sumF] using hz)
theorem awake12_pure {F : List Int} (hF : F.length = 8192) : ∃ B1 B2, createR (formatF F) aName = (B1, 0, 0) ∧ writeR B1 0 0 (zs 70) = (B2, 0) ∧ filesR B2 = ([(aName, zs 70)], 0) ∧ checkE B2 = 0 := by
  obtain ⟨B1, h1, hr⟩ := create_fresh hF nameF_a
  have hz : (needF (zs 70).length).toNat ≤ 23 := by rw [zs_length]; decide
  generalize zs 70 = z at *
  obtain ⟨e0, L', u', hr'⟩ := write_fresh hr (by simp) (by simp [aName_ne]) (by simp [entry, contF]) z hz
  obtain ⟨q, hq⟩ : ∃ q, writeR B1 0 0 z = q := ⟨_, rfl⟩
  rw [hq] at e0 hr'
  obtain ⟨B2, e⟩ := q
  dsimp only at e0 hr'
  refine ⟨B1, B2, h1, by rw [hq, e0], ?_, ?_⟩
  · have h2 := hr'.2.2
    rw [filesR_tab' hr'.2.1]
    have e : filesL B2 L' = [(aName, z)] := List.perm_singleton.1 (h2.symm)
    rw [e]
  · exact checkE_some ((tableF_iff _ _ _).2 hr'.2.1)
end Go.Proofs.YtoajnmbbgbpbgaaGreat
namespace Go.Proofs.YtoajnmbbgbpbgaaGreat
set_option linter.unusedVariables false
set_option linter.unusedSimpArgs false
open Go.RowKit Go.Shelf Go.Maps

end Go.Proofs.YtoajnmbbgbpbgaaGreat
