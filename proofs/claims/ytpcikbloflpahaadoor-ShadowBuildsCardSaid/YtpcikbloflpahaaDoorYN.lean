/-
  Chapter 7: the reference's tree: Read, the plain part and the steps.
-/
import Derived.Test.YtpcikbloflpahaaDoorYF
import Derived.Test.YtpcikbloflpahaaDoorYM
namespace Go.Proofs.YtpcikbloflpahaaDoor
set_option linter.unusedVariables false
set_option linter.unusedSimpArgs false
open Go.RowKit Go.Shelf Go.Maps

def lvB (B : List Int) (top : Int) (i : Nat) : List Int := (List.range 4).map fun k => if k < i then (rdN B top).getD k 0 else 0
def pgB (B : List Int) (top : Int) (m : Nat) : List Int := (List.range 128).map fun p => if p < m then (rdN B ((rdN B top).getD (p / 32) 0)).getD (p % 32) 0 else 0
theorem lvB_len (B : List Int) (top : Int) (i : Nat) : (lvB B top i).length = 4 := by simp [lvB]
theorem pgB_len (B : List Int) (top : Int) (i : Nat) : (pgB B top i).length = 128 := by simp [pgB]
theorem lvB_zero (B : List Int) (top : Int) : lvB B top 0 = zs 4 := by simp [lvB, zs, List.range, List.range.loop, List.replicate]
theorem range_zero7 (n : Nat) (f : Nat → Int) (h : ∀ k, k < n → f k = 0) : (List.range n).map f = zs n := by
  apply List.ext_getElem (by simp [zs])
  intro i h1 h2
  simp only [zs, List.getElem_map, List.getElem_range, List.getElem_replicate]
  exact h i (by simpa using h1)
theorem pgB_zero (B : List Int) (top : Int) : pgB B top 0 = zs 128 := range_zero7 _ _ (fun k hk => by simp)
theorem rdN_zero (B : List Int) (k : Nat) : (rdN B 0).getD k 0 = 0 := by
  unfold rdN nd0
  rw [if_pos rfl, List.getD_eq_getElem?_getD, List.getElem?_replicate]
  split <;> rfl
theorem lvB_top0 (B : List Int) (i : Nat) : lvB B 0 i = zs 4 := range_zero7 _ _ (fun k hk => by simp only [rdN_zero]; simp)
theorem pgB_top0 (B : List Int) (i : Nat) : pgB B 0 i = zs 128 := range_zero7 _ _ (fun k hk => by simp only [rdN_zero]; simp)
theorem range_set7 (n : Nat) (f g : Nat → Int) (i : Nat) (x : Int) (hi : g i = x) (h : ∀ k, k < n → k ≠ i → g k = f k) : ((List.range n).map f).set i x = (List.range n).map g := by
  apply List.ext_getElem (by simp)
  intro k h1 h2
  rw [List.getElem_set]
  simp only [List.getElem_map, List.getElem_range]
  split
  · rename_i e; subst e; exact hi.symm
  · rename_i e; exact (h k (by simpa using h2) (fun q => e q.symm)).symm
theorem range_same7 (n : Nat) (f g : Nat → Int) (h : ∀ k, k < n → g k = f k) : (List.range n).map f = (List.range n).map g := by
  apply List.map_congr_left
  intro k hk
  exact (h k (by simpa using hk)).symm
theorem lvB_step (B : List Int) (top : Int) (i : Nat) (hi : i < 4) : (lvB B top i).set i ((rdN B top).getD i 0) = lvB B top (i + 1) :=
  range_set7 _ _ _ _ _ (by rw [if_pos (by omega)]) (fun k hk h => by
    by_cases q : k < i
    · rw [if_pos q, if_pos (by omega)]
    · rw [if_neg q, if_neg (by omega)])
theorem lvB_skip (B : List Int) (top : Int) (i : Nat) (h : (rdN B top).getD i 0 = 0) : lvB B top i = lvB B top (i + 1) :=
  range_same7 _ _ _ (fun k hk => by
    by_cases q : k < i
    · rw [if_pos q, if_pos (by omega)]
    · by_cases e : k = i
      · subst e; rw [if_pos (by omega), if_neg q, h]
      · rw [if_neg q, if_neg (by omega)])
theorem pgB_step (B : List Int) (top : Int) (i k : Nat) (hk : k < 32) : (pgB B top (32 * i + k)).set (32 * i + k) ((rdN B ((rdN B top).getD i 0)).getD k 0) = pgB B top (32 * i + (k + 1)) :=
  range_set7 _ _ _ _ _ (by rw [if_pos (by omega), show (32 * i + k) / 32 = i from by omega, show (32 * i + k) % 32 = k from by omega]) (fun p hp h => by
    by_cases q : p < 32 * i + k
    · rw [if_pos q, if_pos (by omega)]
    · rw [if_neg q, if_neg (by omega)])
theorem pgB_skip1 (B : List Int) (top : Int) (i k : Nat) (hk : k < 32) (h : (rdN B ((rdN B top).getD i 0)).getD k 0 = 0) : pgB B top (32 * i + k) = pgB B top (32 * i + (k + 1)) :=
  range_same7 _ _ _ (fun p hp => by
    by_cases q : p < 32 * i + k
    · rw [if_pos q, if_pos (by omega)]
    · by_cases e : p = 32 * i + k
      · subst e; rw [if_pos (by omega), if_neg (by omega), show (32 * i + k) / 32 = i from by omega, show (32 * i + k) % 32 = k from by omega, h]
      · rw [if_neg q, if_neg (by omega)])
theorem pgB_skip (B : List Int) (top : Int) (i : Nat) (h : (rdN B top).getD i 0 = 0) : pgB B top (32 * i) = pgB B top (32 * (i + 1)) :=
  range_same7 _ _ _ (fun p hp => by
    by_cases q : p < 32 * i
    · rw [if_pos q, if_pos (by omega)]
    · by_cases e : p < 32 * (i + 1)
      · rw [if_pos e, if_neg q, show p / 32 = i from by omega, h, rdN_zero]
      · rw [if_neg q, if_neg e])
theorem lvB_full (B : List Int) (top : Int) : lvB B top 32 = lvB B top 4 := range_same7 _ _ _ (fun k hk => by rw [if_pos (by omega), if_pos (by omega)])
theorem pgB_full (B : List Int) (top : Int) : pgB B top (32 * 32) = pgB B top 128 := range_same7 _ _ _ (fun k hk => by rw [if_pos (by omega), if_pos (by omega)])
/-- What the walk has seen behind i leaves; behind k pages of a leaf. -/
def oT (B : List Int) (N : Nat) (top : Int) (i : Nat) : Option (List (Int × Int)) := (entsF (ndB B top.toNat) i).foldl (leafS (fun n => ndB B n.toNat) N) (metS N (some []) top (-1))
def oP (B : List Int) (N : Nat) (top : Int) (i : Nat) (leaf : Int) (k : Nat) : Option (List (Int × Int)) := (entsF (ndB B leaf.toNat) k).foldl (fun o y => metS N o y.2 ((i : Int) * 32 + (y.1 : Int))) (metS N (oT B N top i) leaf (-1))
theorem treeB_oT {B : List Int} {N : Nat} {top : Int} (h : top ≠ 0) : treeB B N top = oT B N top 32 := by
  unfold treeB treeS oT ents
  rw [if_neg h]
theorem oT_zero (B : List Int) (N : Nat) (top : Int) : oT B N top 0 = metS N (some []) top (-1) := by simp [oT, entsF]
theorem oT_skip {B : List Int} {N : Nat} {top : Int} {i : Nat} (h : (ndB B top.toNat).getD i 0 = 0) : oT B N top (i + 1) = oT B N top i := by
  unfold oT
  rw [entsF_succ, if_pos h, List.append_nil]
theorem oT_step {B : List Int} {N : Nat} {top : Int} {i : Nat} (hi : i < 4) (h : (ndB B top.toNat).getD i 0 ≠ 0) : oT B N top (i + 1) = oP B N top i ((ndB B top.toNat).getD i 0) 32 := by
  unfold oP
  rw [show oT B N top (i + 1) = leafS (fun n => ndB B n.toNat) N (oT B N top i) (i, (ndB B top.toNat).getD i 0) from by
    unfold oT
    rw [entsF_succ, if_neg h, List.foldl_append]
    rfl]
  unfold leafS ents
  rw [if_pos hi]
theorem oT_far {B : List Int} {N : Nat} {top : Int} {i : Nat} (hi : ¬ i < 4) (h : (ndB B top.toNat).getD i 0 ≠ 0) : oT B N top (i + 1) = none := by
  rw [show oT B N top (i + 1) = leafS (fun n => ndB B n.toNat) N (oT B N top i) (i, (ndB B top.toNat).getD i 0) from by
    unfold oT
    rw [entsF_succ, if_neg h, List.foldl_append]
    rfl]
  unfold leafS
  rw [if_neg hi]
theorem oT_none {B : List Int} {N : Nat} {top : Int} {i : Nat} (hi : i ≤ 32) (h : oT B N top i = none) : oT B N top 32 = none := by
  have hpx := entsF_prefix (ndB B top.toNat) i (32 - i)
  rw [show i + (32 - i) = 32 from by omega] at hpx
  exact fold_prefix_none _ (fun x => leafS_none _ _ x) hpx _ h
theorem oP_zero (B : List Int) (N : Nat) (top : Int) (i : Nat) (leaf : Int) : oP B N top i leaf 0 = metS N (oT B N top i) leaf (-1) := by simp [oP, entsF]
theorem oP_skip {B : List Int} {N : Nat} {top : Int} {i k : Nat} {leaf : Int} (h : (ndB B leaf.toNat).getD k 0 = 0) : oP B N top i leaf (k + 1) = oP B N top i leaf k := by
  unfold oP
  rw [entsF_succ, if_pos h, List.append_nil]
theorem oP_step {B : List Int} {N : Nat} {top : Int} {i k : Nat} {leaf : Int} (h : (ndB B leaf.toNat).getD k 0 ≠ 0) : oP B N top i leaf (k + 1) = metS N (oP B N top i leaf k) ((ndB B leaf.toNat).getD k 0) ((i : Int) * 32 + (k : Int)) := by
  unfold oP
  rw [entsF_succ, if_neg h, List.foldl_append]
  rfl
theorem oP_none {B : List Int} {N : Nat} {top : Int} {i k : Nat} {leaf : Int} (hk : k ≤ 32) (h : oP B N top i leaf k = none) : oP B N top i leaf 32 = none := by
  have hpx := entsF_prefix (ndB B leaf.toNat) k (32 - k)
  rw [show k + (32 - k) = 32 from by omega] at hpx
  exact fold_prefix_none _ (fun x => metS_none _ _ _) hpx _ h
theorem okM_okT {N : Nat} {s : List (Int × Int)} {n : Int} : okM N s n ↔ okT N (s.map Prod.fst) n := Iff.rfl

def trZ : List Value := TrC 0 (zs 4) (zs 128) (.slice none 0 0)
theorem size_tr : (Tryd.prog.info? 47).map (·.size) = some 134 := by kernel_rfl
theorem trC_len {top : Int} {lv pg : List Int} {v : Value} (h1 : lv.length = 4) (h2 : pg.length = 128) : (TrC top lv pg v).length = 134 := by simp [TrC, ints7_len, h1, h2]
theorem trC_one {top : Int} {lv pg : List Int} {a : Option Addr} {n c : Nat} : ∀ u ∈ TrC top lv pg (.slice a n c), u.oneCell' = true := by
  intro u hu
  simp only [TrC, ints7, List.mem_cons, List.mem_append, List.mem_map, List.not_mem_nil, or_false] at hu
  rcases hu with rfl | ⟨x, _, rfl⟩ | ⟨x, _, rfl⟩ | rfl <;> rfl
theorem alloc_tr {ops : Array Oper} {rest : List Oper} {o : Oper} {a : Act} {w : World} {Q : Exit → Act → World → Prop} (b : Nat) (hb : w.heap.size = b) (hg : o.guard = none) (ho : o.op = .alloc 47)
    (hK : wpList Tryd.prog ops Q rest (a.put o.dst (.pointer (some ⟨b, 0, none⟩))) (w.alloc (.cells trZ.toArray 47))) : wpList Tryd.prog ops Q (o :: rest) a w := by
  subst hb
  have hr : (Instr.alloc 47 true (.tuple #[])).run Tryd.prog w = .ok (.pointer (some ⟨w.heap.size, 0, none⟩)) (w.alloc (.cells trZ.toArray 47)) := by kernel_rfl
  refine wpList_plain hg fun K' hK' => ?_
  unfold Oper.wp
  simp only [execOp, ho, Sem.run_bind, hr, Result.andThen]
  exact hK' _ _ hK
theorem build_tr0 {ops : Array Oper} {rest : List Oper} {o : Oper} {a : Act} {w : World} {Q : Exit → Act → World → Prop} (hg : o.guard = none) (ho : o.op = .build 47 #[])
    (hK : wpList Tryd.prog ops Q rest (a.put o.dst (.agg trZ.toArray)) w) : wpList Tryd.prog ops Q (o :: rest) a w := by
  have hr : (Instr.build 47 #[]).run Tryd.prog w = .ok (.agg trZ.toArray) w := by kernel_rfl
  refine wpList_plain hg fun K' hK' => ?_
  unfold Oper.wp
  have hm : (#[] : Array (Nat × Operand)).map (fun x => (x.1, a.eval x.2)) = #[] := by simp
  simp only [execOp, ho, Sem.run_bind, hm, hr, Result.andThen]
  exact hK' _ _ hK
theorem build_tr1 {ops : Array Oper} {rest : List Oper} {o : Oper} {a : Act} {w : World} {Q : Exit → Act → World → Prop} (hg : o.guard = none) (x : Operand) (top : Int) (ho : o.op = .build 47 #[(0, x)]) (hx : a.eval x = .int .i64 top)
    (hK : wpList Tryd.prog ops Q rest (a.put o.dst (.agg (TrC top (zs 4) (zs 128) (.slice none 0 0)).toArray)) w) : wpList Tryd.prog ops Q (o :: rest) a w := by
  have hr : (Instr.build 47 #[(0, .int .i64 top)]).run Tryd.prog w = .ok (.agg (TrC top (zs 4) (zs 128) (.slice none 0 0)).toArray) w := by kernel_rfl
  refine wpList_plain hg fun K' hK' => ?_
  unfold Oper.wp
  have hm : (#[(0, x)] : Array (Nat × Operand)).map (fun x => (x.1, a.eval x.2)) = #[(0, .int .i64 top)] := by simp [hx]
  simp only [execOp, ho, Sem.run_bind, hm, hr, Result.andThen]
  exact hK' _ _ hK
theorem load_tr {ops : Array Oper} {rest : List Oper} {o : Oper} {a : Act} {w : World} {Q : Exit → Act → World → Prop} (hg : o.guard = none) (x : Operand) (ho : o.op = .load 47 x)
    (b : Nat) (cs : List Value) (hx : a.eval x = .pointer (some ⟨b, 0, none⟩)) (h : w.heap[b]? = some (.cells cs.toArray 47 (0, 0))) (hl : cs.length = 134)
    (hK : wpList Tryd.prog ops Q rest (a.put o.dst (.agg cs.toArray)) w) : wpList Tryd.prog ops Q (o :: rest) a w :=
  wpList_load_mid hg _ x ho b 0 hx cs _ (fun j v hj => by rw [Nat.zero_add]; exact heap_cell h (by simpa using hj)) Tryd.underlying47 rfl (by rw [size_tr, hl]) hK
theorem store_tr {ops : Array Oper} {rest : List Oper} {o : Oper} {a : Act} {w : World} {Q : Exit → Act → World → Prop} (hg : o.guard = none) (x y : Operand) (ho : o.op = .store 47 x y)
    (b : Nat) (cs cs0 : List Value) (hx : a.eval x = .pointer (some ⟨b, 0, none⟩)) (hy : a.eval y = .agg cs.toArray) (h : w.heap[b]? = some (.cells cs0.toArray 47 (0, 0))) (hl : cs.length = 134) (hl0 : cs0.length = 134) (h1 : ∀ u ∈ cs, u.oneCell' = true)
    (hK : ∀ w', Fr (fun k => k = b) w w' → w'.heap[b]? = some (.cells cs.toArray 47 (0, 0)) → wpList Tryd.prog ops Q rest (a.put o.dst undef) w') : wpList Tryd.prog ops Q (o :: rest) a w := by
  refine wpList_store_mid hg _ x y ho b 0 cs.toArray hx hy (fun j hj => ?_) (by rw [size_tr, List.size_toArray, hl]) (all_oneCell_toArray h1) ?_
  · rw [Nat.zero_add]
    have hj' : j < cs0.length := by simp at hj; omega
    exact ⟨by rw [heap_cell h (v := cs0[j]) (by simp [hj'])]; rfl, heap_frozen h⟩
  · exact hK _ (fr_setCells7 _ _ _ _) (heap_setCells7 h cs (by omega))
theorem ret_tr {fn : Func} {p q : Tmp} (hfn : fn.results = #[.cell p 47, .tmp q]) {Q : Ending → World → Prop} {a : Act} {w : World} {b : Nat} {cs : List Value} {v1 : Value} (hp : a.tmps.getD p undef = .pointer (some ⟨b, 0, none⟩)) (hq : a.tmps.getD q undef = v1)
    (h : w.heap[b]? = some (.cells cs.toArray 47 (0, 0))) (hl : cs.length = 134) (hd : a.defers = []) (hR : Q (.returned (.tuple #[.agg cs.toArray, v1])) w) : bodyPost Tryd.prog fn Q .ret a w := by
  refine bodyPost_ret ?_ hd hR
  rw [results_cell7_tmp hfn, hp, hq]
  have hl := run_loadVar_mid (P := Tryd.prog) w b 0 47 cs _ (fun j v hj => by rw [Nat.zero_add]; exact heap_cell h (by simpa using hj)) Tryd.underlying47 rfl (by rw [size_tr, hl])
  simp only [asAddr, Sem.run_pure, Result.andThen_ok, hl]
theorem rdnodeI_calls {w : World} {db N : Nat} {B : List Int} (h : RfR w db N B) (n : Int) (h0 : 0 ≤ n) (hi : n < (N : Int)) :
    Calls Tryd.prog 41 #[.pointer (some ⟨db, 0, none⟩), .int .i64 n] w fun e w' => e = .returned (.agg (nds (ndB B n.toNat)).toArray) ∧ Fr No w w' := by
  obtain ⟨i, rfl⟩ : ∃ i : Nat, n = (i : Int) := ⟨n.toNat, by omega⟩
  exact rdnode_calls h i (by omega)
end Go.Proofs.YtpcikbloflpahaaDoor
namespace Go.Proofs.YtpcikbloflpahaaDoor
set_option linter.unusedVariables false
set_option linter.unusedSimpArgs false
open Go.RowKit Go.Shelf Go.Maps

theorem trZ_len : trZ.length = 134 := trC_len rfl rfl
theorem trZ_one : ∀ u ∈ trZ, u.oneCell' = true := trC_one
/-- What Read comes to. -/
def TrQ (w : World) (N : Nat) (B : List Int) (top : Int) (e : Ending) (w' : World) : Prop := Fr No w w' ∧ ((∃ s v, treeB B N top = some s ∧ e = .returned (.tuple #[.agg (TrC top (lvB B top 4) (pgB B top 128) v).toArray, .int .i64 0]) ∧ w'.ownsRow (w.heap.size + 1) 3 1 v s.length (ints7 (s.map Prod.fst))) ∨ (treeB B N top = none ∧ e = .returned (.tuple #[.agg trZ.toArray, .int .i64 60])))
/-- Between its rounds. -/
def TrRd (w : World) (B : List Int) (top : Int) (i m : Nat) (s : List (Int × Int)) (wr : World) : Prop :=
  TrAt wr (w.heap.size + 1) (w.heap.size + 1) top (lvB B top i) (pgB B top m) (s.map Prod.fst) ∧ wr.heap[w.heap.size]? = some (.cells trZ.toArray 47 (0, 0)) ∧ Fr No w wr
theorem TrRd.fr0 {w wr wr' : World} {B : List Int} {top : Int} {i m : Nat} {s : List (Int × Int)} (h : TrRd w B top i m s wr) (hF : Fr No wr wr') : TrRd w B top i m s wr' := ⟨h.1.fr0 hF, hF.heap h.2.1 (fun h => h), h.2.2.trans hF⟩
theorem TrRd.to {w wr wr' : World} {B : List Int} {top : Int} {i m i' m' : Nat} {s s' : List (Int × Int)} (h : TrRd w B top i m s wr) (ht : TrAt wr' (w.heap.size + 1) (w.heap.size + 1) top (lvB B top i') (pgB B top m') (s'.map Prod.fst)) (hF : Fr (fun k => w.heap.size + 1 ≤ k) wr wr') : TrRd w B top i' m' s' wr' :=
  ⟨ht, hF.heap h.2.1 (fun (e : w.heap.size + 1 ≤ w.heap.size) => by omega), h.2.2.trans' hF (fun k hk (e : w.heap.size + 1 ≤ k) => by omega)⟩
theorem TrRd.size {w wr : World} {B : List Int} {top : Int} {i m : Nat} {s : List (Int × Int)} (h : TrRd w B top i m s wr) : w.heap.size + 1 ≤ wr.heap.size := by
  obtain ⟨-, -, -, v, h4, -⟩ := h.1
  have := heap_lt7 h4
  omega
theorem TrRd.leaf {w wr : World} {B : List Int} {top : Int} {i m : Nat} {s : List (Int × Int)} (h : TrRd w B top i m s wr) (hi : i < 4) : TrRd w B top (i + 1) m s (wr.setCell ⟨w.heap.size + 1, 1 + i, none⟩ (.int .i64 ((rdN B top).getD i 0))) := by
  have := h.1.put (o := 1 + i) (u := .int .i64 ((rdN B top).getD i 0)) (lv' := lvB B top (i + 1)) (lvB_len _ _ _) (pgB_len _ _ _) (fun v => by rw [trC_setl (by rw [lvB_len]; exact hi), lvB_step B top i hi])
  exact h.to this.1 this.2
theorem TrRd.page {w wr : World} {B : List Int} {top : Int} {j i k : Nat} {s : List (Int × Int)} (h : TrRd w B top j (32 * i + k) s wr) (hi : i < 4) (hk : k < 32) : TrRd w B top j (32 * i + (k + 1)) s (wr.setCell ⟨w.heap.size + 1, 5 + (32 * i + k), none⟩ (.int .i64 ((rdN B ((rdN B top).getD i 0)).getD k 0))) := by
  have := h.1.put (o := 5 + (32 * i + k)) (u := .int .i64 ((rdN B ((rdN B top).getD i 0)).getD k 0)) (pg' := pgB B top (32 * i + (k + 1))) (lvB_len _ _ _) (pgB_len _ _ _) (fun v => by rw [trC_setp (lvB_len _ _ _) (by rw [pgB_len]; omega), pgB_step B top i k hk])
  exact h.to this.1 this.2
theorem TrRd.cell {w wr : World} {B : List Int} {top : Int} {i m : Nat} {s : List (Int × Int)} (h : TrRd w B top i m s wr) (o : Nat) (ho : o < 133) : ∃ v, wr.cell? ⟨w.heap.size + 1, o, none⟩ = some (.int .i64 v) ∧ wr.frozen? ⟨w.heap.size + 1, o, none⟩ = false := by
  obtain ⟨h1, h2, -, v, h4, -⟩ := h.1
  have hl := trC_len (top := top) (v := v) h1 h2
  have : ∃ x, (TrC top (lvB B top i) (pgB B top m) v)[o]? = some (.int .i64 x) := by
    unfold TrC
    rcases o with _ | o
    · exact ⟨top, rfl⟩
    · rw [List.getElem?_cons_succ, ← List.append_assoc, List.getElem?_append_left (by rw [List.length_append, ints7_len, ints7_len]; omega), show ints7 (lvB B top i) ++ ints7 (pgB B top m) = ints7 (lvB B top i ++ pgB B top m) from by simp [ints7]]
      have hlt : o < (lvB B top i ++ pgB B top m).length := by rw [List.length_append]; omega
      exact ⟨(lvB B top i ++ pgB B top m)[o], by simp only [ints7, List.getElem?_map, List.getElem?_eq_getElem hlt]; rfl⟩
  obtain ⟨x, hx⟩ := this
  exact ⟨x, heap_cell h4 (by rw [List.getElem?_toArray]; exact hx), heap_frozen h4⟩
attribute [local irreducible] lvB pgB oT oP rdN ndB trZ
set_option maxHeartbeats 8000000 in
set_option maxRecDepth 1000000 in
theorem trread_calls {w : World} {db N : Nat} {B : List Int} (hd : RfR w db N B) (top : Int) (htop : -9223372036854775808 ≤ top ∧ top ≤ 9223372036854775807) :
    Calls Tryd.prog 16 #[.pointer (some ⟨db, 0, none⟩), .int .i64 top] w (TrQ w N B top) := by
  have HD := Lib.hid hd
  have hFa : Fr No w (w.alloc (.cells trZ.toArray 47)) := (Fr.refl No w).alloc _
  have hFb := hFa.alloc (.cells trZ.toArray 47)
  have HB0 := Lib.hid (heap_alloc (.cells trZ.toArray 47) (heap_new w (.cells trZ.toArray 47)))
  have HB1 := Lib.hid (heap_new2_7 w (.cells trZ.toArray 47) (.cells trZ.toArray 47))
  have HFB := Lib.hid hFb
  have HN2 : RowKit.Hid (N ≤ 2000) := Lib.hid hd.1
  clear hd hFa hFb
  have HT0 : RowKit.Hid (treeB B N 0 = some [] ∧ lvB B 0 4 = zs 4 ∧ pgB B 0 128 = zs 128 ∧ lvB B top 0 = zs 4 ∧ pgB B top (32 * 0) = zs 128) := Lib.hid ⟨by unfold treeB treeS; rw [if_pos rfl], lvB_top0 B 4, pgB_top0 B 128, lvB_zero B top, pgB_zero B top⟩
  go_enter Tryd.func16, Tryd.ntmps16
  by_cases htz : top = 0
  · subst htz
    have bt : ((0 : Int) == 0) = true := rfl
    go_wp2_with (first
      | (refine alloc_tr w.heap.size rfl rfl rfl ?_)
      | (refine build_tr1 rfl _ 0 rfl rfl ?_)
      | (refine alloc_tr (w.heap.size + 1) (by simp) rfl rfl ?_)
      | (refine store_tr rfl _ _ rfl (w.heap.size + 1) (TrC 0 (zs 4) (zs 128) (.slice none 0 0)) trZ rfl rfl HB1.out (trC_len rfl rfl) trZ_len trC_one ?_; intro w2 hF2 hb2; have HFW := Lib.hid (HFB.out.trans' hF2 (fun i hi (e : i = _) => by omega)); have HBZ := Lib.hid (hF2.heap HB0.out (fun (e : w.heap.size = _) => by omega)); have HBT := Lib.hid hb2; have c3 := (HD.out.fr0 HFW.out).cells.choose_spec.choose_spec.2.2; clear hF2 hb2)
      | (refine load_tr rfl _ rfl (w.heap.size + 1) (TrC 0 (zs 4) (zs 128) (.slice none 0 0)) rfl HBT.out (trC_len rfl rfl) ?_)
      | (refine store_tr rfl _ _ rfl w.heap.size (TrC 0 (zs 4) (zs 128) (.slice none 0 0)) trZ rfl rfl HBZ.out (trC_len rfl rfl) trZ_len trC_one ?_; intro w3 hF3 hb3)
      | fail "arm")
    refine ret_tr Tryd.results16 rfl rfl hb3 (trC_len rfl rfl) rfl ⟨HFW.out.trans' hF3 (fun i hi (e : i = _) => by omega), .inl ⟨[], .slice none 0 0, HT0.out.1, by rw [HT0.out.2.1, HT0.out.2.2.1]; rfl, World.ownsRow_nil _ _ _ _⟩⟩
  · have bt : (top == 0) = false := by simpa using htz
    have HTZ := Lib.hid htz
    clear htz
    go_wp2_with (first
      | (refine alloc_tr w.heap.size rfl rfl rfl ?_)
      | (refine build_tr1 rfl _ top rfl rfl ?_)
      | (refine alloc_tr (w.heap.size + 1) (by simp) rfl rfl ?_)
      | (refine store_tr rfl _ _ rfl (w.heap.size + 1) (TrC top (zs 4) (zs 128) (.slice none 0 0)) trZ rfl rfl HB1.out (trC_len rfl rfl) trZ_len trC_one ?_; intro w2 hF2 hb2; have HFW := Lib.hid (HFB.out.trans' hF2 (fun i hi (e : i = _) => by omega)); have HBZ := Lib.hid (hF2.heap HB0.out (fun (e : w.heap.size = _) => by omega)); have HBT := Lib.hid hb2; have c3 := (HD.out.fr0 HFW.out).cells.choose_spec.choose_spec.2.2; clear hF2 hb2)
      | fail "arm")
    have hI : TrRd w B top 0 (32 * 0) [] w2 := ⟨⟨lvB_len _ _ _, pgB_len _ _ _, Nat.le_refl _, .slice none 0 0, by rw [HT0.out.2.2.2.1, HT0.out.2.2.2.2]; exact HBT.out, World.ownsRow_nil _ _ _ _⟩, HBZ.out, HFW.out⟩
    refine (tadd_calls top (HD.out.fr0 HFW.out) hI.1 (by simp) hI.size).mono ?_
    rintro e w3 (⟨hok, rfl, ht, hF⟩ | ⟨hno, rfl, rfl⟩)
    · have HI := Lib.hid (show TrRd w B top 0 (32 * 0) [(top, -1)] w3 from hI.to ht hF)
      have HO := Lib.hid (show oT B N top 0 = some [(top, -1)] by rw [oT_zero]; exact metS_ok hok (-1))
      have HTB : RowKit.Hid (treeB B N top = oT B N top 32 ∧ rdN B top = ndB B top.toNat) := Lib.hid ⟨treeB_oT HTZ.out, by unfold rdN; rw [if_neg HTZ.out]⟩
      have HND := Lib.hid (rdnodeI_calls (HD.out.fr0 HI.out.2.2) top (by have := hok.1; omega) hok.2.1)
      have HRG := Lib.hid (fun k => ndB_range HD.out.2.2.1 top.toNat k)
      have HLN := Lib.hid (ndB_len B top.toNat)
      clear hI ht hF hok c3
      generalize hnt : ndB B top.toNat = tn at *
      have HNT := Lib.hid hnt
      clear hnt
      go_wp2_with fail
      refine HND.out.mono ?_
      rintro e w4 ⟨rfl, hF4⟩
      have HI4 := Lib.hid (HI.out.fr0 hF4)
      have HIX := Lib.hid (fun (w1 : World) j hj => run_index_nd w1 tn j hj HLN.out)
      clear hF4
      go_wp2_with fail
      go_loopw [29] (fun i wr => ∃ (j : Nat) (s : List (Int × Int)), j ≤ 32 ∧ i = .int .i64 (j : Int) ∧ oT B N top j = some s ∧ s.length ≤ 1 + 33 * j ∧ TrRd w B top j (32 * j) s wr) (fun i _ => 32 - (intOf i).toNat)
      case atStart => exact ⟨0, _, by omega, rfl, HO.out, by simp, HI4.out⟩
      case round =>
        obtain ⟨j, s, hj, rfl, ho, hsl, hI⟩ := hrel
        have HIj := Lib.hid hI
        have HOj := Lib.hid ho
        clear hI ho
        by_cases hlt : j < 32
        · have dj : decide ((j : Int) < 32) = true := decide_eq_true (by omega)
          have hjl : j < tn.length := by rw [HLN.out]; exact hlt
          have q := HIX.out wr j hjl
          have hrg := HRG.out j
          have hgd : tn.getD j 0 = tn[j] := by rw [List.getD_eq_getElem?_getD, List.getElem?_eq_getElem hjl]; rfl
          rw [hgd] at hrg
          have HGD := Lib.hid hgd
          revert q hrg HGD
          clear hgd
          generalize tn[j] = x
          intro q hrg HGD
          by_cases hx0 : x = 0
          · subst hx0
            have HOn := Lib.hid (show oT B N top (j + 1) = some s by rw [oT_skip (by rw [HNT.out]; exact HGD.out)]; exact HOj.out)
            have HIn := Lib.hid (show TrRd w B top (j + 1) (32 * (j + 1)) s wr by
              have := HIj.out
              unfold TrRd at this ⊢
              rw [← lvB_skip B top j (by rw [HTB.out.2]; exact HGD.out), ← pgB_skip B top j (by rw [HTB.out.2]; exact HGD.out)]
              exact this)
            go_wp2_with fail
            refine ⟨⟨j + 1, s, by omega, by go_num, HOn.out, by omega, HIn.out⟩, by simp [intOf]; omega⟩
          · have bx : (x == 0) = false := by simpa using hx0
            have HX0 := Lib.hid hx0
            clear hx0
            by_cases h4 : j < 4
            · have d4 : decide ((4 : Int) ≤ (j : Int)) = false := decide_eq_false (by omega)
              go_wp2_with fail
              refine (tadd_calls x (HD.out.fr0 HIj.out.2.2) HIj.out.1 (by rw [List.length_map]; omega) HIj.out.size).mono ?_
              rintro e w5 (⟨hok, rfl, ht, hF⟩ | ⟨hno, rfl, rfl⟩)
              · have HOK := Lib.hid hok
                have HI5 := Lib.hid (show TrRd w B top j (32 * j) (s ++ [(x, -1)]) w5 from HIj.out.to (by rw [List.map_append]; exact ht) hF)
                have HOP := Lib.hid (show oP B N top j x 0 = some (s ++ [(x, -1)]) by rw [oP_zero, HOj.out]; exact metS_ok hok (-1))
                clear hok ht hF
                obtain ⟨ov, cv5, fz5⟩ := HI5.out.cell (1 + j) (by omega)
                have HI6 := Lib.hid (HI5.out.leaf h4)
                rw [HTB.out.2, HGD.out] at HI6
                have HNX := Lib.hid (rdnodeI_calls (HD.out.fr0 HI6.out.2.2) x (by have := HOK.out.1; omega) HOK.out.2.1)
                have HRX := Lib.hid (fun k => ndB_range HD.out.2.2.1 x.toNat k)
                have HLX := Lib.hid (ndB_len B x.toNat)
                have HTX : RowKit.Hid (oT B N top (j + 1) = oP B N top j x 32 ∧ rdN B x = ndB B x.toNat) := Lib.hid ⟨by rw [oT_step h4 (by rw [HNT.out, HGD.out]; exact HX0.out), HNT.out, HGD.out], by unfold rdN; rw [if_neg HX0.out]⟩
                generalize hpn : ndB B x.toNat = pn at *
                have HPN := Lib.hid hpn
                clear hpn
                go_wp2_with fail
                refine HNX.out.mono ?_
                rintro e w7 ⟨rfl, hF7⟩
                have HI7 := Lib.hid (HI6.out.fr0 hF7)
                have HIY := Lib.hid (fun (w1 : World) j hj => run_index_nd w1 pn j hj HLX.out)
                clear hF7 cv5 fz5
                go_wp2_with fail
                go_loopw [51] (fun i wy => ∃ (k : Nat) (s2 : List (Int × Int)), k ≤ 32 ∧ i = .int .i64 (k : Int) ∧ oP B N top j x k = some s2 ∧ s2.length ≤ 2 + 33 * j + k ∧ TrRd w B top (j + 1) (32 * j + k) s2 wy) (fun i _ => 32 - (intOf i).toNat)
                case atStart => exact ⟨0, _, by omega, rfl, HOP.out, by simp; omega, HI7.out⟩
                case round =>
                  obtain ⟨k, s2, hk, rfl, ho2, hsl2, hI2⟩ := hrel
                  have HIk := Lib.hid hI2
                  have HOk := Lib.hid ho2
                  clear hI2 ho2
                  by_cases hkt : k < 32
                  · have dk : decide ((k : Int) < 32) = true := decide_eq_true (by omega)
                    have hkl : k < pn.length := by rw [HLX.out]; exact hkt
                    have q2 := HIY.out wr k hkl
                    have hrx := HRX.out k
                    have hgd2 : pn.getD k 0 = pn[k] := by rw [List.getD_eq_getElem?_getD, List.getElem?_eq_getElem hkl]; rfl
                    rw [hgd2] at hrx
                    have HGY := Lib.hid hgd2
                    revert q2 hrx HGY
                    clear hgd2
                    generalize pn[k] = y
                    intro q2 hrx HGY
                    by_cases hy0 : y = 0
                    · subst hy0
                      have HOn := Lib.hid (show oP B N top j x (k + 1) = some s2 by rw [oP_skip (by rw [HPN.out]; exact HGY.out)]; exact HOk.out)
                      have HIn := Lib.hid (show TrRd w B top (j + 1) (32 * j + (k + 1)) s2 wr by
                        have := HIk.out
                        unfold TrRd at this ⊢
                        rw [← pgB_skip1 B top j k hkt (by rw [HTB.out.2, HGD.out, HTX.out.2]; exact HGY.out)]
                        exact this)
                      go_wp2_with fail
                      refine ⟨⟨k + 1, s2, by omega, by go_num, HOn.out, by omega, HIn.out⟩, by simp [intOf]; omega⟩
                    · have byy : (y == 0) = false := by simpa using hy0
                      have HY0 := Lib.hid hy0
                      clear hy0
                      go_wp2_with fail
                      refine (tadd_calls y (HD.out.fr0 HIk.out.2.2) HIk.out.1 (by rw [List.length_map]; omega) HIk.out.size).mono ?_
                      rintro e w8 (⟨hok, rfl, ht, hF⟩ | ⟨hno, rfl, rfl⟩)
                      · have HI8 := Lib.hid (show TrRd w B top (j + 1) (32 * j + k) (s2 ++ [(y, (j : Int) * 32 + (k : Int))]) w8 from HIk.out.to (by rw [List.map_append]; exact ht) hF)
                        have HOY := Lib.hid (show oP B N top j x (k + 1) = some (s2 ++ [(y, (j : Int) * 32 + (k : Int))]) by rw [oP_step (by rw [HPN.out, HGY.out]; exact HY0.out), HOk.out, HPN.out, HGY.out]; exact metS_ok hok _)
                        clear hok ht hF
                        obtain ⟨ov, cv5, fz5⟩ := HI8.out.cell (5 + (32 * j + k)) (by omega)
                        have HI9 := Lib.hid (HI8.out.page h4 hkt)
                        rw [HTB.out.2, HGD.out, HTX.out.2, HGY.out] at HI9
                        have hw1 : IntKind.i64.wrap ((j : Int) * 32) = (j : Int) * 32 := IntWalk.i64_in _ (by omega)
                        have hw2 : IntKind.i64.wrap ((j : Int) * 32 + (k : Int)) = ((32 * j + k : Nat) : Int) := by rw [IntWalk.i64_in _ (by omega)]; omega
                        go_wp2_with fail
                        refine ⟨⟨k + 1, _, by omega, by go_num, HOY.out, by simp; omega, ?_⟩, by simp [intOf]; omega⟩
                        exact HI9.out
                      · have HX := Lib.hid (show treeB B N top = none by
                          rw [HTB.out.1]
                          refine oT_none (i := j + 1) (by omega) ?_
                          rw [HTX.out.1]
                          exact oP_none (k := k + 1) (by omega) (by rw [oP_step (by rw [HPN.out, HGY.out]; exact HY0.out), HOk.out, HPN.out, HGY.out]; exact metS_bad hno _))
                        clear hno
                        go_wp2_with (first
                          | (refine build_tr0 rfl rfl ?_)
                          | (refine store_tr rfl _ _ rfl w.heap.size trZ trZ rfl rfl HIk.out.2.1 trZ_len trZ_len trZ_one ?_; intro w9 hF9 hb9)
                          | fail "arm")
                        exact ret_tr Tryd.results16 rfl rfl hb9 trZ_len rfl ⟨HIk.out.2.2.trans' hF9 (fun i hi (e : i = _) => by omega), .inr ⟨HX.out, rfl⟩⟩
                  · obtain rfl : k = 32 := by omega
                    have HIn := Lib.hid (show TrRd w B top (j + 1) (32 * (j + 1)) s2 wr from HIk.out)
                    have HOn := Lib.hid (HTX.out.1.trans HOk.out)
                    have dk : decide (((32 : Nat) : Int) < 32) = false := by decide
                    go_wp2_with fail
                    refine ⟨⟨j + 1, s2, by omega, by go_num, HOn.out, by omega, HIn.out⟩, by simp [intOf]; omega⟩
              · have HX := Lib.hid (show treeB B N top = none by
                  rw [HTB.out.1]
                  refine oT_none (i := j + 1) (by omega) ?_
                  rw [oT_step h4 (by rw [HNT.out, HGD.out]; exact HX0.out), HNT.out, HGD.out]
                  exact oP_none (k := 0) (by omega) (by rw [oP_zero, HOj.out]; exact metS_bad hno (-1)))
                clear hno
                go_wp2_with (first
                  | (refine build_tr0 rfl rfl ?_)
                  | (refine store_tr rfl _ _ rfl w.heap.size trZ trZ rfl rfl HIj.out.2.1 trZ_len trZ_len trZ_one ?_; intro w5 hF5 hb5)
                  | fail "arm")
                exact ret_tr Tryd.results16 rfl rfl hb5 trZ_len rfl ⟨HIj.out.2.2.trans' hF5 (fun i hi (e : i = _) => by omega), .inr ⟨HX.out, rfl⟩⟩
            · have d4 : decide ((4 : Int) ≤ (j : Int)) = true := decide_eq_true (by omega)
              have HX := Lib.hid (show treeB B N top = none by rw [HTB.out.1]; exact oT_none (i := j + 1) (by omega) (oT_far h4 (by rw [HNT.out, HGD.out]; exact HX0.out)))
              go_wp2_with (first
                | (refine build_tr0 rfl rfl ?_)
                | (refine store_tr rfl _ _ rfl w.heap.size trZ trZ rfl rfl HIj.out.2.1 trZ_len trZ_len trZ_one ?_; intro w5 hF5 hb5)
                | fail "arm")
              exact ret_tr Tryd.results16 rfl rfl hb5 trZ_len rfl ⟨HIj.out.2.2.trans' hF5 (fun i hi (e : i = _) => by omega), .inr ⟨HX.out, rfl⟩⟩
        · obtain rfl : j = 32 := by omega
          have dj : decide (((32 : Nat) : Int) < 32) = false := by decide
          have HFL := Lib.hid (show lvB B top 32 = lvB B top 4 ∧ pgB B top (32 * 32) = pgB B top 128 from ⟨lvB_full B top, pgB_full B top⟩)
          obtain ⟨h1, h2, -, v, h4, h5⟩ := HIj.out.1
          rw [List.length_map] at h5
          rw [HFL.out.1, HFL.out.2] at h4
          have hl := trC_len (top := top) (v := v) (lvB_len B top 4) (pgB_len B top 128)
          obtain ⟨av, cv, rfl⟩ := (Sl.of_owns h5).form
          have H4 := Lib.hid h4
          have H5 := Lib.hid h5
          have HL := Lib.hid hl
          clear h1 h2 h4 h5 hl
          go_wp2_with (first
            | (refine load_tr rfl _ rfl (w.heap.size + 1) (TrC top (lvB B top 4) (pgB B top 128) (.slice av s.length cv)) rfl H4.out HL.out ?_)
            | (refine store_tr rfl _ _ rfl w.heap.size (TrC top (lvB B top 4) (pgB B top 128) (.slice av s.length cv)) trZ rfl rfl HIj.out.2.1 HL.out trZ_len trC_one ?_; intro w5 hF5 hb5)
            | fail "arm")
          have h5 := ownsRow_fr7 H5.out hF5 (fun k e (e2 : k = _) => by have := (H5.out.lt k e).1; omega)
          exact ret_tr Tryd.results16 rfl rfl hb5 HL.out rfl ⟨HIj.out.2.2.trans' hF5 (fun i hi (e : i = _) => by omega), .inl ⟨s, _, by rw [HTB.out.1]; exact HOj.out, rfl, h5⟩⟩
    · have HX := Lib.hid (show treeB B N top = none by rw [treeB_oT HTZ.out]; exact oT_none (i := 0) (by omega) (by rw [oT_zero]; exact metS_bad hno (-1)))
      clear hI hno
      go_wp2_with (first
        | (refine build_tr0 rfl rfl ?_)
        | (refine store_tr rfl _ _ rfl w.heap.size trZ trZ rfl rfl HBZ.out trZ_len trZ_len trZ_one ?_; intro w4 hF4 hb4)
        | fail "arm")
      exact ret_tr Tryd.results16 rfl rfl hb4 trZ_len rfl ⟨HFW.out.trans' hF4 (fun i hi (e : i = _) => by omega), .inr ⟨HX.out, rfl⟩⟩
end Go.Proofs.YtpcikbloflpahaaDoor
