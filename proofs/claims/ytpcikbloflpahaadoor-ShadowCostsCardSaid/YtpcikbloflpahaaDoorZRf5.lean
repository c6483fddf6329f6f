/-
  Chapter 7: the reference's tree: Read, the plain part and the steps.
-/
import Derived.Test.YtpcikbloflpahaaDoorYF
import Derived.Test.YtpcikbloflpahaaDoorZGp2
namespace Go.Proofs.YtpcikbloflpahaaDoor
set_option linter.unusedVariables false
set_option linter.unusedSimpArgs false
open Go.RowKit Go.Shelf Go.Maps

def lvB (B : List Int) (top : Int) (i : Nat) : List Int := (List.range 4).map fun k => if k < i then (rdN B top).getD k 0 else 0
def pgB (B : List Int) (top : Int) (m : Nat) : List Int := (List.range 128).map fun p => if p < m then (rdN B ((rdN B top).getD (p / 32) 0)).getD (p % 32) 0 else 0
theorem lvB_len (B : List Int) (top : Int) (i : Nat) : (lvB B top i).length = 4 := by simp [lvB]
theorem pgB_len (B : List Int) (top : Int) (i : Nat) : (pgB B top i).length = 128 := by simp [pgB]
theorem lvB_zero (B : List Int) (top : Int) : lvB B top 0 = zs 4 := by simp [lvB, zs, List.range, List.range.loop, List.replicate]
theorem range_zero7 (n : Nat) (f : Nat → Int) (h : ∀ k, k < n → f k = 0) : (List.range n).map f = zs n := by
  apply List.ext_getElem (by simp [zs])
  intro i h1 h2
  simp only [zs, List.getElem_map, List.getElem_range, List.getElem_replicate]
  exact h i (by simpa using h1)
theorem pgB_zero (B : List Int) (top : Int) : pgB B top 0 = zs 128 := range_zero7 _ _ (fun k hk => by simp)
theorem rdN_zero (B : List Int) (k : Nat) : (rdN B 0).getD k 0 = 0 := by
  unfold rdN nd0
  rw [if_pos rfl, List.getD_eq_getElem?_getD, List.getElem?_replicate]
  split <;> rfl
theorem lvB_top0 (B : List Int) (i : Nat) : lvB B 0 i = zs 4 := range_zero7 _ _ (fun k hk => by simp only [rdN_zero]; simp)
theorem pgB_top0 (B : List Int) (i : Nat) : pgB B 0 i = zs 128 := range_zero7 _ _ (fun k hk => by simp only [rdN_zero]; simp)
theorem range_set7 (n : Nat) (f g : Nat → Int) (i : Nat) (x : Int) (hi : g i = x) (h : ∀ k, k < n → k ≠ i → g k = f k) : ((List.range n).map f).set i x = (List.range n).map g := by
  apply List.ext_getElem (by simp)
  intro k h1 h2
  rw [List.getElem_set]
  simp only [List.getElem_map, List.getElem_range]
  split
  · rename_i e; subst e; exact hi.symm
  · rename_i e; exact (h k (by simpa using h2) (fun q => e q.symm)).symm
theorem range_same7 (n : Nat) (f g : Nat → Int) (h : ∀ k, k < n → g k = f k) : (List.range n).map f = (List.range n).map g := by
  apply List.map_congr_left
  intro k hk
  exact (h k (by simpa using hk)).symm
theorem lvB_step (B : List Int) (top : Int) (i : Nat) (hi : i < 4) : (lvB B top i).set i ((rdN B top).getD i 0) = lvB B top (i + 1) :=
  range_set7 _ _ _ _ _ (by rw [if_pos (by omega)]) (fun k hk h => by
    by_cases q : k < i
    · rw [if_pos q, if_pos (by omega)]
    · rw [if_neg q, if_neg (by omega)])
theorem lvB_skip (B : List Int) (top : Int) (i : Nat) (h : (rdN B top).getD i 0 = 0) : lvB B top i = lvB B top (i + 1) :=
  range_same7 _ _ _ (fun k hk => by
    by_cases q : k < i
    · rw [if_pos q, if_pos (by omega)]
    · by_cases e : k = i
      · subst e; rw [if_pos (by omega), if_neg q, h]
      · rw [if_neg q, if_neg (by omega)])
theorem pgB_step (B : List Int) (top : Int) (i k : Nat) (hk : k < 32) : (pgB B top (32 * i + k)).set (32 * i + k) ((rdN B ((rdN B top).getD i 0)).getD k 0) = pgB B top (32 * i + (k + 1)) :=
  range_set7 _ _ _ _ _ (by rw [if_pos (by omega), show (32 * i + k) / 32 = i from by omega, show (32 * i + k) % 32 = k from by omega]) (fun p hp h => by
    by_cases q : p < 32 * i + k
    · rw [if_pos q, if_pos (by omega)]
    · rw [if_neg q, if_neg (by omega)])
theorem pgB_skip1 (B : List Int) (top : Int) (i k : Nat) (hk : k < 32) (h : (rdN B ((rdN B top).getD i 0)).getD k 0 = 0) : pgB B top (32 * i + k) = pgB B top (32 * i + (k + 1)) :=
  range_same7 _ _ _ (fun p hp => by
    by_cases q : p < 32 * i + k
    · rw [if_pos q, if_pos (by omega)]
    · by_cases e : p = 32 * i + k
      · subst e; rw [if_pos (by omega), if_neg (by omega), show (32 * i + k) / 32 = i from by omega, show (32 * i + k) % 32 = k from by omega, h]
      · rw [if_neg q, if_neg (by omega)])
theorem pgB_skip (B : List Int) (top : Int) (i : Nat) (h : (rdN B top).getD i 0 = 0) : pgB B top (32 * i) = pgB B top (32 * (i + 1)) :=
  range_same7 _ _ _ (fun p hp => by
    by_cases q : p < 32 * i
    · rw [if_pos q, if_pos (by omega)]
    · by_cases e : p < 32 * (i + 1)
      · rw [if_pos e, if_neg q, show p / 32 = i from by omega, h, rdN_zero]
      · rw [if_neg q, if_neg e])
theorem lvB_full (B : List Int) (top : Int) : lvB B top 32 = lvB B top 4 := range_same7 _ _ _ (fun k hk => by rw [if_pos (by omega), if_pos (by omega)])
theorem pgB_full (B : List Int) (top : Int) : pgB B top (32 * 32) = pgB B top 128 := range_same7 _ _ _ (fun k hk => by rw [if_pos (by omega), if_pos (by omega)])
/-- What the walk has seen behind i leaves; behind k pages of a leaf. -/
def oT (B : List Int) (N : Nat) (top : Int) (i : Nat) : Option (List (Int × Int)) := (entsF (ndB B top.toNat) i).foldl (leafS (fun n => ndB B n.toNat) N) (metS N (some []) top (-1))
def oP (B : List Int) (N : Nat) (top : Int) (i : Nat) (leaf : Int) (k : Nat) : Option (List (Int × Int)) := (entsF (ndB B leaf.toNat) k).foldl (fun o y => metS N o y.2 ((i : Int) * 32 + (y.1 : Int))) (metS N (oT B N top i) leaf (-1))
theorem treeB_oT {B : List Int} {N : Nat} {top : Int} (h : top ≠ 0) : treeB B N top = oT B N top 32 := by
  unfold treeB treeS oT ents
  rw [if_neg h]
theorem oT_zero (B : List Int) (N : Nat) (top : Int) : oT B N top 0 = metS N (some []) top (-1) := by simp [oT, entsF]
theorem oT_skip {B : List Int} {N : Nat} {top : Int} {i : Nat} (h : (ndB B top.toNat).getD i 0 = 0) : oT B N top (i + 1) = oT B N top i := by
  unfold oT
  rw [entsF_succ, if_pos h, List.append_nil]
theorem oT_step {B : List Int} {N : Nat} {top : Int} {i : Nat} (hi : i < 4) (h : (ndB B top.toNat).getD i 0 ≠ 0) : oT B N top (i + 1) = oP B N top i ((ndB B top.toNat).getD i 0) 32 := by
  unfold oP
  rw [show oT B N top (i + 1) = leafS (fun n => ndB B n.toNat) N (oT B N top i) (i, (ndB B top.toNat).getD i 0) from by
    unfold oT
    rw [entsF_succ, if_neg h, List.foldl_append]
    rfl]
  unfold leafS ents
  rw [if_pos hi]
theorem oT_far {B : List Int} {N : Nat} {top : Int} {i : Nat} (hi : ¬ i < 4) (h : (ndB B top.toNat).getD i 0 ≠ 0) : oT B N top (i + 1) = none := by
  rw [show oT B N top (i + 1) = leafS (fun n => ndB B n.toNat) N (oT B N top i) (i, (ndB B top.toNat).getD i 0) from by
    unfold oT
    rw [entsF_succ, if_neg h, List.foldl_append]
    rfl]
  unfold leafS
  rw [if_neg hi]
theorem oT_none {B : List Int} {N : Nat} {top : Int} {i : Nat} (hi : i ≤ 32) (h : oT B N top i = none) : oT B N top 32 = none := by
  have hpx := entsF_prefix (ndB B top.toNat) i (32 - i)
  rw [show i + (32 - i) = 32 from by omega] at hpx
  exact fold_prefix_none _ (fun x => leafS_none _ _ x) hpx _ h
theorem oP_zero (B : List Int) (N : Nat) (top : Int) (i : Nat) (leaf : Int) : oP B N top i leaf 0 = metS N (oT B N top i) leaf (-1) := by simp [oP, entsF]
theorem oP_skip {B : List Int} {N : Nat} {top : Int} {i k : Nat} {leaf : Int} (h : (ndB B leaf.toNat).getD k 0 = 0) : oP B N top i leaf (k + 1) = oP B N top i leaf k := by
  unfold oP
  rw [entsF_succ, if_pos h, List.append_nil]
theorem oP_step {B : List Int} {N : Nat} {top : Int} {i k : Nat} {leaf : Int} (h : (ndB B leaf.toNat).getD k 0 ≠ 0) : oP B N top i leaf (k + 1) = metS N (oP B N top i leaf k) ((ndB B leaf.toNat).getD k 0) ((i : Int) * 32 + (k : Int)) := by
  unfold oP
  rw [entsF_succ, if_neg h, List.foldl_append]
  rfl
theorem oP_none {B : List Int} {N : Nat} {top : Int} {i k : Nat} {leaf : Int} (hk : k ≤ 32) (h : oP B N top i leaf k = none) : oP B N top i leaf 32 = none := by
  have hpx := entsF_prefix (ndB B leaf.toNat) k (32 - k)
  rw [show k + (32 - k) = 32 from by omega] at hpx
  exact fold_prefix_none _ (fun x => metS_none _ _ _) hpx _ h
theorem okM_okT {N : Nat} {s : List (Int × Int)} {n : Int} : okM N s n ↔ okT N (s.map Prod.fst) n := Iff.rfl

def trZ : List Value := TrC 0 (zs 4) (zs 128) (.slice none 0 0)
theorem size_tr : (Tryd.prog.info? 47).map (·.size) = some 134 := by kernel_rfl
theorem trC_len {top : Int} {lv pg : List Int} {v : Value} (h1 : lv.length = 4) (h2 : pg.length = 128) : (TrC top lv pg v).length = 134 := by simp [TrC, ints7_len, h1, h2]
theorem trC_one {top : Int} {lv pg : List Int} {a : Option Addr} {n c : Nat} : ∀ u ∈ TrC top lv pg (.slice a n c), u.oneCell' = true := by
  intro u hu
  simp only [TrC, ints7, List.mem_cons, List.mem_append, List.mem_map, List.not_mem_nil, or_false] at hu
  rcases hu with rfl | ⟨x, _, rfl⟩ | ⟨x, _, rfl⟩ | rfl <;> rfl
theorem alloc_tr {ops : Array Oper} {rest : List Oper} {o : Oper} {a : Act} {w : World} {Q : Exit → Act → World → Prop} (b : Nat) (hb : w.heap.size = b) (hg : o.guard = none) (ho : o.op = .alloc 47)
    (hK : wpList Tryd.prog ops Q rest (a.put o.dst (.pointer (some ⟨b, 0, none⟩))) (w.alloc (.cells trZ.toArray 47))) : wpList Tryd.prog ops Q (o :: rest) a w := by
  subst hb
  have hr : (Instr.alloc 47 true (.tuple #[])).run Tryd.prog w = .ok (.pointer (some ⟨w.heap.size, 0, none⟩)) (w.alloc (.cells trZ.toArray 47)) := by kernel_rfl
  refine wpList_plain hg fun K' hK' => ?_
  unfold Oper.wp
  simp only [execOp, ho, Sem.run_bind, hr, Result.andThen]
  exact hK' _ _ hK
theorem build_tr0 {ops : Array Oper} {rest : List Oper} {o : Oper} {a : Act} {w : World} {Q : Exit → Act → World → Prop} (hg : o.guard = none) (ho : o.op = .build 47 #[])
    (hK : wpList Tryd.prog ops Q rest (a.put o.dst (.agg trZ.toArray)) w) : wpList Tryd.prog ops Q (o :: rest) a w := by
  have hr : (Instr.build 47 #[]).run Tryd.prog w = .ok (.agg trZ.toArray) w := by kernel_rfl
  refine wpList_plain hg fun K' hK' => ?_
  unfold Oper.wp
  have hm : (#[] : Array (Nat × Operand)).map (fun x => (x.1, a.eval x.2)) = #[] := by simp
  simp only [execOp, ho, Sem.run_bind, hm, hr, Result.andThen]
  exact hK' _ _ hK
theorem build_tr1 {ops : Array Oper} {rest : List Oper} {o : Oper} {a : Act} {w : World} {Q : Exit → Act → World → Prop} (hg : o.guard = none) (x : Operand) (top : Int) (ho : o.op = .build 47 #[(0, x)]) (hx : a.eval x = .int .i64 top)
    (hK : wpList Tryd.prog ops Q rest (a.put o.dst (.agg (TrC top (zs 4) (zs 128) (.slice none 0 0)).toArray)) w) : wpList Tryd.prog ops Q (o :: rest) a w := by
  have hr : (Instr.build 47 #[(0, .int .i64 top)]).run Tryd.prog w = .ok (.agg (TrC top (zs 4) (zs 128) (.slice none 0 0)).toArray) w := by kernel_rfl
  refine wpList_plain hg fun K' hK' => ?_
  unfold Oper.wp
  have hm : (#[(0, x)] : Array (Nat × Operand)).map (fun x => (x.1, a.eval x.2)) = #[(0, .int .i64 top)] := by simp [hx]
  simp only [execOp, ho, Sem.run_bind, hm, hr, Result.andThen]
  exact hK' _ _ hK
theorem load_tr {ops : Array Oper} {rest : List Oper} {o : Oper} {a : Act} {w : World} {Q : Exit → Act → World → Prop} (hg : o.guard = none) (x : Operand) (ho : o.op = .load 47 x)
    (b : Nat) (cs : List Value) (hx : a.eval x = .pointer (some ⟨b, 0, none⟩)) (h : w.heap[b]? = some (.cells cs.toArray 47 (0, 0))) (hl : cs.length = 134)
    (hK : wpList Tryd.prog ops Q rest (a.put o.dst (.agg cs.toArray)) w) : wpList Tryd.prog ops Q (o :: rest) a w :=
  wpList_load_mid hg _ x ho b 0 hx cs _ (fun j v hj => by rw [Nat.zero_add]; exact heap_cell h (by simpa using hj)) Tryd.underlying47 rfl (by rw [size_tr, hl]) hK
theorem store_tr {ops : Array Oper} {rest : List Oper} {o : Oper} {a : Act} {w : World} {Q : Exit → Act → World → Prop} (hg : o.guard = none) (x y : Operand) (ho : o.op = .store 47 x y)
    (b : Nat) (cs cs0 : List Value) (hx : a.eval x = .pointer (some ⟨b, 0, none⟩)) (hy : a.eval y = .agg cs.toArray) (h : w.heap[b]? = some (.cells cs0.toArray 47 (0, 0))) (hl : cs.length = 134) (hl0 : cs0.length = 134) (h1 : ∀ u ∈ cs, u.oneCell' = true)
    (hK : ∀ w', Fr (fun k => k = b) w w' → w'.heap[b]? = some (.cells cs.toArray 47 (0, 0)) → wpList Tryd.prog ops Q rest (a.put o.dst undef) w') : wpList Tryd.prog ops Q (o :: rest) a w := by
  refine wpList_store_mid hg _ x y ho b 0 cs.toArray hx hy (fun j hj => ?_) (by rw [size_tr, List.size_toArray, hl]) (all_oneCell_toArray h1) ?_
  · rw [Nat.zero_add]
    have hj' : j < cs0.length := by simp at hj; omega
    exact ⟨by rw [heap_cell h (v := cs0[j]) (by simp [hj'])]; rfl, heap_frozen h⟩
  · exact hK _ (fr_setCells7 _ _ _ _) (heap_setCells7 h cs (by omega))
theorem ret_tr {fn : Func} {p q : Tmp} (hfn : fn.results = #[.cell p 47, .tmp q]) {Q : Ending → World → Prop} {a : Act} {w : World} {b : Nat} {cs : List Value} {v1 : Value} (hp : a.tmps.getD p undef = .pointer (some ⟨b, 0, none⟩)) (hq : a.tmps.getD q undef = v1)
    (h : w.heap[b]? = some (.cells cs.toArray 47 (0, 0))) (hl : cs.length = 134) (hd : a.defers = []) (hR : Q (.returned (.tuple #[.agg cs.toArray, v1])) w) : bodyPost Tryd.prog fn Q .ret a w := by
  refine bodyPost_ret ?_ hd hR
  rw [results_cell7_tmp hfn, hp, hq]
  have hl := run_loadVar_mid (P := Tryd.prog) w b 0 47 cs _ (fun j v hj => by rw [Nat.zero_add]; exact heap_cell h (by simpa using hj)) Tryd.underlying47 rfl (by rw [size_tr, hl])
  simp only [asAddr, Sem.run_pure, Result.andThen_ok, hl]
theorem rdnodeI_calls {w : World} {db N : Nat} {B : List Int} (h : RfR w db N B) (n : Int) (h0 : 0 ≤ n) (hi : n < (N : Int)) :
    Calls Tryd.prog 41 #[.pointer (some ⟨db, 0, none⟩), .int .i64 n] w fun e w' => e = .returned (.agg (nds (ndB B n.toNat)).toArray) ∧ Fr No w w' := by
  obtain ⟨i, rfl⟩ : ∃ i : Nat, n = (i : Int) := ⟨n.toNat, by omega⟩
  exact rdnode_calls h i (by omega)
end Go.Proofs.YtpcikbloflpahaaDoor
