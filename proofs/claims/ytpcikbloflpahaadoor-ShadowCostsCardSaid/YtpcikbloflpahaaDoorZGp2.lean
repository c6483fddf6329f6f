/-
  Chapter 7: the plan of any changes to any tree.
-/
import Derived.Test.YtpcikbloflpahaaDoorZGp1
namespace Go.Proofs.YtpcikbloflpahaaDoor
set_option linter.unusedVariables false
set_option linter.unusedSimpArgs false
open Go.RowKit Go.Shelf Go.Maps

theorem fold_prefix_some {α β : Type} (f : Option β → α → Option β) (hf : ∀ x, f none x = none) {xs ys : List α} (h : xs <+: ys) (o : Option β) {s : β} (hs : ys.foldl f o = some s) : ∃ s', xs.foldl f o = some s' := by
  cases hq : xs.foldl f o with
  | none => rw [fold_prefix_none f hf h o hq] at hs; cases hs
  | some s' => exact ⟨s', rfl⟩
theorem tree_top {B : List Int} {N : Nat} {top : Int} {s : List (Int × Int)} (h : treeB B N top = some s) (hz : top ≠ 0) : 2 ≤ top ∧ top < (N : Int) := by
  unfold treeB treeS at h
  rw [if_neg hz] at h
  by_cases hok : okM N [] top
  · exact ⟨hok.1, hok.2.1⟩
  · rw [metS_bad hok, fold_leafS_none] at h; cases h
theorem tree_leaf {B : List Int} {N : Nat} {top : Int} {s : List (Int × Int)} (h : treeB B N top = some s) (k : Nat) (hk : k < 32) : (rdN B top).getD k 0 = 0 ∨ (k < 4 ∧ 2 ≤ (rdN B top).getD k 0 ∧ (rdN B top).getD k 0 < (N : Int)) := by
  by_cases hz : top = 0
  · left
    unfold rdN
    rw [if_pos hz, List.getD_eq_getElem?_getD, nd0, List.getElem?_replicate]
    split <;> rfl
  by_cases hv : (rdN B top).getD k 0 = 0
  · exact .inl hv
  right
  unfold treeB treeS at h
  rw [if_neg hz] at h
  have hrd : rdN B top = ndB B top.toNat := by unfold rdN; rw [if_neg hz]
  rw [hrd] at hv ⊢
  have hsn := entsF_succ (ndB B top.toNat) k
  rw [if_neg hv] at hsn
  have hpx := entsF_prefix (ndB B top.toNat) (k + 1) (32 - (k + 1))
  rw [show k + 1 + (32 - (k + 1)) = 32 from by omega] at hpx
  obtain ⟨s1, h1⟩ := fold_prefix_some _ (leafS_none _ N) hpx _ h
  rw [hsn, List.foldl_append] at h1
  rw [List.foldl_cons, List.foldl_nil] at h1
  generalize (entsF (ndB B top.toNat) k).foldl (leafS (fun n => ndB B n.toNat) N) (metS N (some []) top (-1)) = o at h1
  cases o with
  | none => rw [leafS_none] at h1; cases h1
  | some s2 =>
    unfold leafS at h1
    split at h1
    · next h4 =>
      by_cases hok : okM N s2 ((ndB B top.toNat).getD k 0)
      · exact ⟨h4, hok.1, hok.2.1⟩
      · rw [metS_bad hok, fold_metS_none] at h1; cases h1
    · cases h1

set_option maxRecDepth 1000000 in
theorem built_plan32 (lm : Nat) (old : Int) (sm : Bool) (a0 a1 a2 a3 a4 a5 a6 a7 a8 a9 a10 a11 a12 a13 a14 a15 a16 a17 a18 a19 a20 a21 a22 a23 a24 a25 a26 a27 a28 a29 a30 a31 : Int) : Tryd.prog.built 129 [(1, .agg (nds [a0, a1, a2, a3, a4, a5, a6, a7, a8, a9, a10, a11, a12, a13, a14, a15, a16, a17, a18, a19, a20, a21, a22, a23, a24, a25, a26, a27, a28, a29, a30, a31]).toArray), (2, .map (some lm)), (3, .int .i64 old), (4, .bool sm)] = some (PlC (.slice none 0 0) [a0, a1, a2, a3, a4, a5, a6, a7, a8, a9, a10, a11, a12, a13, a14, a15, a16, a17, a18, a19, a20, a21, a22, a23, a24, a25, a26, a27, a28, a29, a30, a31] lm old sm).toArray := by kernel_rfl
theorem built_plang (lm : Nat) (tn : List Int) (hl : tn.length = 32) (old : Int) (sm : Bool) : Tryd.prog.built 129 [(1, .agg (nds tn).toArray), (2, .map (some lm)), (3, .int .i64 old), (4, .bool sm)] = some (PlC (.slice none 0 0) tn lm old sm).toArray := by
  match tn, hl with
  | [a0, a1, a2, a3, a4, a5, a6, a7, a8, a9, a10, a11, a12, a13, a14, a15, a16, a17, a18, a19, a20, a21, a22, a23, a24, a25, a26, a27, a28, a29, a30, a31], _ => exact built_plan32 lm old sm a0 a1 a2 a3 a4 a5 a6 a7 a8 a9 a10 a11 a12 a13 a14 a15 a16 a17 a18 a19 a20 a21 a22 a23 a24 a25 a26 a27 a28 a29 a30 a31
theorem build_plang {ops : Array Oper} {rest : List Oper} {o : Oper} {a : Act} {w : World} {Q : Exit → Act → World → Prop} (hg : o.guard = none) (x1 x2 x3 x4 : Operand) (ho : o.op = .build 129 #[(1, x1), (2, x2), (3, x3), (4, x4)]) (lm : Nat) (tn : List Int) (hl : tn.length = 32) (old : Int) (sm : Bool) (h1 : a.eval x1 = .agg (nds tn).toArray) (h2 : a.eval x2 = .map (some lm)) (h3 : a.eval x3 = .int .i64 old) (h4 : a.eval x4 = .bool sm)
    (hK : wpList Tryd.prog ops Q rest (a.put o.dst (.agg (PlC (.slice none 0 0) tn lm old sm).toArray)) w) : wpList Tryd.prog ops Q (o :: rest) a w := by
  have hr : (Instr.build 129 #[(1, .agg (nds tn).toArray), (2, .map (some lm)), (3, .int .i64 old), (4, .bool sm)]).run Tryd.prog w = .ok (.agg (PlC (.slice none 0 0) tn lm old sm).toArray) w := run_build w _ _ _ (built_plang lm tn hl old sm)
  refine wpList_plain hg fun K' hK' => ?_
  unfold Oper.wp
  have hm : (#[((1 : Nat), x1), (2, x2), (3, x3), (4, x4)] : Array (Nat × Operand)).map (fun x => (x.1, a.eval x.2)) = #[(1, a.eval x1), (2, a.eval x2), (3, a.eval x3), (4, a.eval x4)] := by simp
  simp only [execOp, ho, Sem.run_bind, hm, h1, h2, h3, h4, hr, Result.andThen]
  exact hK' _ _ hK
theorem sreadn_calls {w : World} {db : Nat} {A : Nat → Prop} {acts N : Nat} {B : List Int} (h : DkR w db A acts N B) (n : Int) (hn : n = 0 ∨ 2 ≤ n ∧ n < (N : Int)) :
    Calls Tryd.prog 58 #[.pointer (some ⟨db, 0, none⟩), .int .i64 n] w fun e w' => e = .returned (.agg (nds (rdN B n)).toArray) ∧ Fr No w w' := by
  rcases hn with rfl | hn
  · exact sread0_calls _ _
  · have e : ((n.toNat : Nat) : Int) = n := by omega
    have := sreadg_calls h n.toNat (by omega) (by omega)
    rw [e] at this
    unfold rdN
    rw [if_neg (by omega)]
    exact this

/-- A plan, in blocks from n on: the pages that have something, the leaves, the top. -/
structure PlG (n : Nat) (wx : World) (pb lm : Nat) (tn : List Int) (F : LfF) (old : Int) (sm : Bool) (ps : List Chg) : Prop where
  box : ∃ pv vs, wx.heap[pb]? = some (.cells (PlC pv tn lm old sm).toArray 129 (0, 0)) ∧ wx.ownsRow n 32 2 pv ps.length (chgCells vs) ∧ ChV n ps vs wx
  map : MapAt Tryd.prog 3 wx lm (cnt4 F) (mpF F)
  n1 : n ≤ pb
  n2 : n ≤ lm
  len : tn.length = 32
/-- How planned ends. -/
def PlanQ (w : World) (B : List Int) (N : Nat) (top : Int) (L : List ChA) (e : Ending) (w' : World) : Prop :=
  Fr No w w' ∧
  (((∃ y ∈ L, ¬ goodC y) ∧ e = .panicked [{ v := .iface 122 (.agg #[.int .i64 1]), recovered := false }]) ∨
   ((∀ y ∈ L, goodC y) ∧ treeB B N top = none ∧ e = .panicked [{ v := .iface 122 (.agg #[.int .i64 60]), recovered := false }]) ∨
   ((∀ y ∈ L, goodC y) ∧ (∃ s, treeB B N top = some s) ∧ ∃ pb lm, e = .returned (.pointer (some ⟨pb, 0, none⟩)) ∧
     PlG w.heap.size w' pb lm (topF (rdN B top) (plnF B (rdN B top) (outG (pagesG L 128)))) (keepF (plnF B (rdN B top) (outG (pagesG L 128)))) top (decide (outG (pagesG L 128) = [])) (fullC (outG (pagesG L 128)))))
theorem pagesG_good {L : List ChA} (hg : ∀ y ∈ L, goodC y) : ∀ n : Nat, n ≤ 128 → ∀ y ∈ pagesG L n, goodC y := by
  intro n
  induction n with
  | zero => intro _ y hy; simp [pagesG] at hy
  | succ n ih =>
    intro hn y hy
    rw [pagesG, List.mem_append] at hy
    rcases hy with hy | hy
    · exact ih (by omega) y hy
    · split at hy
      · next b hb => simp at hy; subst hy; exact hg _ (lastG_mem hb)
      · simp at hy
theorem outG_good {L : List ChA} (hg : ∀ y ∈ L, goodC y) : ∀ c ∈ outG (pagesG L 128), 0 ≤ c.1 ∧ c.1 < 128 ∧ c.2.length = 64 := by
  intro c hc
  simp only [outG, List.mem_map] at hc
  obtain ⟨y, hy, rfl⟩ := hc
  exact pagesG_good hg 128 (Nat.le_refl _) y hy
end Go.Proofs.YtpcikbloflpahaaDoor
