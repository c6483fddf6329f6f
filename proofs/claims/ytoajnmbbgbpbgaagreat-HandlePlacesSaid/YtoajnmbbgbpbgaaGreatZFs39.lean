/-
  Chapter 12, the reference's table: plainly, and its loops' parts.
-/
import Derived.Test.YtoajnmbbgbpbgaaGreatZF
import Derived.Test.YtoajnmbbgbpbgaaGreatZG
import Derived.Test.YtoajnmbbgbpbgaaGreatZK
import Derived.Test.YtoajnmbbgbpbgaaGreatZFs31
namespace Go.Proofs.YtoajnmbbgbpbgaaGreat
set_option linter.unusedVariables false
set_option linter.unusedSimpArgs false
open Go.RowKit Go.Shelf Go.Maps

theorem el_ino : Elem Tryz.prog 119 95 (.agg #[.string ⟨#[]⟩, .int .i64 0, .slice none 0 0]) 3 48 := ⟨Tryz.underlying119, by kernel_rfl, rfl, by decide⟩
theorem allB_snoc (L : List Nd) (x : Nd) : allB (L ++ [x]) = allB L ++ listF x.ext := by simp [allB]
theorem allB_range (L : List Nd) : ∀ b ∈ allB L, 0 ≤ b ∧ b < 32 := fun b hb => by
  obtain ⟨x, -, h⟩ := (allB_mem L b).1 hb
  have := listF_nine b h; omega
theorem mask_all (L : List Nd) : maskL (allB L) = (usedN L : Int) := by
  have h1 := maskL_nat (allB L) (fun b hb => (allB_range L b hb).2)
  rw [h1.1]
  have h2 := usedN_lt L
  have : maskN (allB L) = usedN L := used_ext h1.2 h2 (fun b hb => by
    rw [maskN_testBit _ (fun c hc => (allB_range L c hc).1), used_mem]
    simp)
  rw [this]
/-- The next inode's blocks meet none that are taken. -/
theorem mask_apart (L : List Nd) (x : Nd) : usedN L &&& maskX x = 0 ↔ ∀ b ∈ listF x.ext, b ∉ allB L := by
  rw [used_apart]
  constructor
  · intro h b hb hm
    obtain ⟨y, hy, hby⟩ := (allB_mem L b).1 hm
    exact (apart_iff y x).1 (h y hy) b hby hb
  · intro h y hy
    exact (apart_iff y x).2 (fun b hb hb2 => h b hb2 ((allB_mem L b).2 ⟨y, hy, hb⟩))
theorem nodC_snoc (T : List TE) (p : TE) : nodC (T ++ [p]) = nodC T ++ [.string p.1.name, .int .i64 p.1.size, p.2] := by simp [nodC]
theorem Sn.fr0 {base : Nat} {w w' : World} {v : Value} {n : Nat} {cs : List Value} (h : Sn base w v n cs) (hF : Fr No w w') : Sn base w' v n cs := ⟨h.1.fr0 hF, h.2⟩

/-- What the reference's table comes to. -/
def RTab (w : World) (B : List Int) (e : Ending) (w' : World) : Prop :=
  Fr No w w' ∧ ((tableF B = none ∧ e = .returned (.tuple #[.slice none 0 0, .int .u32 0, .bool false])) ∨
    ∃ L u T v, tableF B = some (L, u) ∧ T.map Prod.fst = L ∧ e = .returned (.tuple #[v, .int .u32 (u : Int), .bool true]) ∧ w'.ownsRow w.heap.size 95 3 v 8 (nodC T) ∧ ∀ p ∈ T, Sn w.heap.size w' p.2 p.1.ext.length (extCells p.1.ext))
/-- Its state ahead of inode j. -/
structure RtI (w : World) (B : List Int) (j : Nat) (lv av : Value) (wr : World) (T : List TE) (u : Nat) : Prop where
  fr : Fr No w wr
  rd : readT B j = some (T.map Prod.fst, u)
  len : T.length = j
  row : wr.ownsRow w.heap.size 95 3 lv j (nodC T)
  all : wr.ownsRow w.heap.size 3 1 av (allB (T.map Prod.fst)).length (ints (allB (T.map Prod.fst)))
  ext : ∀ p ∈ T, Sn w.heap.size wr p.2 p.1.ext.length (extCells p.1.ext)
theorem RtI.fr0 {w : World} {B : List Int} {j : Nat} {lv av : Value} {wr w' : World} {T : List TE} {u : Nat} (h : RtI w B j lv av wr T u) (hF : Fr No wr w') : RtI w B j lv av w' T u :=
  ⟨h.fr.trans hF, h.rd, h.len, ownsRow_fr h.row hF (fun _ _ h => h), ownsRow_fr h.all hF (fun _ _ h => h), fun p hp => (h.ext p hp).fr0 hF⟩
theorem RtI.pre {w : World} {B : List Int} {j : Nat} {lv av : Value} {wr : World} {T : List TE} {u : Nat} (h : RtI w B j lv av wr T u) : Pre B j (T.map Prod.fst) u := (readT_iff _ _ _ _).1 h.rd
theorem RtI.u {w : World} {B : List Int} {j : Nat} {lv av : Value} {wr : World} {T : List TE} {u : Nat} (h : RtI w B j lv av wr T u) : u = usedN (T.map Prod.fst) := h.pre.2.2.2.2
theorem RtI.all_len {w : World} {B : List Int} {j : Nat} {lv av : Value} {wr : World} {T : List TE} {u : Nat} (h : RtI w B j lv av wr T u) : (allB (T.map Prod.fst)).length ≤ 23 := by
  have h1 := free_sum h.pre.2.2.2.1
  rw [sumB_eq]; omega
/-- A bad inode. -/
theorem read_bad {B : List Int} {j : Nat} {L : List Nd} {u : Nat} (hr : readT B j = some (L, u)) (hj : j < 8) (h : stepT L u (blk B (j + 1)) = none) : tableF B = none :=
  tableF_none (k := j + 1) (by rw [readT, hr, Option.bind_some]; exact h) (by omega)
theorem step_names {L : List Nd} {u : Nat} {l : List Int} (h : decKind l = 1) (hn : L.any (fun y => decide (y.name = decS l)) = true) : stepT L u l = none := by
  unfold stepT
  by_cases h1 : decKind l = 2 ∨ u &&& maskX (nd l) ≠ 0
  · rw [if_pos h1]
  · rw [if_neg h1, if_neg (by rw [h]; decide), if_pos hn]
end Go.Proofs.YtoajnmbbgbpbgaaGreat
