/-
  Numbers laid down as bytes: the program's PutNum, over 'each'.
-/
import Derived.Test.YtpcikbloflpahaaDoorLe3
namespace Go.Proofs.YtpcikbloflpahaaDoor
set_option linter.unusedVariables false
set_option linter.unusedSimpArgs false
open Go.RowKit Go.Shelf

set_option maxRecDepth 100000 in
theorem put1_calls (nb ob g i k cap base : Nat) (l : List Int) (n : Int) (w : World) (hk : k < 8) (hi : i < l.length) (hlen : l.length ≤ 1000000) (hn : 0 ≤ n ∧ n < 18446744073709551616)
    (h1 : w.cell? ⟨nb, 0, none⟩ = some (.int .u64 n)) (h2 : w.cell? ⟨ob, 0, none⟩ = some (.slice (some ⟨g, 0, none⟩) l.length cap)) (hr : w.ownsRow base 5 1 (.slice (some ⟨g, 0, none⟩) l.length cap) l.length (bys l)) :
    Calls Tryd.prog 92 #[.int .i64 i, .int .i64 k, .pointer (some ⟨nb, 0, none⟩), .pointer (some ⟨ob, 0, none⟩)] w fun e w' => e = .returned (.tuple #[]) ∧ w'.ownsRow base 5 1 (.slice (some ⟨g, 0, none⟩) l.length cap) l.length (bys (l.set i (IntKind.u8.wrap (n / 2 ^ (8 * k))))) ∧ Fr (fun c => c = g) w w' := by
  have hc1 := (hr.cellAt i (by omega)).trans (bys_get _ _ hi)
  have f1 := hr.frozenAt i
  have hst := hr.stored i (.int .u8 (IntKind.u8.wrap (n / 2 ^ (8 * k))))
  rw [bys_set] at hst
  have HST := Lib.hid hst
  obtain ⟨hn0, hn1⟩ := hn
  revert hc1
  generalize l[i] = x
  intro hc1
  clear hr hst
  go_enter Tryd.func92, Tryd.ntmps92
  go_region
  go_end0
  obtain ⟨q1, q2⟩ := HST.out
  exact ⟨rfl, q1.drew, ((Fr.refl (fun c => c = g) _).setCell (p := ⟨g, i, none⟩) (fun _ => rfl) _).drew⟩

set_option maxRecDepth 100000 in
theorem put_calls (v : Value) (l : List Int) (at_ K : Nat) (n : Int) (w : World) (hK : K ≤ 8) (hl : at_ + K ≤ l.length) (hlen : l.length ≤ 1000000) (hn : 0 ≤ n ∧ n < 18446744073709551616) (hne : 0 < l.length) (hv : Sl w v l.length (bys l)) :
    Calls Tryd.prog 79 #[v, .int .i64 at_, .int .i64 K, .int .u64 n] w fun e w' => ∃ r, e = .returned r ∧ Fr No w w' ∧ w'.ownsRow w.heap.size 5 1 r l.length (bys (putL l at_ n K)) := by
  obtain ⟨a, cap, rfl⟩ := hv.form
  have hF3x : ∀ w3, (w.alloc (Obj.cells #[.int .u64 n] 69)).grownBy w3 (Value.slice none 0 0).ownBlock → w3.heap[w.heap.size]? = some (.cells #[.int .u64 n] 69 (0, 0)) := fun w3 h => (h.block _ (by simp) (by simp [Value.ownBlock])).trans (heap_new w _)
  have hv0 := hv.fr0 ((Fr.refl No w).alloc (Obj.cells #[.int .u64 n] 69))
  go_enter Tryd.func79, Tryd.ntmps79
  go_wp2_with (at_builtin; refine append_sl el_u8 rfl _ _ rfl w.heap.size (.slice none 0 0) 0 [] rfl (World.ownsRow_nil _ _ _ _) rfl hv0 (by rw [bys_len, Nat.mul_one]) (bys_one l) (by unfold maxLen; omega) (by omega) (by simp) ?_; intro v' w3 hown' hgrow; rw [Nat.zero_add, List.nil_append] at hown'; obtain ⟨g, cap', rfl, hg1, hg2⟩ := World.ownsRow.form hown' hne; have hF3 : Fr No w w3 := (((Fr.refl _ _).alloc _).grown hgrow (fun k e _ => by cases e)); have hn3 := hF3x w3 hgrow)
  have hgn : g ≠ w.heap.size := fun e => not_row hn3 (by decide) hown' (by simp [Value.ownBlock, e])
  have hF4 : Fr No w (w3.alloc (Obj.cells #[.slice (some ⟨g, 0, none⟩) l.length cap'] 30)) := hF3.alloc _
  refine (each_calls 92 _ _ (fun k wr => wr.ownsRow w.heap.size 5 1 (.slice (some ⟨g, 0, none⟩) l.length cap') l.length (bys (putL l at_ n k)) ∧ Fr (fun c => c = g) (w3.alloc (Obj.cells #[.slice (some ⟨g, 0, none⟩) l.length cap'] 30)) wr)
    l.length at_ K _ hK hl hlen _ cap ⟨hown'.alloc _, Fr.refl _ _⟩ (fun args w => rfl) ?_).mono ?_
  · rintro k wr hk ⟨hrow, hF⟩
    have c1 := hF.cell (heap_cell (o := 0) (heap_alloc (Obj.cells #[.slice (some ⟨g, 0, none⟩) l.length cap'] 30) hn3) rfl) (fun e => hgn e.symm)
    have c2 := hF.cell (heap_cell (o := 0) (heap_new w3 (Obj.cells #[.slice (some ⟨g, 0, none⟩) l.length cap'] 30)) rfl) (by omega)
    have hL := putL_length l at_ n k
    rw [← hL] at hrow c2
    refine (put1_calls w.heap.size w3.heap.size g (at_ + k) k cap' w.heap.size (putL l at_ n k) n wr (by omega) (by omega) (by omega) hn c1 c2 hrow).mono ?_
    rintro e w' ⟨rfl, h1, h2⟩
    rw [hL] at h1
    exact ⟨rfl, h1, hF.trans h2⟩
  · rintro e w' ⟨rfl, hrow, hF⟩
    have c2 := hF.cell (heap_cell (o := 0) (heap_new w3 (Obj.cells #[.slice (some ⟨g, 0, none⟩) l.length cap'] 30)) rfl) (by omega)
    go_wp2
    go_ret
    exact ⟨_, rfl, hF4.trans' hF (fun i hi e => by omega), hrow⟩
end Go.Proofs.YtpcikbloflpahaaDoor
