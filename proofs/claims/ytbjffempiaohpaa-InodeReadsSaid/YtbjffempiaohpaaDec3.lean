/-
  Bytes read as an inode: the reference's Decode; both as contracts.
-/
import Derived.Test.YtbjffempiaohpaaDec2
namespace Go.Proofs.Ytbjffempiaohpaa
set_option linter.unusedVariables false
set_option linter.unusedSimpArgs false
open Go.RowKit Go.Shelf
open Extern.Stop (cell)

/-- What Decode comes to. -/
def zeroIno (ok : Bool) (n : Int) : Ending := .returned (.tuple #[.agg #[.string ⟨#[]⟩, .int .i64 0, .slice none 0 0], .bool ok, .int .i64 n])
def DecPost (w : World) (l : List Int) (e : Ending) (w' : World) : Prop :=
  Fr No w w' ∧ ((decKind l = 0 ∧ e = zeroIno false 0) ∨ (decKind l = 1 ∧ ∃ r, e = .returned (.tuple #[.agg #[.string (nameOf l), .int .i64 (sizeOf' l), r], .bool true, .int .i64 0]) ∧ Sl w' r (extsF l 23 0).length (extCells (extsF l 23 0))) ∨ (decKind l = 2 ∧ e = zeroIno false 110))

theorem decode_calls (v : Value) (l : List Int) (w : World) (hlen : l.length ≤ 1000) (h0 : ∀ b ∈ l, 0 ≤ b ∧ b < 256) (hv : Sl w v l.length (bys l)) :
    Calls Try.prog 10 #[v] w (DecPost w l) := by
  by_cases h1 : l.length = 64
  · by_cases h2 : l = zs 64
    · have hb : decide (15 < l.getD 0 0) = false := by rw [h2]; decide
      refine (dec_zero v l w h1 h0 hv hb h2).mono ?_
      rintro e w' ⟨rfl, hF⟩
      exact ⟨hF, .inl ⟨by rw [decKind, if_neg (by omega), if_pos h2], rfl⟩⟩
    · by_cases h3 : 15 < l.getD 0 0
      · refine (dec_bad v l w hlen h0 hv (.inr ⟨h1, h3⟩)).mono ?_
        rintro e w' ⟨rfl, hF⟩
        exact ⟨hF, .inr (.inr ⟨by rw [decKind, if_neg (by omega), if_neg h2, if_pos h3], rfl⟩)⟩
      · refine (dec_good v l w h1 h0 hv (decide_eq_false h3) h2).mono ?_
        rintro e w' ⟨hF, ⟨ho, r, rfl, hr⟩ | ⟨ho, rfl⟩⟩
        · exact ⟨hF, .inr (.inl ⟨by rw [decKind, if_neg (by omega), if_neg h2, if_neg h3, if_pos ho], r, rfl, hr⟩)⟩
        · exact ⟨hF, .inr (.inr ⟨by rw [decKind, if_neg (by omega), if_neg h2, if_neg h3, ho]; rfl, rfl⟩)⟩
  · refine (dec_bad v l w hlen h0 hv (.inl h1)).mono ?_
    rintro e w' ⟨rfl, hF⟩
    exact ⟨hF, .inr (.inr ⟨by rw [decKind, if_pos h1], rfl⟩)⟩

set_option maxHeartbeats 1000000 in
set_option maxRecDepth 1000000 in
theorem rdec_len (v : Value) (l : List Int) (w : World) (hlen : l.length ≤ 1000) (hv : Sl w v l.length (bys l)) (h1 : l.length ≠ 64) :
    Calls Try.prog 11 #[v] w fun e w' => e = zeroIno false 110 ∧ Fr No w w' := by
  obtain ⟨a, cap, rfl⟩ := hv.form
  go_enter Try.func11, Try.ntmps11
  go_wp2
  refine bodyPost_ret (v := .tuple #[.agg #[.string ⟨#[]⟩, .int .i64 0, .slice none 0 0], .bool false, .int .i64 110]) (by simp [results, Try.results11, go_sem]) rfl ⟨rfl, (Fr.refl _ _).alloc _⟩

theorem rsame_zero (a : Option Addr) (cap : Nat) (l : List Int) (w : World) (z : Bool) (h1 : l.length = 64) (h0 : ∀ b ∈ l, 0 ≤ b ∧ b < 256) (hv : Sl w (.slice a 64 cap) 64 (bys l)) (hz : decide (l = zs 64) = z) :
    Calls Try.prog 14 #[.slice a 64 cap, .slice (some ⟨w.heap.size + 1, 0, none⟩) 64 64] ((w.alloc (Obj.cells #[.string ⟨#[]⟩, .int .i64 0, .slice none 0 0] 26)).alloc (Obj.cells (bys (zs 64)).toArray 5))
      fun e w' => e = .returned (.bool z) ∧ ((w.alloc (Obj.cells #[.string ⟨#[]⟩, .int .i64 0, .slice none 0 0] 26)).alloc (Obj.cells (bys (zs 64)).toArray 5)) = w' := by
  have hF0 : Fr No w ((w.alloc (Obj.cells #[.string ⟨#[]⟩, .int .i64 0, .slice none 0 0] 26)).alloc (Obj.cells (bys (zs 64)).toArray 5)) := ((Fr.refl _ _).alloc _).alloc _
  subst hz
  exact same01_calls (.slice a 64 cap) (.slice (some ⟨w.heap.size + 1, 0, none⟩) 64 64) l (zs 64) _ h0 (zs_range 64) (by rw [h1]; exact hv.fr0 hF0)
    (by have := (Row.new (w.alloc (Obj.cells #[.string ⟨#[]⟩, .int .i64 0, .slice none 0 0] 26)) 5 (zs 64)).sl; rw [zs_length] at this ⊢; simpa using this)

set_option maxHeartbeats 1000000 in
set_option maxRecDepth 1000000 in
theorem rdec_zero (v : Value) (l : List Int) (w : World) (h1 : l.length = 64) (h0 : ∀ b ∈ l, 0 ≤ b ∧ b < 256) (hv : Sl w v l.length (bys l)) (hz : l = zs 64) :
    Calls Try.prog 11 #[v] w fun e w' => e = zeroIno false 0 ∧ Fr No w w' := by
  obtain ⟨a, cap, rfl⟩ := hv.form
  have hF0 : Fr No w ((w.alloc (Obj.cells #[.string ⟨#[]⟩, .int .i64 0, .slice none 0 0] 26)).alloc (Obj.cells (bys (zs 64)).toArray 5)) := ((Fr.refl _ _).alloc _).alloc _
  rw [h1] at hv ⊢
  have HS' := Lib.hid (rsame_zero a cap l w true h1 h0 hv (decide_eq_true hz))
  have hmk : ∀ w : World, (Instr.makeSlice 22 (.int .i64 64) (.int .i64 64)).run Try.prog w = .ok (.slice (some ⟨w.heap.size, 0, none⟩) 64 64) (w.alloc (.cells (bys (zs 64)).toArray 5)) := fun w => mk_bytes w 64 (by omega)
  have HB0 := heap_alloc (Obj.cells (bys (zs 64)).toArray 5) (heap_new w (Obj.cells #[.string ⟨#[]⟩, .int .i64 0, .slice none 0 0] 26))
  have o0 := heap_cell (o := 0) HB0 rfl
  have o1 := heap_cell (o := 1) HB0 rfl
  have o2 := heap_cell (o := 2) HB0 rfl
  have p0 := heap_frozen (o := 0) HB0
  have p1 := heap_frozen (o := 1) HB0
  have p2 := heap_frozen (o := 2) HB0
  have HB := Lib.hid HB0
  clear hz hv HB0
  go_enter Try.func11, Try.ntmps11
  go_wp2_with (go_at_call 14; ((with_reducible refine HS'.out.mono ?_); rintro e w1 ⟨rfl, rfl⟩))
  have q := heap_set3 (.string ⟨#[]⟩) (.int .i64 0) (.slice none 0 0) HB.out
  have q0 := heap_cell (o := 0) q rfl
  have q1 := heap_cell (o := 1) q rfl
  have q2 := heap_cell (o := 2) q rfl
  refine bodyPost_ret (v := .tuple #[.agg #[.string ⟨#[]⟩, .int .i64 0, .slice none 0 0], .bool false, .int .i64 0]) (by simp [results, Try.results11, go_sem, q0, q1, q2]) rfl ⟨rfl, hF0⟩

set_option maxHeartbeats 1000000 in
set_option maxRecDepth 1000000 in
theorem rdec_bad (v : Value) (l : List Int) (w : World) (h1 : l.length = 64) (h0 : ∀ b ∈ l, 0 ≤ b ∧ b < 256) (hv : Sl w v l.length (bys l)) (hz : l ≠ zs 64) (hb : 15 < l.getD 0 0) :
    Calls Try.prog 11 #[v] w fun e w' => e = zeroIno false 110 ∧ Fr No w w' := by
  obtain ⟨a, cap, rfl⟩ := hv.form
  have hF0 : Fr No w ((w.alloc (Obj.cells #[.string ⟨#[]⟩, .int .i64 0, .slice none 0 0] 26)).alloc (Obj.cells (bys (zs 64)).toArray 5)) := ((Fr.refl _ _).alloc _).alloc _
  rw [h1] at hv ⊢
  have HS' := Lib.hid (rsame_zero a cap l w false h1 h0 hv (decide_eq_false hz))
  have hmk : ∀ w : World, (Instr.makeSlice 22 (.int .i64 64) (.int .i64 64)).run Try.prog w = .ok (.slice (some ⟨w.heap.size, 0, none⟩) 64 64) (w.alloc (.cells (bys (zs 64)).toArray 5)) := fun w => mk_bytes w 64 (by omega)
  have HB0 := heap_alloc (Obj.cells (bys (zs 64)).toArray 5) (heap_new w (Obj.cells #[.string ⟨#[]⟩, .int .i64 0, .slice none 0 0] 26))
  have o0 := heap_cell (o := 0) HB0 rfl
  have o1 := heap_cell (o := 1) HB0 rfl
  have o2 := heap_cell (o := 2) HB0 rfl
  have p0 := heap_frozen (o := 0) HB0
  have p1 := heap_frozen (o := 1) HB0
  have p2 := heap_frozen (o := 2) HB0
  have HB := Lib.hid HB0
  have hx : (0 : Nat) < l.length := by omega
  obtain ⟨b, off, rfl, hbb, hc⟩ := hv.at (bys_ne _ _ hx)
  have c1 := hF0.cell (hc _ _ (bys_get _ _ hx)) (fun h => h)
  have hg : l.getD 0 0 = l[0] := by simp [List.getD, hx]
  rw [hg] at hb
  rw [Nat.add_zero] at c1
  revert hb c1
  generalize l[0] = y
  intro hb c1
  clear hz hv HB0 hc h0 hg
  go_enter Try.func11, Try.ntmps11
  go_wp2_with (go_at_call 14; ((with_reducible refine HS'.out.mono ?_); rintro e w1 ⟨rfl, rfl⟩))
  have q := heap_set3 (.string ⟨#[]⟩) (.int .i64 0) (.slice none 0 0) HB.out
  have q0 := heap_cell (o := 0) q rfl
  have q1 := heap_cell (o := 1) q rfl
  have q2 := heap_cell (o := 2) q rfl
  refine bodyPost_ret (v := .tuple #[.agg #[.string ⟨#[]⟩, .int .i64 0, .slice none 0 0], .bool false, .int .i64 110]) (by simp [results, Try.results11, go_sem, q0, q1, q2]) rfl ⟨rfl, hF0⟩
end Go.Proofs.Ytbjffempiaohpaa
