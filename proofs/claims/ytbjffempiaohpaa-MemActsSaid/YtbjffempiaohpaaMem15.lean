/-
  The memory of chapter 9: bytes stored; the reference's Load.
-/
import Derived.Test.YtbjffempiaohpaaMem14
namespace Go.Proofs.Ytbjffempiaohpaa
set_option linter.unusedVariables false
set_option linter.unusedSimpArgs false
open Go.RowKit Go.Shelf Go.Maps

/-- PutByte's bytes behind it. -/
def pbB (B : List Int) (a n : Int) : List Int := if insF a 1 768 5632 = 0 then layF B a [n % 256] else B
theorem layF_one (B : List Int) (a : Int) (x : Int) (h : 0 ≤ a ∧ a < 8192) : layF B a [x] = B.set a.toNat x := by
  rw [layF, List.length_singleton, layN, if_pos (by omega), layN]
  simp

set_option maxRecDepth 1000000 in
theorem putbyte_calls {w : World} {mb : Nat} {A : Nat → Prop} {F B : List Int} (h : MemAt w mb A F B) (a n : Int) (ha : -9223372036854775808 ≤ a ∧ a ≤ 9223372036854775807) :
    Calls Try.prog 32 #[.pointer (some ⟨mb, 0, none⟩), .int .i64 a, .int .i64 n] w fun e w' => ∃ A', e = .returned (.int .i64 (insF a 1 768 5632)) ∧ Mp w mb A F (pbB B a n) w' A' := by
  have HI := Lib.hid (inside_calls h a 1 768 5632 ha (by omega) (by omega) (by omega))
  have HM := Lib.hid h
  have hlow := Lib.hid h.low
  have hwa : IntKind.i64.wrap a = a := IntWalk.i64_in _ ha
  by_cases h1 : insF a 1 768 5632 = 0
  · have hB : pbB B a n = layF B a [n % 256] := by rw [pbB, if_pos h1]
    rw [h1] at HI
    rw [h1, hB]
    have hF0 : Fr No w (w.alloc (.cells #[.int .u8 (n % 256)] 5)) := (Fr.refl _ _).alloc _
    have hsl : Sl (w.alloc (.cells #[.int .u8 (n % 256)] 5)) (.slice (some ⟨w.heap.size, 0, none⟩) 1 1) 1 (bys [n % 256]) :=
      ⟨_, _, rfl, ⟨by simp, by omega⟩, fun _ => ⟨_, _, rfl⟩, by
        rintro b off j u ⟨rfl, rfl⟩ hj
        rw [Nat.zero_add]
        exact heap_cell (heap_new _ _) (by simpa [bys] using hj)⟩
    have HL := Lib.hid (lay_calls (h.fr0 hF0) a (.slice (some ⟨w.heap.size, 0, none⟩) 1 1) [n % 256] hsl (fun k e _ hk => by
      have := hlow.out k hk; simp [Value.ownBlock] at e; omega) (by
      intro b hb; simp at hb; subst hb; omega) (by simp) ha)
    clear h h1 hB hsl
    go_enter Try.func32, Try.ntmps32
    go_wp2_with (first | (go_at_call 48; ((with_reducible refine HI.out.mono ?_); rintro e w1 ⟨rfl, rfl⟩)) | (go_at_call 18; ((with_reducible refine HL.out.mono ?_); rintro e w2 ⟨A', rfl, hM⟩)))
    go_ret
    have hM' : Mp w mb A F (layF B a [n % 256]) w2 A' := ⟨hM.1, hF0.no.trans' hM.2.1 (fun i hi h => h), fun j hj => by
      rcases hM.2.2 j hj with h1 | h1
      · exact .inl h1
      · exact .inr (Nat.le_trans hF0.size h1)⟩
    first | exact ⟨A', rfl, hM'⟩ | exact ⟨rfl, A', hM'⟩
  · have hB : pbB B a n = B := by rw [pbB, if_neg h1]
    rw [hB]
    generalize insF a 1 768 5632 = t at *
    have h1b : (t == 0) = false := by simpa using h1
    clear h hB
    go_enter Try.func32, Try.ntmps32
    go_wp2_with (first | (go_at_call 48; ((with_reducible refine HI.out.mono ?_); rintro e w1 ⟨rfl, rfl⟩)))
    go_ret
    first | exact ⟨A, rfl, Mp.refl HM.out⟩ | exact ⟨rfl, A, Mp.refl HM.out⟩

set_option maxRecDepth 1000000 in
theorem rputbyte_calls {w : World} {rb : Nat} {R : Nat → Prop} {F B : List Int} (h : RefAt w rb R F B) (a n : Int) (ha : -9223372036854775808 ≤ a ∧ a ≤ 9223372036854775807) :
    Calls Try.prog 50 #[.pointer (some ⟨rb, 0, none⟩), .int .i64 a, .int .i64 n] w fun e w' => e = .returned (.int .i64 (insF a 1 768 5632)) ∧ Rp w rb R F (pbB B a n) w' R := by
  obtain ⟨g, cap, gw, h⟩ := h.inn
  have HM := Lib.hid h
  by_cases h1 : a < 768 ∨ a > 5631
  · have hi : insF a 1 768 5632 = -9 := by rw [ins1, if_pos (by omega)]
    have hB : pbB B a n = B := by rw [pbB, if_neg (by omega)]
    rw [hi, hB]
    clear hi hB h
    rcases h1 with h2 | h2
    · go_enter Try.func50, Try.ntmps50
      go_wp2
      go_ret
      exact ⟨rfl, HM.out.at, Fr.refl _ _, Gr.refl _ _⟩
    · have h3 : ¬ a < 768 := by omega
      have h4 : 5632 ≤ a := by omega
      clear h2
      go_enter Try.func50, Try.ntmps50
      go_wp2
      go_ret
      exact ⟨rfl, HM.out.at, Fr.refl _ _, Gr.refl _ _⟩
  · have hi : insF a 1 768 5632 = 0 := by rw [ins1, if_neg (by omega)]
    obtain ⟨k, rfl⟩ : ∃ k : Nat, a = k := ⟨a.toNat, by omega⟩
    have hk : k < 8192 := by omega
    have hB : pbB B (k : Int) n = B.set k (n % 256) := by rw [pbB, if_pos hi, layF_one _ _ _ (by omega)]; simp
    rw [hi, hB]
    have h3 : ¬ (k : Int) < 768 := by omega
    have h4 : ¬ 5632 ≤ (k : Int) := by omega
    have c0 := heap_cell (o := 0) h.box rfl
    have hkl : k < B.length := by rw [h.blen]; exact hk
    have q1 := (h.row.cellAt k (by omega)).trans (bys_get _ _ hkl)
    have q2 := h.row.frozenAt k
    revert q1
    generalize B[k] = y
    intro q1
    clear hi hB h h1 hkl
    go_enter Try.func50, Try.ntmps50
    go_wp2
    go_ret
    refine ⟨rfl, (HM.out.store k hk _ (by omega)).at, ((Fr.refl (fun j => j = g) w).setCell (p := ⟨g, k, none⟩) (fun _ => rfl) _).mono (fun i hi e => by subst e; exact HM.out.rg), Gr.refl _ _⟩
end Go.Proofs.Ytbjffempiaohpaa
