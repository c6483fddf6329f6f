/-
  The memory of chapter 9: cells of eight bytes, all bytes.
-/
import Derived.Test.YtbjffempiaohpaaMem4
namespace Go.Proofs.Ytbjffempiaohpaa
set_option linter.unusedVariables false
set_option linter.unusedSimpArgs false
open Go.RowKit Go.Shelf Go.Maps

/-- A cell's bytes. -/
def cellF (n : Int) : List Int := putL (zs 8) 0 (IntKind.u64.wrap n) 8
theorem cellF_length (n : Int) : (cellF n).length = 8 := by rw [cellF, putL_length, zs_length]
theorem zs_rng (k : Nat) : ∀ b ∈ zs k, 0 ≤ b ∧ b < 256 := fun b hb => by simp only [zs, List.mem_replicate] at hb; omega
theorem cellF_range (n : Int) : ∀ b ∈ cellF n, 0 ≤ b ∧ b < 256 := putL_range _ _ _ _ (zs_rng 8)
theorem u64_range (n : Int) : 0 ≤ IntKind.u64.wrap n ∧ IntKind.u64.wrap n < 18446744073709551616 := by rw [IntKind.wrap_u64]; omega

set_option maxRecDepth 1000000 in
theorem leput_calls (v : Value) (w : World) (n : Int) (hv : Sl w v 8 (bys (zs 8))) :
    Calls Try.prog 57 #[v, .int .i64 0, .int .i64 n] w fun e w' => ∃ r, e = .returned r ∧ Fr No w w' ∧ w'.ownsRow w.heap.size 5 1 r 8 (bys (cellF n)) := by
  have HC : Calls Try.prog 45 #[v, .int .i64 0, .int .i64 8, .int .u64 (IntKind.u64.wrap n)] w _ := put_calls v (zs 8) 0 8 (IntKind.u64.wrap n) w (by omega) (by rw [zs_length]; omega) (by rw [zs_length]; omega) (u64_range n) (by rw [zs_length]; omega) (by rw [zs_length]; exact hv)
  have HC' := Lib.hid HC
  clear HC
  obtain ⟨a, cap, rfl⟩ := hv.form
  clear hv
  go_enter Try.func57, Try.ntmps57
  go_wp2_with (go_at_call 45; ((with_reducible refine HC'.out.mono ?_); rintro e w1 ⟨r, rfl, hF, hr⟩))
  go_ret
  rw [zs_length] at hr
  exact ⟨r, rfl, hF, hr⟩

set_option maxRecDepth 1000000 in
theorem lecell_calls (v : Value) (l : List Int) (w : World) (hl : l.length = 8) (h0 : ∀ b ∈ l, 0 ≤ b ∧ b < 256) (hv : Sl w v 8 (bys l)) :
    Calls Try.prog 58 #[v, .int .i64 0] w fun e w' => e = .returned (.int .i64 (wrap64 (numL l 0 8))) ∧ Fr No w w' := by
  have HC : Calls Try.prog 39 #[v, .int .i64 0, .int .i64 8] w _ := num_calls v l 0 8 w (by omega) (by omega) (by omega) h0 (by omega) (by rw [hl]; exact hv)
  have HC' := Lib.hid HC
  clear HC
  obtain ⟨a, cap, rfl⟩ := hv.form
  clear hv hl h0
  go_enter Try.func58, Try.ntmps58
  go_wp2_with (go_at_call 39; ((with_reducible refine HC'.out.mono ?_); rintro e w1 ⟨rfl, hF⟩))
  go_ret
  exact ⟨rfl, hF⟩

/-- The cell at a place. -/
def getF (B : List Int) (a : Int) : Int := wrap64 (numL (loadF B a 8) 0 8)
/-- A cell stored. -/
def setF (B : List Int) (a n : Int) : List Int := layF B a (cellF n)

set_option maxRecDepth 1000000 in
theorem get_calls {w : World} {mb : Nat} {A : Nat → Prop} {F B : List Int} (h : MemAt w mb A F B) (a : Int) (ha : -9223372036854775808 ≤ a ∧ a ≤ 9223372036854775807) :
    Calls Try.prog 33 #[.pointer (some ⟨mb, 0, none⟩), .int .i64 a] w fun e w' => ∃ A', e = .returned (.int .i64 (getF B a)) ∧ Mp w mb A F B w' A' := by
  have HC : Calls Try.prog 20 #[.pointer (some ⟨mb, 0, none⟩), .int .i64 a, .int .i64 8] w _ := load_calls h a 8 8 (by decide) ha
  have HC' := Lib.hid HC
  have hB := h.brange
  have HL := Lib.hid (fun (b : Nat) (w1 : World) (hR : Row w1 b 5 (loadF B a 8)) => lecell_calls (.slice (some ⟨b, 0, none⟩) 8 8) (loadF B a 8) w1 (loadF_length _ _ _) (loadF_range B hB a 8) (by have := hR.sl; rw [loadF_length] at this; exact this))
  clear HC h hB
  go_enter Try.func33, Try.ntmps33
  go_wp2_with fail
  refine HC'.out.mono ?_
  rintro e w1 ⟨b, A', rfl, hM, hR, hn, hlt⟩
  go_wp2_with fail
  refine (HL.out b w1 hR).mono ?_
  rintro e w2 ⟨rfl, hF⟩
  go_wp2
  go_ret
  exact ⟨A', rfl, hM.thenFr hF⟩

set_option maxRecDepth 1000000 in
theorem mset_calls {w : World} {mb : Nat} {A : Nat → Prop} {F B : List Int} (h : MemAt w mb A F B) (a n : Int) (ha : -9223372036854775808 ≤ a ∧ a ≤ 9223372036854775807) :
    Calls Try.prog 30 #[.pointer (some ⟨mb, 0, none⟩), .int .i64 a, .int .i64 n] w fun e w' => ∃ A', e = .returned (.tuple #[]) ∧ Mp w mb A F (setF B a n) w' A' := by
  have hmk : ∀ w : World, (Instr.makeSlice 22 (.int .i64 8) (.int .i64 8)).run Try.prog w = .ok (.slice (some ⟨w.heap.size, 0, none⟩) 8 8) (w.alloc (.cells (bys (zs 8)).toArray 5)) := fun w => mk_bytes w 8 (by omega)
  have hF0 : Fr No w (w.alloc (.cells (bys (zs 8)).toArray 5)) := (Fr.refl _ _).alloc _
  have hM0 := h.fr0 hF0
  have HC := Lib.hid (leput_calls (.slice (some ⟨w.heap.size, 0, none⟩) 8 8) (w.alloc (.cells (bys (zs 8)).toArray 5)) n (Row.new w 5 (zs 8)).sl)
  have hlow := Lib.hid h.low
  have hM0' := Lib.hid hM0
  clear h hM0
  go_enter Try.func30, Try.ntmps30
  go_wp2_with fail
  refine HC.out.mono ?_
  rintro e w1 ⟨r, rfl, hF1, hr⟩
  have hM1 := hM0'.out.fr0 hF1
  have hA : ∀ k, r.ownBlock = some k → ¬ A k := fun k e hk => by
    have h1 := (hr.lt k e).1
    have h2 := hlow.out k hk
    simp at h1; omega
  have hsl := Sl.of_owns hr
  have HL := Lib.hid (lay_calls hM1 a r (cellF n) (by rw [cellF_length]; exact hsl) (fun k e _ => hA k e) (cellF_range n) (by rw [cellF_length]; omega) ha)
  obtain ⟨ar, capr, rfl⟩ := hsl.form
  have hF01 := hF0.trans hF1
  clear hmk hr hM1 hA hsl
  go_wp2_with fail
  refine HL.out.mono ?_
  rintro e w2 ⟨A', rfl, hM⟩
  go_wp2
  go_end0
  exact ⟨A', rfl, hM.1, hF01.no.trans' hM.2.1 (fun i hi h => h), fun j hj => by
    rcases hM.2.2 j hj with h1 | h1
    · exact .inl h1
    · exact .inr (Nat.le_trans hF01.size h1)⟩

/-- All bytes. -/
theorem load_all (B : List Int) (N : Nat) (hB : B.length = N) (hN : N ≤ 8192) : loadF B 0 N = B := by
  apply List.ext_getElem?
  intro i
  rcases Nat.lt_or_ge i N with h | h
  · have h1 := loadF_get B 0 N i h
    have h2 : i < (loadF B 0 N).length := by rw [loadF_length]; exact h
    have h3 : i < B.length := by omega
    rw [byteAt, if_pos (by omega)] at h1
    rw [show ((0 : Int) + (i : Int)).toNat = i by omega] at h1
    rw [List.getElem?_eq_getElem h2, List.getElem?_eq_getElem h3]
    simpa [List.getD, h2, h3] using h1
  · rw [List.getElem?_eq_none (by rw [loadF_length]; exact h), List.getElem?_eq_none (by omega)]

set_option maxRecDepth 1000000 in
theorem bytes_calls {w : World} {mb : Nat} {A : Nat → Prop} {F B : List Int} (h : MemAt w mb A F B) :
    Calls Try.prog 21 #[.pointer (some ⟨mb, 0, none⟩)] w fun e w' => ∃ b A', e = .returned (.slice (some ⟨b, 0, none⟩) 8192 8192) ∧ Mp w mb A F B w' A' ∧ Row w' b 5 B ∧ ¬ A' b ∧ w.heap.size ≤ b := by
  have HC : Calls Try.prog 20 #[.pointer (some ⟨mb, 0, none⟩), .int .i64 0, .int .i64 8192] w _ := load_calls h 0 8192 8192 (by decide) (by omega)
  have HC' := Lib.hid HC
  have HB := Lib.hid (load_all B 8192 h.blen (Nat.le_refl _))
  clear HC h
  go_enter Try.func21, Try.ntmps21
  go_wp2_with fail
  refine HC'.out.mono ?_
  rintro e w1 ⟨b, A', rfl, hM, hR, hn, hlt⟩
  go_wp2
  go_ret
  exact ⟨b, A', rfl, hM, by rw [HB.out] at hR; exact hR, hn, hlt⟩

/-- What 'inside' tells. -/
def insF (a size low high : Int) : Int := if a < low ∨ a > high - size then -9 else if a % size ≠ 0 then -23 else 0
end Go.Proofs.Ytbjffempiaohpaa
