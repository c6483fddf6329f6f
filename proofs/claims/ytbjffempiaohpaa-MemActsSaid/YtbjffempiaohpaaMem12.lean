/-
  The memory of chapter 9: a memory that nobody made.
-/
import Derived.Test.YtbjffempiaohpaaMem11
namespace Go.Proofs.Ytbjffempiaohpaa
set_option linter.unusedVariables false
set_option linter.unusedSimpArgs false
open Go.RowKit Go.Shelf Go.Maps

/-- A memory that nobody made: nil, or a box of noughts. -/
def NoneAt (w : World) (v : Value) : Prop := v = .pointer none ∨ ∃ b, v = .pointer (some ⟨b, 0, none⟩) ∧ w.heap[b]? = some (.cells #[.pointer none, .map none, .slice none 0 0] 65 (0, 0))
theorem NoneAt.fr {w w' : World} {v : Value} (h : NoneAt w v) (hF : Fr No w w') : NoneAt w' v := by
  rcases h with rfl | ⟨b, rfl, hb⟩
  · exact .inl rfl
  · exact .inr ⟨b, rfl, hF.heap hb (fun h => h)⟩

theorem neq_nomap (w : World) : (binOp BinOp.neq 63 (.map none) (.map none)).run Try.prog w = .ok (.bool false) w := by kernel_rfl
set_option maxRecDepth 1000000 in
theorem is_none {w : World} {v : Value} (h : NoneAt w v) :
    Calls Try.prog 46 #[v] w fun e w' => e = .returned (.bool false) ∧ w = w' := by
  rcases h with rfl | ⟨b, rfl, hb⟩
  · go_enter Try.func46, Try.ntmps46
    go_wp2
    go_ret
    exact ⟨rfl, rfl⟩
  · have c1 := heap_cell (o := 1) hb rfl
    have hne := neq_nomap w
    clear hb
    go_enter Try.func46, Try.ntmps46
    go_wp2
    go_ret
    exact ⟨rfl, rfl⟩

set_option maxHeartbeats 1000000 in
set_option maxRecDepth 1000000 in
theorem load_none {w : World} {v : Value} (h : NoneAt w v) (a n : Int) (N : Nat) (hN : min (max n 0) 8192 = (N : Int)) :
    Calls Try.prog 20 #[v, .int .i64 a, .int .i64 n] w fun e w' => ∃ b, e = .returned (.slice (some ⟨b, 0, none⟩) N N) ∧ Fr No w w' ∧ Row w' b 5 (zs N) ∧ w.heap.size ≤ b := by
  have hR0 : Row (w.alloc (.cells (bys (zs N)).toArray 5)) w.heap.size 5 (zs N) := Row.new _ _ _
  have hF0 : Fr No w (w.alloc (.cells (bys (zs N)).toArray 5)) := (Fr.refl _ _).alloc _
  have HI := Lib.hid (is_none (h.fr hF0))
  have HN := Lib.hid hN
  clear h hN
  go_enter Try.func20, Try.ntmps20
  go_upto_region 1 with fail
  go_cut [7] (fun s7 wx => s7 = .slice (some ⟨w.heap.size, 0, none⟩) N N ∧ wx = w.alloc (.cells (bys (zs N)).toArray 5))
  case first =>
    have hN := HN.out
    by_cases h1 : n < 0
    · obtain rfl : N = 0 := by omega
      have hmk : ∀ w : World, (Instr.makeSlice 22 (.int .i64 0) (.int .i64 0)).run Try.prog w = .ok (.slice (some ⟨w.heap.size, 0, none⟩) 0 0) (w.alloc (.cells (bys (zs 0)).toArray 5)) := fun w => mk_bytes w 0 (by omega)
      clear hN
      go_wp2_with fail
      go_meet
      exact ⟨rfl, rfl⟩
    · by_cases h2 : 8192 < n
      · obtain rfl : N = 8192 := by omega
        have hmk : ∀ w : World, (Instr.makeSlice 22 (.int .i64 8192) (.int .i64 8192)).run Try.prog w = .ok (.slice (some ⟨w.heap.size, 0, none⟩) 8192 8192) (w.alloc (.cells (bys (zs 8192)).toArray 5)) := fun w => mk_bytes w 8192 (by omega)
        generalize (bys (zs 8192)).toArray = cs at *
        clear hN
        go_wp2_with fail
        go_meet
        exact ⟨rfl, rfl⟩
      · obtain rfl : n = N := by omega
        have hmk : ∀ w : World, (Instr.makeSlice 22 (.int .i64 N) (.int .i64 N)).run Try.prog w = .ok (.slice (some ⟨w.heap.size, 0, none⟩) N N) (w.alloc (.cells (bys (zs N)).toArray 5)) := fun w => mk_bytes w N (by omega)
        generalize (bys (zs N)).toArray = cs at *
        clear hN
        go_wp2_with fail
        go_meet
        exact ⟨rfl, rfl⟩
  case rest =>
  obtain ⟨rfl, rfl⟩ := hcut
  generalize hW1 : w.alloc _ = W1 at *
  clear hW1
  go_wp2_with (go_at_call 46; ((with_reducible refine HI.out.mono ?_); rintro e w1 ⟨rfl, rfl⟩))
  go_ret
  exact ⟨_, rfl, hF0, hR0, Nat.le_refl _⟩

set_option maxRecDepth 1000000 in
theorem lay_none {w : World} {v : Value} (h : NoneAt w v) (a : Int) (u : Value) :
    Calls Try.prog 18 #[v, .int .i64 a, u] w fun e w' => e = .returned (.tuple #[]) ∧ w = w' := by
  have HI := Lib.hid (is_none h)
  clear h
  go_enter Try.func18, Try.ntmps18
  go_wp2_with (go_at_call 46; ((with_reducible refine HI.out.mono ?_); rintro e w1 ⟨rfl, rfl⟩))
  refine bodyPost_ret (results_none rfl _ _ _) rfl ?_
  exact ⟨rfl, rfl⟩

theorem num_zs : numL (zs 8) 0 8 = 0 := by decide
set_option maxRecDepth 1000000 in
theorem get_none {w : World} {v : Value} (h : NoneAt w v) (a : Int) :
    Calls Try.prog 33 #[v, .int .i64 a] w fun e w' => e = .returned (.int .i64 0) ∧ Fr No w w' := by
  have HC : Calls Try.prog 20 #[v, .int .i64 a, .int .i64 8] w _ := load_none h a 8 8 (by decide)
  have HC' := Lib.hid HC
  have HL := Lib.hid (fun (b : Nat) (w1 : World) (hR : Row w1 b 5 (zs 8)) => (by have := lecell_calls (.slice (some ⟨b, 0, none⟩) 8 8) (zs 8) w1 (zs_length 8) (zs_rng 8) hR.sl; rw [num_zs] at this; exact this :
    Calls Try.prog 58 #[.slice (some ⟨b, 0, none⟩) 8 8, .int .i64 0] w1 fun e w' => e = .returned (.int .i64 (wrap64 0)) ∧ Fr No w1 w'))
  have h00 : wrap64 0 = 0 := by simp [wrap64]
  rw [h00] at HL
  clear HC h h00
  go_enter Try.func33, Try.ntmps33
  go_wp2_with fail
  refine HC'.out.mono ?_
  rintro e w1 ⟨b, rfl, hF1, hR, hlt⟩
  go_wp2_with fail
  refine (HL.out b w1 hR).mono ?_
  rintro e w2 ⟨rfl, hF⟩
  go_wp2
  go_ret
  exact ⟨rfl, hF1.trans hF⟩

set_option maxRecDepth 1000000 in
theorem set_none {w : World} {v : Value} (h : NoneAt w v) (a n : Int) :
    Calls Try.prog 30 #[v, .int .i64 a, .int .i64 n] w fun e w' => e = .returned (.tuple #[]) ∧ Fr No w w' := by
  have hmk : ∀ w : World, (Instr.makeSlice 22 (.int .i64 8) (.int .i64 8)).run Try.prog w = .ok (.slice (some ⟨w.heap.size, 0, none⟩) 8 8) (w.alloc (.cells (bys (zs 8)).toArray 5)) := fun w => mk_bytes w 8 (by omega)
  have hF0 : Fr No w (w.alloc (.cells (bys (zs 8)).toArray 5)) := (Fr.refl _ _).alloc _
  have HC := Lib.hid (leput_calls (.slice (some ⟨w.heap.size, 0, none⟩) 8 8) (w.alloc (.cells (bys (zs 8)).toArray 5)) n (Row.new w 5 (zs 8)).sl)
  have HH := Lib.hid h
  clear h
  go_enter Try.func30, Try.ntmps30
  go_wp2_with fail
  refine HC.out.mono ?_
  rintro e w1 ⟨r, rfl, hF1, hr⟩
  have hF01 := hF0.trans hF1
  have HL := Lib.hid (lay_none (HH.out.fr hF01) a r)
  clear hmk hr
  go_wp2_with fail
  refine HL.out.mono ?_
  rintro e w2 ⟨rfl, rfl⟩
  go_wp2
  go_end0
  exact ⟨rfl, hF01⟩

set_option maxRecDepth 1000000 in
theorem inside_none {w : World} {v : Value} (h : NoneAt w v) (a size low high : Int) :
    Calls Try.prog 48 #[v, .int .i64 a, .int .i64 size, .int .i64 low, .int .i64 high] w fun e w' => e = .returned (.int .i64 (-9)) ∧ w = w' := by
  have HI := Lib.hid (is_none h)
  clear h
  go_enter Try.func48, Try.ntmps48
  go_wp2_with (go_at_call 46; ((with_reducible refine HI.out.mono ?_); rintro e w1 ⟨rfl, rfl⟩))
  go_ret
  exact ⟨rfl, rfl⟩

set_option maxRecDepth 1000000 in
theorem byte_none {w : World} {v : Value} (h : NoneAt w v) (a : Int) :
    Calls Try.prog 31 #[v, .int .i64 a] w fun e w' => e = .returned (.tuple #[.int .i64 0, .int .i64 (-9)]) ∧ w = w' := by
  have HI : Calls Try.prog 48 #[v, .int .i64 a, .int .i64 1, .int .i64 0, .int .i64 8192] w _ := inside_none h a 1 0 8192
  have HI' := Lib.hid HI
  clear h HI
  go_enter Try.func31, Try.ntmps31
  go_wp2_with (go_at_call 48; ((with_reducible refine HI'.out.mono ?_); rintro e w1 ⟨rfl, rfl⟩))
  go_ret2
  exact ⟨rfl, rfl⟩
set_option maxRecDepth 1000000 in
theorem cell_none {w : World} {v : Value} (h : NoneAt w v) (a : Int) :
    Calls Try.prog 23 #[v, .int .i64 a] w fun e w' => e = .returned (.tuple #[.int .i64 0, .int .i64 (-9)]) ∧ w = w' := by
  have HI : Calls Try.prog 48 #[v, .int .i64 a, .int .i64 8, .int .i64 0, .int .i64 8192] w _ := inside_none h a 8 0 8192
  have HI' := Lib.hid HI
  clear h HI
  go_enter Try.func23, Try.ntmps23
  go_wp2_with (go_at_call 48; ((with_reducible refine HI'.out.mono ?_); rintro e w1 ⟨rfl, rfl⟩))
  go_ret2
  exact ⟨rfl, rfl⟩
set_option maxRecDepth 1000000 in
theorem putbyte_none {w : World} {v : Value} (h : NoneAt w v) (a n : Int) :
    Calls Try.prog 32 #[v, .int .i64 a, .int .i64 n] w fun e w' => e = .returned (.int .i64 (-9)) ∧ w = w' := by
  have HI : Calls Try.prog 48 #[v, .int .i64 a, .int .i64 1, .int .i64 768, .int .i64 5632] w _ := inside_none h a 1 768 5632
  have HI' := Lib.hid HI
  clear h HI
  go_enter Try.func32, Try.ntmps32
  go_wp2_with (go_at_call 48; ((with_reducible refine HI'.out.mono ?_); rintro e w1 ⟨rfl, rfl⟩))
  go_ret
  exact ⟨rfl, rfl⟩
set_option maxRecDepth 1000000 in
theorem putcell_none {w : World} {v : Value} (h : NoneAt w v) (a n : Int) :
    Calls Try.prog 22 #[v, .int .i64 a, .int .i64 n] w fun e w' => e = .returned (.int .i64 (-9)) ∧ w = w' := by
  have HI : Calls Try.prog 48 #[v, .int .i64 a, .int .i64 8, .int .i64 768, .int .i64 5632] w _ := inside_none h a 8 768 5632
  have HI' := Lib.hid HI
  have HS := Lib.hid (is_none h)
  clear h HI
  go_enter Try.func22, Try.ntmps22
  go_wp2_with (first | (go_at_call 48; ((with_reducible refine HI'.out.mono ?_); rintro e w1 ⟨rfl, rfl⟩)) | (go_at_call 46; ((with_reducible refine HS.out.mono ?_); rintro e w1 ⟨rfl, rfl⟩)))
  go_ret
  exact ⟨rfl, rfl⟩
set_option maxRecDepth 1000000 in
theorem sync_none {w : World} {v : Value} (h : NoneAt w v) :
    Calls Try.prog 34 #[v] w fun e w' => e = .returned (.int .i64 3) ∧ w = w' := by
  have HS := Lib.hid (is_none h)
  clear h
  go_enter Try.func34, Try.ntmps34
  go_wp2_with (go_at_call 46; ((with_reducible refine HS.out.mono ?_); rintro e w1 ⟨rfl, rfl⟩))
  go_ret
  exact ⟨rfl, rfl⟩
set_option maxRecDepth 1000000 in
theorem renew_none {w : World} {v : Value} (h : NoneAt w v) :
    Calls Try.prog 35 #[v] w fun e w' => e = .returned (.int .i64 3) ∧ w = w' := by
  have HS := Lib.hid (is_none h)
  clear h
  go_enter Try.func35, Try.ntmps35
  go_wp2_with (go_at_call 46; ((with_reducible refine HS.out.mono ?_); rintro e w1 ⟨rfl, rfl⟩))
  go_ret
  exact ⟨rfl, rfl⟩
set_option maxRecDepth 1000000 in
theorem dirty_none {w : World} {v : Value} (h : NoneAt w v) :
    Calls Try.prog 28 #[v] w fun e w' => e = .returned (.slice none 0 0) ∧ w = w' := by
  have HS := Lib.hid (is_none h)
  clear h
  go_enter Try.func28, Try.ntmps28
  go_wp2_with (go_at_call 46; ((with_reducible refine HS.out.mono ?_); rintro e w1 ⟨rfl, rfl⟩))
  go_ret
  exact ⟨rfl, rfl⟩
set_option maxRecDepth 1000000 in
theorem bytes_none {w : World} {v : Value} (h : NoneAt w v) :
    Calls Try.prog 21 #[v] w fun e w' => ∃ b, e = .returned (.slice (some ⟨b, 0, none⟩) 8192 8192) ∧ Fr No w w' ∧ Row w' b 5 (zs 8192) := by
  have HC : Calls Try.prog 20 #[v, .int .i64 0, .int .i64 8192] w _ := load_none h 0 8192 8192 (by decide)
  have HC' := Lib.hid HC
  clear h HC
  generalize zs 8192 = z at *
  go_enter Try.func21, Try.ntmps21
  go_wp2_with fail
  refine HC'.out.mono ?_
  rintro e w1 ⟨b, rfl, hF, hR, hlt⟩
  go_wp2
  go_ret
  exact ⟨b, rfl, hF, hR⟩
set_option maxRecDepth 1000000 in
theorem over_none (w : World) :
    Calls Try.prog 36 #[.pointer none] w fun e w' => e = .returned (.tuple #[.pointer none, .int .i64 3]) ∧ w = w' := by
  go_enter Try.func36, Try.ntmps36
  go_wp2
  go_ret2
  exact ⟨rfl, rfl⟩
set_option maxRecDepth 1000000 in
theorem sync_flat {w : World} {mb : Nat} {A : Nat → Prop} {F B : List Int} (h : MemAt w mb A F B) :
    Calls Try.prog 34 #[.pointer (some ⟨mb, 0, none⟩)] w fun e w' => e = .returned (.int .i64 3) ∧ w = w' := by
  have HS := Lib.hid (is_calls h)
  obtain ⟨fb, pm, hb⟩ := h.box
  have c0 := heap_cell (o := 0) hb rfl
  clear h hb
  go_enter Try.func34, Try.ntmps34
  go_wp2_with (go_at_call 46; ((with_reducible refine HS.out.mono ?_); rintro e w1 ⟨rfl, rfl⟩))
  go_ret
  exact ⟨rfl, rfl⟩
end Go.Proofs.Ytbjffempiaohpaa
