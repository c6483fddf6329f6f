/-
  Chapter 12: the calls over a memory that nobody made.
-/
import Derived.Test.YtoajnmbbgbpbgaaZH
import Derived.Test.YtoajnmbbgbpbgaaZE
namespace Go.Proofs.Ytoajnmbbgbpbgaa
set_option linter.unusedVariables false
set_option linter.unusedSimpArgs false
open Go.RowKit Go.Shelf Go.Maps

theorem head_zs : decide (zs 64 = headF 0) = false := by decide +kernel
def BadT (w : World) (e : Ending) (w' : World) : Prop := ∃ cs, e = .returned (.tuple #[.agg (List.toArray cs), .int .i64 120]) ∧ Fr No w w' ∧ cs.length = 25 ∧ ∀ v ∈ cs, v.oneCell' = true

set_option maxHeartbeats 400000 in
set_option maxRecDepth 1000000 in
theorem fread_nil (w : World) : Calls Try.prog 43 #[.pointer none] w (BadT w) := by
  go_enter Try.func43, Try.ntmps43
  have hmm : ∀ w : World, (Instr.makeMap 125 none).run Try.prog w = .ok (.map (some w.heap.size)) (w.alloc (.map #[] 0)) := fun w => run_makeMap _ w
  go_upto_region 3 with (first | (refine alloc_tab rfl rfl ?_) | (refine build_tab rfl rfl ?_) | (refine store_tab rfl _ _ rfl (w.alloc (.cells (tabC noT 0).toArray 83)).heap.size (tabC noT 0) (tabC noT 0) rfl rfl (heap_new _ _) noT_len noT_len noT_one ?_; intro w1 hb1 hF1; rw [World.size_alloc] at hb1 hF1) | fail "arm")
  have hF01 : Fr No w w1 := (((Fr.refl _ _).alloc _).alloc _).trans' hF1 (fun i hi e => by omega)
  have hb0 : w1.heap[w.heap.size]? = some (.cells (tabC noT 0).toArray 83 (0, 0)) := hF1.heap (heap_alloc _ (heap_new w _)) (by omega)
  have hb2 := heap_alloc (.map #[] 0) hb0
  have hb3 := heap_alloc (.map #[] 0) hb1
  have hF0 : Fr No w (w1.alloc (.map #[] 0)) := hF01.alloc _
  generalize w1.alloc (.map #[] 0) = W1 at *
  clear hb0 hb1 hF1 hF01 hmm
  go_wp2_with (first
    | (refine load_tab rfl _ rfl (w.heap.size + 1) (tabC noT 0) rfl hb3 noT_len ?_)
    | (refine store_tab rfl _ _ rfl w.heap.size (tabC noT 0) (tabC noT 0) rfl rfl hb2 noT_len noT_len noT_one ?_; intro w8 hb8 hF8)
    | fail "arm")
  refine ret_tab rfl rfl rfl hb8 noT_len rfl ?_
  exact ⟨tabC noT 0, rfl, hF0.trans' hF8 (fun i hi e => by omega), noT_len, noT_one⟩

theorem dec_zero12 {w w' : World} {e : Ending} (h : DecPost w (zs 64) e w') : Fr No w w' ∧ e = zeroIno false 0 := by
  obtain ⟨h1, h2⟩ := h
  refine ⟨h1, ?_⟩
  rcases h2 with ⟨-, h⟩ | ⟨h, -⟩ | ⟨h, -⟩
  · exact h
  · rw [zs_kind] at h; omega
  · rw [zs_kind] at h; omega
theorem bits_nil (w : World) : Calls Try.prog 49 #[.slice none 0 0] w fun e w' => e = .returned (.int .u32 0) ∧ Fr No w w' := by
  have := bits_calls (.slice none 0 0) [] w (by simp) (Sl.nil w)
  exact this

set_option maxHeartbeats 1000000 in
set_option maxRecDepth 1000000 in
theorem fread_zero {w : World} {b : Nat} (h : w.heap[b]? = some (.cells #[.pointer none, .map none, .slice none 0 0] 57 (0, 0))) : Calls Try.prog 43 #[.pointer (some ⟨b, 0, none⟩)] w (BadT w) := by
  have HNA := Lib.hid (fun (w1 : World) (hF : Fr No w w1) => (.inr ⟨b, rfl, hF.heap h (fun h => h)⟩ : NoneAt w1 (.pointer (some ⟨b, 0, none⟩))))
  clear h
  go_enter Try.func43, Try.ntmps43
  have hmm : ∀ w : World, (Instr.makeMap 125 none).run Try.prog w = .ok (.map (some w.heap.size)) (w.alloc (.map #[] 0)) := fun w => run_makeMap _ w
  go_upto_block 0 with (first | (refine alloc_tab rfl rfl ?_) | (refine build_tab rfl rfl ?_) | (refine store_tab rfl _ _ rfl (w.alloc (.cells (tabC noT 0).toArray 83)).heap.size (tabC noT 0) (tabC noT 0) rfl rfl (heap_new _ _) noT_len noT_len noT_one ?_; intro w1 hb1 hF1; rw [World.size_alloc] at hb1 hF1) | fail "arm")
  have hF01 : Fr No w w1 := (((Fr.refl _ _).alloc _).alloc _).trans' hF1 (fun i hi e => by omega)
  have hF0 : Fr No w (w1.alloc (.map #[] 0)) := hF01.alloc _
  have hb2 : (w1.alloc (.map #[] 0)).heap[w.heap.size]? = some (.cells (tabC noT 0).toArray 83 (0, 0)) := heap_alloc _ (hF1.heap (heap_alloc _ (heap_new w _)) (by omega))
  have ht4 : TbAt (w1.alloc (.map #[] 0)) (w.heap.size + 1) noT 0 := ⟨heap_alloc _ hb1, rfl⟩
  generalize w1.heap.size = nm at *
  generalize w1.alloc (.map #[] 0) = W1 at *
  have HF0 := Lib.hid hF0
  have HB2 := Lib.hid hb2
  have HT4 := Lib.hid ht4
  clear hmm hF1 hF01 hF0 hb2 ht4 hb1
  go_wp2_with fail
  go_loopw [16] (fun i wr => ∃ j : Nat, j ≤ 8 ∧ i = .int .i64 j ∧ Fr No W1 wr) (fun i _ => 8 - (intOf i).toNat)
  case atStart => exact ⟨0, Nat.zero_le _, rfl, Fr.refl _ _⟩
  case round =>
    obtain ⟨j, hj, rfl, hF⟩ := hrel
    by_cases hlt : j < 8
    · go_wp2_with fail
      refine (place_calls _ _ (by omega) (by omega)).mono ?_
      rintro e w2 ⟨rfl, rfl⟩
      have hL := load_none (HNA.out wr (HF0.out.trans hF)) (6144 + (1 + (j : Int)) * 64) 64 64 (by decide)
      go_wp2_with fail
      refine hL.mono ?_
      rintro e w2 ⟨bl, rfl, hF2, hr2, hbl⟩
      have hD := decode_calls (.slice (some ⟨bl, 0, none⟩) 64 64) (zs 64) w2 (by rw [zs_length]; omega) (zs_range 64) (by have := hr2.sl; rw [zs_length] at this ⊢; exact this)
      clear hL hr2 hbl
      go_wp2_with fail
      refine hD.mono ?_
      intro e w3 hdec
      obtain ⟨hF3, rfl⟩ := dec_zero12 hdec
      clear hD hdec
      rw [zeroIno]
      have hFr3 := (hF.trans hF2).trans hF3
      have HFr3 := Lib.hid hFr3
      clear hFr3 hF2 hF3 hF
      go_wp2_with (first
        | (go_at_call 49; ((with_reducible refine (bits_nil _).mono ?_); rintro e w6 ⟨rfl, hF6⟩; have hFr6 := (HFr3.out.alloc _).trans hF6; have hu6 := (HT4.out.fr hFr6 (fun h => h)).used))
        | fail "arm")
      go_roundw
      case rel => exact ⟨j + 1, by omega, by go_num, hFr6⟩
      case measure => simp [intOf]; omega
    · obtain rfl : j = 8 := by omega
      have hT := HT4.out.fr hF (fun h => h)
      have hB := HB2.out
      have hu0 := hT.used
      have HSS := Lib.hid (fun (w' : World) (h : Fr No wr w') => (⟨h.cell hu0 (fun h => h), h⟩ : w'.cell? ⟨w.heap.size + 1, 24, none⟩ = some (.int .u32 0) ∧ Fr No wr w'))
      have HLL := Lib.hid (fun w1 (h : Fr No wr w1) => load_none (HNA.out w1 ((HF0.out.trans hF).trans h)) 6144 64 64 (by decide))
      have HH : RowKit.Hid (∀ w1, Calls Try.prog 40 #[.int .u32 0] w1 fun e w' => ∃ r, e = .returned r ∧ Fr No w1 w' ∧ w'.ownsRow w1.heap.size 5 1 r 64 (bys (headF 0))) := Lib.hid (fun w1 => fhead_calls 0 (by decide) w1)
      have HEQ := Lib.hid (fun (w1 : World) (va vb : Value) (h1 : Sl w1 va 64 (bys (zs 64))) (h2 : Sl w1 vb 64 (bys (headF 0))) => (by
        have := equal_calls va vb (zs 64) (headF 0) w1 (zs_range 64) (headF_range 0) (by rw [zs_length]; exact h1) (by rw [headF_length]; exact h2)
        rw [head_zs] at this; exact this : Calls Try.prog 81 #[va, vb] w1 fun e w' => e = .returned (.bool false) ∧ w1 = w'))
      have HLD : RowKit.Hid (∀ (w1 : World) (b : Nat), Row w1 b 5 (zs 64) → Sl w1 (.slice (some ⟨b, 0, none⟩) 64 64) 64 (bys (zs 64))) := Lib.hid (fun w1 b h => by have := h.sl; rw [zs_length] at this; exact this)
      have HFW := Lib.hid hF
      have HT := Lib.hid hT
      clear hF hT hB
      generalize headF 0 = hd at *
      generalize zs 64 = z at *
      go_upto_region 19 with fail
      go_cut [72] (fun s72 wx => s72 = .bool true ∧ Fr No wr wx)
      case first =>
        go_region_held3 (fun w' => w'.cell? ⟨w.heap.size + 1, 24, none⟩ = some (.int .u32 0) ∧ Fr No wr w') (first | exact HSS.out _ (Fr.refl _ _).drew | exact HSS.out _ ((Fr.refl _ _).drew.trans hFh) | exact HSS.out _ ((Fr.refl _ _).drew.trans hFl) | exact HSS.out _ (((Fr.refl _ _).drew.trans hFl).trans hFh) | exact HSS.out _ (((Fr.refl _ _).drew.trans hFh).trans hFl)) (first
          | (go_at_call 39; ((with_reducible refine (place0_calls _).mono ?_); rintro e w3 ⟨rfl, rfl⟩))
          | (go_at_call 45; ((with_reducible refine (HLL.out _ (by first | exact (Fr.refl _ _).drew | exact (Fr.refl _ _).drew.trans hFh)).mono ?_); rintro e wl ⟨bl, rfl, hFl, hrl, hbl⟩))
          | (go_at_call 40; ((with_reducible refine (HH.out _).mono ?_); rintro e wh ⟨rh, rfl, hFh, hrh⟩; obtain ⟨ah, ch, rfl⟩ := (Sl.of_owns hrh).form))
          | (go_at_call 81; ((with_reducible refine (HEQ.out _ _ _ (by first | exact HLD.out _ _ (hrl.fr hFh (fun h => h)) | exact HLD.out _ _ hrl) (by first | exact Sl.of_owns hrh | exact (Sl.of_owns hrh).fr0 hFl)).mono ?_); rintro e we ⟨rfl, rfl⟩))
          | fail "arm")
        all_goals (
          go_wp2_with fail
          go_meet
          refine ⟨rfl, ?_⟩
          first
            | exact ((Fr.refl No wr).drew.trans hFl).trans hFh
            | exact ((Fr.refl No wr).drew.trans hFh).trans hFl)
      case rest =>
        obtain ⟨rfl, hFc⟩ := hcut
        have hT2 := (HT.out.fr hFc (fun h => h)).1
        have hb2 := (HFW.out.trans hFc).heap HB2.out (fun h => h)
        have HFC := Lib.hid hFc
        clear hFc
        go_wp2_with (first
          | (refine load_tab rfl _ rfl (w.heap.size + 1) (tabC noT 0) rfl hT2 noT_len ?_)
          | (refine store_tab rfl _ _ rfl w.heap.size (tabC noT 0) (tabC noT 0) rfl rfl hb2 noT_len noT_len noT_one ?_; intro w8 hb8 hF8)
          | fail "arm")
        refine ret_tab rfl rfl rfl hb8 noT_len rfl ?_
        exact ⟨tabC noT 0, rfl, ((HF0.out.trans HFW.out).trans HFC.out).trans' hF8 (fun i hi e => by omega), noT_len, noT_one⟩

theorem fread_none {w : World} {v : Value} (h : NoneAt w v) : Calls Try.prog 43 #[v] w (BadT w) := by
  rcases h with rfl | ⟨b, rfl, h⟩
  · exact fread_nil w
  · exact fread_zero h

set_option maxHeartbeats 400000 in
set_option maxRecDepth 1000000 in
theorem fformat_none {w : World} {v : Value} (h : NoneAt w v) : Calls Try.prog 13 #[v] w fun e w' => e = .returned (.tuple #[]) ∧ Fr No w w' := by
  have HM := Lib.hid (fun (w1 : World) (u : Value) (a : Int) (hF : Fr No w w1) => lay_none (h.fr hF) a u)
  have HH : RowKit.Hid (∀ w1, Calls Try.prog 40 #[.int .u32 0] w1 fun e w' => ∃ r, e = .returned r ∧ Fr No w1 w' ∧ w'.ownsRow w1.heap.size 5 1 r 64 (bys (headF 0))) := Lib.hid (fun w1 => fhead_calls 0 (by decide) w1)
  have hmk : ∀ w : World, (Instr.makeSlice 22 (.int .i64 512) (.int .i64 512)).run Try.prog w = .ok (.slice (some ⟨w.heap.size, 0, none⟩) 512 512) (w.alloc (.cells (bys (zs 512)).toArray 5)) := fun w => mk_bytes w 512 (by omega)
  have HP1 : RowKit.Hid (∀ w1, Calls Try.prog 39 #[.int .i64 1] w1 fun e w' => e = .returned (.int .i64 6208) ∧ w1 = w') := Lib.hid (fun w1 => place_calls 1 w1 (by omega) (by omega))
  clear h
  generalize headF 0 = hd at *
  generalize (bys (zs 512)).toArray = cs at *
  go_enter Try.func13, Try.ntmps13
  go_upto_region 1 with (first
    | (go_at_call 39; ((with_reducible refine (place0_calls _).mono ?_); rintro e w3 ⟨rfl, rfl⟩))
    | (go_at_call 40; ((with_reducible refine (HH.out _).mono ?_); rintro e w1 ⟨r, rfl, hF1, hr1⟩))
    | (go_at_call 38; ((with_reducible refine (HM.out _ _ _ hF1).mono ?_); rintro e w2 ⟨rfl, rfl⟩))
    | fail "arm")
  go_region_with (first
    | (go_at_call 39; ((with_reducible refine (HP1.out _).mono ?_); rintro e w3 ⟨rfl, rfl⟩))
    | (go_at_call 38; ((with_reducible refine (HM.out _ _ _ (hF1.trans ((Fr.refl _ _).alloc _).drew)).mono ?_); rintro e w4 ⟨rfl, rfl⟩))
    | fail "arm")
  all_goals (
    go_wp2
    go_end0
    exact ⟨rfl, hF1.trans ((Fr.refl No _).alloc _).drew⟩)


set_option maxHeartbeats 400000 in
set_option maxRecDepth 1000000 in
theorem fcheck_none {w : World} {v : Value} (h : NoneAt w v) : Calls Try.prog 28 #[v] w fun e w' => e = .returned (.int .i64 120) ∧ Fr No w w' := by
  have HR := Lib.hid (fread_none h)
  clear h
  go_enter Try.func28, Try.ntmps28
  go_wp2_with (first
    | (go_at_call 43; ((with_reducible refine HR.out.mono ?_); rintro e w1 ⟨cs, rfl, hF1, hl, h1⟩))
    | (refine alloc_tab rfl rfl ?_)
    | (refine store_tab rfl _ _ rfl w1.heap.size cs (tabC noT 0) rfl rfl (heap_new _ _) noT_len hl h1 ?_; intro w2 hb2 hF2)
    | fail "arm")
  go_ret
  exact ⟨rfl, hF1.trans (((Fr.refl No w1).alloc _).trans' hF2 (fun i hi e => by omega))⟩

set_option maxHeartbeats 400000 in
set_option maxRecDepth 1000000 in
theorem ffiles_none {w : World} {v : Value} (h : NoneAt w v) : Calls Try.prog 15 #[v] w fun e w' => e = .returned (.tuple #[.slice none 0 0, .int .i64 120]) ∧ Fr No w w' := by
  have HR := Lib.hid (fread_none h)
  clear h
  go_enter Try.func15, Try.ntmps15
  go_wp2_with (first
    | (go_at_call 43; ((with_reducible refine HR.out.mono ?_); rintro e w1 ⟨cs, rfl, hF1, hl, h1⟩))
    | (refine alloc_tab rfl rfl ?_)
    | (refine store_tab rfl _ _ rfl w1.heap.size cs (tabC noT 0) rfl rfl (heap_new _ _) noT_len hl h1 ?_; intro w2 hb2 hF2)
    | fail "arm")
  go_ret2
  exact ⟨rfl, hF1.trans (((Fr.refl No w1).alloc _).trans' hF2 (fun i hi e => by omega))⟩

set_option maxHeartbeats 400000 in
set_option maxRecDepth 1000000 in
theorem ffind_none {w : World} {v : Value} (h : NoneAt w v) (s : ByteArray) : Calls Try.prog 22 #[v, .string s] w fun e w' => e = .returned (.tuple #[.int .i64 0, .int .i64 120]) ∧ Fr No w w' := by
  have HR := Lib.hid (fread_none h)
  clear h
  go_enter Try.func22, Try.ntmps22
  go_wp2_with (first
    | (go_at_call 43; ((with_reducible refine HR.out.mono ?_); rintro e w1 ⟨cs, rfl, hF1, hl, h1⟩))
    | (refine alloc_tab rfl rfl ?_)
    | (refine store_tab rfl _ _ rfl w1.heap.size cs (tabC noT 0) rfl rfl (heap_new _ _) noT_len hl h1 ?_; intro w2 hb2 hF2)
    | fail "arm")
  go_ret2
  exact ⟨rfl, hF1.trans (((Fr.refl No w1).alloc _).trans' hF2 (fun i hi e => by omega))⟩

set_option maxHeartbeats 400000 in
set_option maxRecDepth 1000000 in
theorem fcreate_none {w : World} {v : Value} (h : NoneAt w v) (s : ByteArray) : Calls Try.prog 20 #[v, .string s] w fun e w' => e = .returned (.tuple #[.int .i64 0, .int .i64 120]) ∧ Fr No w w' := by
  have HR := Lib.hid (fread_none h)
  clear h
  go_enter Try.func20, Try.ntmps20
  go_wp2_with (first
    | (go_at_call 43; ((with_reducible refine HR.out.mono ?_); rintro e w1 ⟨cs, rfl, hF1, hl, h1⟩))
    | (refine alloc_tab rfl rfl ?_)
    | (refine store_tab rfl _ _ rfl w1.heap.size cs (tabC noT 0) rfl rfl (heap_new _ _) noT_len hl h1 ?_; intro w2 hb2 hF2)
    | fail "arm")
  go_ret2
  exact ⟨rfl, hF1.trans (((Fr.refl No w1).alloc _).trans' hF2 (fun i hi e => by omega))⟩

set_option maxHeartbeats 400000 in
set_option maxRecDepth 1000000 in
theorem frename_none {w : World} {v : Value} (h : NoneAt w v) (s t : ByteArray) : Calls Try.prog 29 #[v, .string s, .string t] w fun e w' => e = .returned (.int .i64 120) ∧ Fr No w w' := by
  have HR := Lib.hid (fread_none h)
  clear h
  go_enter Try.func29, Try.ntmps29
  go_wp2_with (first
    | (go_at_call 43; ((with_reducible refine HR.out.mono ?_); rintro e w1 ⟨cs, rfl, hF1, hl, h1⟩))
    | (refine alloc_tab rfl rfl ?_)
    | (refine store_tab rfl _ _ rfl w1.heap.size cs (tabC noT 0) rfl rfl (heap_new _ _) noT_len hl h1 ?_; intro w2 hb2 hF2)
    | fail "arm")
  go_ret
  exact ⟨rfl, hF1.trans (((Fr.refl No w1).alloc _).trans' hF2 (fun i hi e => by omega))⟩

set_option maxHeartbeats 400000 in
set_option maxRecDepth 1000000 in
theorem fdelete_none {w : World} {v : Value} (h : NoneAt w v) (s : ByteArray) : Calls Try.prog 21 #[v, .string s] w fun e w' => e = .returned (.int .i64 120) ∧ Fr No w w' := by
  have HR := Lib.hid (ffind_none h s)
  clear h
  go_enter Try.func21, Try.ntmps21
  go_wp2_with fail
  refine HR.out.mono ?_
  rintro e w1 ⟨rfl, hF1⟩
  go_wp2
  go_ret
  exact ⟨rfl, hF1⟩

set_option maxHeartbeats 400000 in
set_option maxRecDepth 1000000 in
theorem fopen_none {w : World} {v : Value} (h : NoneAt w v) (n : Int) : Calls Try.prog 51 #[v, .int .i64 n] w (BadT w) := by
  have HR := Lib.hid (fun (w1 : World) (hF : Fr No w w1) => fread_none (h.fr hF))
  clear h
  go_enter Try.func51, Try.ntmps51
  go_wp2_with (first
    | (go_at_call 43; ((with_reducible refine (HR.out _ ((Fr.refl _ _).alloc _)).mono ?_); rintro e w1 ⟨cs, rfl, hF1, hl, h1⟩))
    | (refine alloc_tab rfl rfl ?_)
    | (refine store_tab rfl _ _ rfl w1.heap.size cs (tabC noT 0) rfl rfl (heap_new _ _) noT_len hl h1 ?_; intro w2 hb2 hF2; have hF12 : Fr No w1 w2 := ((Fr.refl No w1).alloc _).trans' hF2 (fun i hi e => by omega); have hb9 := (hF1.trans hF12).heap (heap_new w _) (fun h => h))
    | (refine load_tab rfl _ rfl w1.heap.size cs rfl hb2 hl ?_)
    | (refine store_tab rfl _ _ rfl w.heap.size cs (tabC noT 0) rfl rfl hb9 noT_len hl h1 ?_; intro w3 hb3 hF3)
    | fail "arm")
  refine ret_tab rfl rfl rfl hb3 hl rfl ?_
  exact ⟨cs, rfl, ((((Fr.refl No w).alloc _).trans hF1).trans hF12).trans' hF3 (fun i hi e => by omega), hl, h1⟩

set_option maxHeartbeats 400000 in
set_option maxRecDepth 1000000 in
theorem fsize_none {w : World} {v : Value} (h : NoneAt w v) (n : Int) : Calls Try.prog 26 #[v, .int .i64 n] w fun e w' => e = .returned (.tuple #[.int .i64 0, .int .i64 120]) ∧ Fr No w w' := by
  have HR := Lib.hid (fopen_none h n)
  clear h
  go_enter Try.func26, Try.ntmps26
  go_wp2_with (first
    | (go_at_call 51; ((with_reducible refine HR.out.mono ?_); rintro e w1 ⟨cs, rfl, hF1, hl, h1⟩))
    | (refine alloc_tab rfl rfl ?_)
    | (refine store_tab rfl _ _ rfl w1.heap.size cs (tabC noT 0) rfl rfl (heap_new _ _) noT_len hl h1 ?_; intro w2 hb2 hF2)
    | fail "arm")
  go_ret2
  exact ⟨rfl, hF1.trans (((Fr.refl No w1).alloc _).trans' hF2 (fun i hi e => by omega))⟩

set_option maxHeartbeats 400000 in
set_option maxRecDepth 1000000 in
theorem fresize_none {w : World} {v : Value} (h : NoneAt w v) (n : Int) (m : Int) : Calls Try.prog 25 #[v, .int .i64 n, .int .i64 m] w fun e w' => e = .returned (.int .i64 120) ∧ Fr No w w' := by
  have HR := Lib.hid (fopen_none h n)
  clear h
  go_enter Try.func25, Try.ntmps25
  go_wp2_with (first
    | (go_at_call 51; ((with_reducible refine HR.out.mono ?_); rintro e w1 ⟨cs, rfl, hF1, hl, h1⟩))
    | (refine alloc_tab rfl rfl ?_)
    | (refine store_tab rfl _ _ rfl w1.heap.size cs (tabC noT 0) rfl rfl (heap_new _ _) noT_len hl h1 ?_; intro w2 hb2 hF2)
    | fail "arm")
  go_ret
  exact ⟨rfl, hF1.trans (((Fr.refl No w1).alloc _).trans' hF2 (fun i hi e => by omega))⟩

set_option maxHeartbeats 400000 in
set_option maxRecDepth 1000000 in
theorem ffread_none {w : World} {v : Value} (h : NoneAt w v) (n : Int) (o m : Int) : Calls Try.prog 27 #[v, .int .i64 n, .int .i64 o, .int .i64 m] w fun e w' => e = .returned (.tuple #[.slice none 0 0, .int .i64 120]) ∧ Fr No w w' := by
  have HR := Lib.hid (fopen_none h n)
  clear h
  go_enter Try.func27, Try.ntmps27
  go_wp2_with (first
    | (go_at_call 51; ((with_reducible refine HR.out.mono ?_); rintro e w1 ⟨cs, rfl, hF1, hl, h1⟩))
    | (refine alloc_tab rfl rfl ?_)
    | (refine store_tab rfl _ _ rfl w1.heap.size cs (tabC noT 0) rfl rfl (heap_new _ _) noT_len hl h1 ?_; intro w2 hb2 hF2)
    | fail "arm")
  go_ret2
  exact ⟨rfl, hF1.trans (((Fr.refl No w1).alloc _).trans' hF2 (fun i hi e => by omega))⟩

set_option maxHeartbeats 400000 in
set_option maxRecDepth 1000000 in
theorem fwrite_none {w : World} {v : Value} (h : NoneAt w v) (n : Int) (o : Int) (a : Option Addr) (l c : Nat) : Calls Try.prog 24 #[v, .int .i64 n, .int .i64 o, .slice a l c] w fun e w' => e = .returned (.int .i64 120) ∧ Fr No w w' := by
  have HR := Lib.hid (fopen_none h n)
  clear h
  go_enter Try.func24, Try.ntmps24
  go_wp2_with (first
    | (go_at_call 51; ((with_reducible refine HR.out.mono ?_); rintro e w1 ⟨cs, rfl, hF1, hl, h1⟩))
    | (refine alloc_tab rfl rfl ?_)
    | (refine store_tab rfl _ _ rfl w1.heap.size cs (tabC noT 0) rfl rfl (heap_new _ _) noT_len hl h1 ?_; intro w2 hb2 hF2)
    | fail "arm")
  go_ret
  exact ⟨rfl, hF1.trans (((Fr.refl No w1).alloc _).trans' hF2 (fun i hi e => by omega))⟩
end Go.Proofs.Ytoajnmbbgbpbgaa
