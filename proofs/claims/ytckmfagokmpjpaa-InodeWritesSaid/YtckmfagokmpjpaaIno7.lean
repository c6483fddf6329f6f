/-
  The writers' law.
-/
import Derived.Test.YtckmfagokmpjpaaIno6
import Derived.Deep.RegionHeld3
namespace Go.Proofs.Ytckmfagokmpjpaa
set_option linter.unusedVariables false
set_option linter.unusedSimpArgs false
open Go.RowKit Go.Shelf

theorem encF_range (s : ByteArray) (n : Int) (xs : List (Int × Int)) (hs : s.size ≤ 15) : ∀ b ∈ encF s n xs, 0 ≤ b ∧ b < 256 := by
  have hset : ∀ (l : List Int) (i : Nat) (x : Int), (∀ b ∈ l, 0 ≤ b ∧ b < 256) → (0 ≤ x ∧ x < 256) → ∀ b ∈ l.set i x, 0 ≤ b ∧ b < 256 := fun l i x h1 h2 b hb => by
    rcases List.mem_or_eq_of_mem_set hb with h | rfl
    · exact h1 b h
    · exact h2
  have hspl : ∀ (l m : List Int) (o : Nat), (∀ b ∈ l, 0 ≤ b ∧ b < 256) → (∀ b ∈ m, 0 ≤ b ∧ b < 256) → ∀ b ∈ spl l o m, 0 ≤ b ∧ b < 256 := fun l m o h1 h2 b hb => by
    simp only [spl, List.mem_append] at hb
    rcases hb with (h | h) | h
    · exact h1 b (List.mem_of_mem_take h)
    · exact h2 b h
    · exact h1 b (List.mem_of_mem_drop h)
  have hzs : ∀ k, ∀ b ∈ zs k, 0 ≤ b ∧ b < 256 := fun k b hb => by simp only [zs, List.mem_replicate] at hb; omega
  have hw : ∀ x : Int, 0 ≤ IntKind.u8.wrap x ∧ IntKind.u8.wrap x < 256 := fun x => by rw [IntKind.wrap_u8]; omega
  have hhead : ∀ b ∈ encHead s n, 0 ≤ b ∧ b < 256 := by
    refine hspl _ _ _ (hset _ _ _ (hspl _ _ _ (hzs 64) (bytesOf_range s)) (by omega)) ?_
    exact hset _ _ _ (hset _ _ _ (hzs 2) (hw _)) (hw _)
  have : ∀ k, ∀ b ∈ encN (encHead s n) xs k, 0 ≤ b ∧ b < 256 := fun k => by
    induction k with
    | zero => exact hhead
    | succ k ih => exact hset _ _ _ (hset _ _ _ ih (by omega)) (by omega)
  exact this xs.length

/-- What Encode comes to, said once for inodes that may be and that may not. -/
def encL (s : ByteArray) (n : Int) (xs : List (Int × Int)) : List Int := if inoOk s n xs = true then encF s n xs else []
theorem encL_range (s : ByteArray) (n : Int) (xs : List (Int × Int)) : ∀ b ∈ encL s n xs, 0 ≤ b ∧ b < 256 := by
  intro b hb
  rw [encL] at hb
  split at hb
  · rename_i h; exact encF_range s n xs (inoOk_small h).2.1 b hb
  · cases hb
theorem enc_uni {w w' : World} {s : ByteArray} {n : Int} {xs : List (Int × Int)} {e : Ending} (h : EncPost w s n xs e w') :
    Fr No w w' ∧ ∃ r, e = .returned (.tuple #[r, .int .i64 (inoN s n xs)]) ∧ Sl w' r (encL s n xs).length (bys (encL s n xs)) := by
  obtain ⟨hF, ⟨ho, r, rfl, hr⟩ | ⟨ho, rfl⟩⟩ := h
  · refine ⟨hF, r, by rw [inoN, if_pos ho], ?_⟩
    rw [encL, if_pos ho, encF_length s n xs (inoOk_small ho).2.1]; exact hr
  · refine ⟨hF, _, by rw [inoN, ho]; rfl, ?_⟩
    rw [encL, ho]; exact Sl.nil _

set_option maxHeartbeats 1000000 in
set_option maxRecDepth 1000000 in
theorem inodeWrites_calls (s : ByteArray) (n : Int) (v : Value) (xs : List (Int × Int)) (w : World) (h1 : -9223372036854775808 ≤ n) (h2 : n ≤ 9223372036854775807) (hv : Sl w v xs.length (extCells xs)) :
    Calls Try.prog 9 #[.agg #[.string s, .int .i64 n, v]] w fun e w' => e = .returned (.bool true) ∧ Fr No w w' := by
  obtain ⟨a, cap, rfl⟩ := hv.form
  have hF0 : Fr No w (w.alloc (Obj.cells #[.string s, .int .i64 n, .slice a xs.length cap] 47)) := (Fr.refl _ _).alloc _
  have hb0 := heap_new w (Obj.cells #[.string s, .int .i64 n, .slice a xs.length cap] 47)
  by_cases hlen : xs.length ≤ 100
  · by_cases hs : s.size ≤ 1000
    · have C1 := Lib.hid (fun w1 (h : Fr No w w1) => encode_calls s n _ xs w1 (by omega) h1 h2 hlen (hv.fr0 h))
      have C2 := Lib.hid (fun w1 (h : Fr No w w1) => rencode_calls s n _ xs w1 (by omega) h1 h2 hlen (hv.fr0 h))
      have C3 := Lib.hid (fun w1 (h : Fr No w w1) => icheck_calls s n _ xs w1 (by omega) h1 h2 hlen (hv.fr0 h))
      have C4 := Lib.hid (fun w1 (h : Fr No w w1) => rcheck_calls s n _ xs w1 (by omega) h1 h2 hlen (hv.fr0 h))
      have HU := Lib.hid (fun w w' e h => @enc_uni w w' s n xs e h)
      have HR := Lib.hid (encL_range s n xs)
      clear hv h1 h2
      generalize inoN s n xs = er at *
      generalize encL s n xs = l at *
      go_enter Try.func9, Try.ntmps9
      go_wp2_with fail
      generalize w.alloc _ = W at *
      refine (awake11_calls _).mono ?_
      rintro e w1 ⟨rfl, hF1⟩
      have hb1 := hF1.heap hb0 (fun h => h)
      have c0 := heap_cell (o := 0) hb1 rfl
      have c1 := heap_cell (o := 1) hb1 rfl
      have c2 := heap_cell (o := 2) hb1 rfl
      go_wp2_with fail
      refine (C1.out _ (hF0.trans hF1)).mono ?_
      rintro e w2 hp2
      obtain ⟨hF2, r2, rfl, hr2⟩ := HU.out _ _ _ hp2
      have hb2 := hF2.heap hb1 (fun h => h)
      clear hb0 hb1 hp2 c0 c1 c2
      have d0 := heap_cell (o := 0) hb2 rfl
      have d1 := heap_cell (o := 1) hb2 rfl
      have d2 := heap_cell (o := 2) hb2 rfl
      have hF02 := (hF0.trans hF1).trans hF2
      go_wp2_with fail
      refine (C2.out _ hF02).mono ?_
      rintro e w3 hp3
      obtain ⟨hF3, r3, rfl, hr3⟩ := HU.out _ _ _ hp3
      have hb3 := hF3.heap hb2 (fun h => h)
      clear hb2 hp3 d0 d1 d2
      have k0 := heap_cell (o := 0) hb3 rfl
      have k1 := heap_cell (o := 1) hb3 rfl
      have k2 := heap_cell (o := 2) hb3 rfl
      have hF03 := hF02.trans hF3
      have HSM := same01_calls r2 r3 l l w3.drew HR.out HR.out (hr2.fr0 hF3.drew) (hr3.fr0 (Fr.refl _ _).drew)
      rw [decide_eq_true (rfl : l = l)] at HSM
      have HS := Lib.hid HSM
      clear HSM hb3
      obtain ⟨a2, cap2, rfl⟩ := hr2.form
      obtain ⟨a3, cap3, rfl⟩ := hr3.form
      clear hr2 hr3
      go_wp2
      go_region_held3 (fun w' => w'.cell? ⟨w.heap.size, 0, none⟩ = some (.string s) ∧ w'.cell? ⟨w.heap.size, 1, none⟩ = some (.int .i64 n) ∧ w'.cell? ⟨w.heap.size, 2, none⟩ = some (.slice a xs.length cap)) (first | exact ⟨k0, k1, k2⟩ | exact ⟨m0, m1, m2⟩ | exact ⟨n0, n1, n2⟩)
        (first | (go_at_call 42; ((with_reducible refine HS.out.mono ?_); rintro e w4 ⟨rfl, rfl⟩)) | (go_at_call 43; ((with_reducible refine (C3.out _ hF03.drew).mono ?_); rintro e w5 ⟨rfl, hF5⟩; have m0 := hF5.cell (o := 0) k0 (fun h => h); have m1 := hF5.cell (o := 1) k1 (fun h => h); have m2 := hF5.cell (o := 2) k2 (fun h => h))) | (go_at_call 44; ((with_reducible refine (C4.out _ (hF03.drew.trans hF5)).mono ?_); rintro e w6 ⟨rfl, hF6⟩; have n0 := hF6.cell (o := 0) m0 (fun h => h); have n1 := hF6.cell (o := 1) m1 (fun h => h); have n2 := hF6.cell (o := 2) m2 (fun h => h))))
      go_wp2
      go_ret
      exact ⟨rfl, (hF03.drew.trans hF5).trans hF6⟩
    · have hs' : 1000 < s.size := by omega
      clear hv h1 h2 hs
      go_enter Try.func9, Try.ntmps9
      go_wp2_with fail
      generalize w.alloc _ = W at *
      refine (awake11_calls _).mono ?_
      rintro e w1 ⟨rfl, hF1⟩
      have hb1 := hF1.heap hb0 (fun h => h)
      have c0 := heap_cell (o := 0) hb1 rfl
      have c1 := heap_cell (o := 1) hb1 rfl
      have c2 := heap_cell (o := 2) hb1 rfl
      go_wp2
      go_ret
      exact ⟨rfl, hF0.trans hF1⟩
  · have hl' : 100 < xs.length := by omega
    clear hv h1 h2 hlen
    go_enter Try.func9, Try.ntmps9
    go_wp2_with fail
    generalize w.alloc _ = W at *
    refine (awake11_calls _).mono ?_
    rintro e w1 ⟨rfl, hF1⟩
    have hb1 := hF1.heap hb0 (fun h => h)
    have c2 := heap_cell (o := 2) hb1 rfl
    go_wp2
    go_ret
    exact ⟨rfl, hF0.trans hF1⟩
end Go.Proofs.Ytckmfagokmpjpaa
