/-
  Inodes written: the reference's Encode.
-/
import Derived.Test.YtbjffempiaohpaaEnc1
namespace Go.Proofs.Ytbjffempiaohpaa
set_option linter.unusedVariables false
set_option linter.unusedSimpArgs false
open Go.RowKit Go.Shelf

theorem spl_set (l : List Int) (m : List Int) (v : Int) (h : 0 < l.length) : spl (l.set 0 v) 1 m = (spl l 1 m).set 0 v := by
  cases l with
  | nil => simp at h
  | cons x l => simp [spl, Nat.add_comm 1]
theorem put_spl (l : List Int) (n : Int) (h : l.length = 64) : putL l 16 n 2 = spl l 16 (putL (zs 2) 0 n 2) := by
  have h2 : putL (zs 2) 0 n 2 = [IntKind.u8.wrap (n / 2 ^ (8 * 0)), IntKind.u8.wrap (n / 2 ^ (8 * 1))] := rfl
  rw [h2]
  show (l.set 16 _).set 17 _ = _
  apply List.ext_getElem?
  intro i
  simp only [spl, List.getElem?_set, List.getElem?_append, List.getElem?_take, List.length_take, List.length_append, List.length_set, List.getElem?_drop, h, List.length_cons, List.length_nil]
  by_cases h1 : i = 16
  · subst h1; simp
  · by_cases h3 : i = 17
    · subst h3; simp
    · by_cases h4 : i < 16
      · simp [h4, Nat.lt_of_lt_of_le h4, show ¬ 16 = i by omega, show ¬ 17 = i by omega]
      · simp [h4, show ¬ 16 = i by omega, show ¬ 17 = i by omega, show ¬ i < 18 by omega, show 18 + (i - 18) = i by omega]

set_option maxHeartbeats 1000000 in
set_option maxRecDepth 1000000 in
theorem renc_calls (s : ByteArray) (n : Int) (a : Option Addr) (cap : Nat) (xs : List (Int × Int)) (w : World) (hs : s.size ≤ 15) (hs0 : 1 ≤ s.size) (h1 : 0 ≤ n) (h2 : n ≤ 1472) (hlen : xs.length ≤ 23) (hv : Sl w (.slice a xs.length cap) xs.length (extCells xs))
    (CK : RowKit.Hid (∀ w1, Fr No w w1 → Calls Try.prog 63 #[.agg #[.string s, .int .i64 n, .slice a xs.length cap]] w1 fun e w' => e = .returned (.int .i64 0) ∧ Fr No w1 w')) :
    Calls Try.prog 42 #[.agg #[.string s, .int .i64 n, .slice a xs.length cap]] w fun e w' => ∃ r, e = .returned (.tuple #[r, .int .i64 0]) ∧ Fr No w w' ∧ w'.ownsRow w.heap.size 5 1 r 64 (bys (encF s n xs)) := by
  have hL := encHead_length s n hs
  have hmk : ∀ w : World, (Instr.makeSlice 22 (.int .i64 64) (.int .i64 64)).run Try.prog w = .ok (.slice (some ⟨w.heap.size, 0, none⟩) 64 64) (w.alloc (.cells (bys (zs 64)).toArray 5)) := fun w => mk_bytes w 64 (by omega)
  have hl1 : ((zs 64).set 0 (s.size : Int)).length = 64 := by rw [List.length_set, zs_length]
  have hl2 : (spl ((zs 64).set 0 (s.size : Int)) 1 (bytesOf s)).length = 64 := by rw [spl_length _ _ _ (by rw [bytesOf_length, hl1]; omega), hl1]
  have hhead : putL (spl ((zs 64).set 0 (s.size : Int)) 1 (bytesOf s)) 16 n 2 = encHead s n := by rw [put_spl _ _ hl2, spl_set _ _ _ (by rw [zs_length]; omega), encHead]
  have hs1 : (s.size : Int) ≤ 15 := by omega
  have hwr : IntKind.u8.wrap (s.size : Int) = s.size := by rw [IntKind.wrap_u8]; omega
  have hu64 : IntKind.u64.wrap n = n := by rw [IntKind.wrap_u64]; omega
  go_enter Try.func42, Try.ntmps42
  have hF0 : Fr No w (w.alloc (Obj.cells #[.string s, .int .i64 n, .slice a xs.length cap] 26)) := (Fr.refl _ _).alloc _
  have hb0 := heap_new w (Obj.cells #[.string s, .int .i64 n, .slice a xs.length cap] 26)
  go_wp2_with (go_at_call 63; ((with_reducible refine (CK.out _ hF0).mono ?_); rintro e w1 ⟨rfl, hF1⟩; have c0 := hF1.cell (heap_cell (o := 0) hb0 rfl) (fun h => h); have c1 := hF1.cell (heap_cell (o := 1) hb0 rfl) (fun h => h); have c2 := hF1.cell (heap_cell (o := 2) hb0 rfl) (fun h => h); have hW := Row.new w1 5 (zs 64); have hF2 : Fr No w1 (w1.alloc (Obj.cells (bys (zs 64)).toArray 5)) := (Fr.refl _ _).alloc _; have d0 := hF2.cell c0 (fun h => h); have d1 := hF2.cell c1 (fun h => h); have d2 := hF2.cell c2 (fun h => h); have q0 := hW.cell (i := 0) (by rw [zs_length]; omega); have f0 := hW.frozen 0))
  rw [bys_set]
  clear hW hF2 d0 d1 d2 q0 f0
  have hW := Row.new w1 5 ((zs 64).set 0 (s.size : Int))
  have hF2 : Fr No w1 (w1.alloc (Obj.cells (bys ((zs 64).set 0 (s.size : Int))).toArray 5)) := (Fr.refl _ _).alloc _
  have hw1 : w.heap.size < w1.heap.size := Nat.lt_of_lt_of_le (by simp) hF1.size
  have hF02 := (hF0.trans hF1).trans hF2
  generalize (zs 64).set 0 (s.size : Int) = l1 at *
  generalize w1.alloc _ = W at *
  have d0 := hF2.cell c0 (fun h => h)
  have hW' : Row W.drew w1.heap.size 5 l1 := hW
  obtain ⟨W2, hR2, hF3, hrun⟩ := hW'.copyStr s 1 15 63 (by omega) (by omega)
  go_region
  have hF4 : Fr (fun k => k = w1.heap.size) W W2 := (Fr.refl _ W).drew.trans hF3
  have e1 := hF4.cell (hF2.cell c1 (fun h => h)) (by omega)
  have e2 := hF4.cell (hF2.cell c2 (fun h => h)) (by omega)
  have hsl : Sl W2 (.slice (some ⟨w1.heap.size, 0, none⟩) 64 64) (spl l1 1 (bytesOf s)).length (bys (spl l1 1 (bytesOf s))) := by have := hR2.sl; rw [hl2] at this; rw [hl2]; exact this
  have hp := rput_calls _ (spl l1 1 (bytesOf s)) 16 2 n W2 (by omega) (by omega) (by omega) (by omega) (by omega) hsl
  rw [hhead, hl2] at hp
  have hp2 : Calls Try.prog 64 #[.slice (some ⟨w1.heap.size, 0, none⟩) 64 64, .int .i64 16, .int .i64 2, .int .u64 n] W2 fun e w' => ∃ r, e = .returned r ∧ Fr No W2 w' ∧ w'.ownsRow W2.heap.size 5 1 r 64 (bys (encHead s n)) := hp
  have HP := Lib.hid hp2
  clear hp hp2
  clear hrun hmk c0 c1 c2 d0 hW hW' hsl
  go_wp2_with (go_at_call 64; ((with_reducible refine HP.out.mono ?_); rintro e w5 ⟨r5, rfl, hF5, hr5⟩; obtain ⟨g5, cap5, rfl, hg5, -⟩ := World.ownsRow.form hr5 (by omega); have k2 := hF5.cell e2 (fun h => h)))
  have hF5w : Fr No w w5 := (hF02.trans' hF4 (fun i hi e => by omega)).trans hF5
  have hws : w.heap.size ≤ W2.heap.size := Nat.le_trans hF02.size hF4.size
  replace hr5 := ownsRow_base hr5 hws
  clear e1 e2 HP hF5 hF4 hF3 hF2 hR2 hF02 k2
  go_loopw [33] (fun i wr => ∃ k : Nat, k ≤ xs.length ∧ i = .int .i64 k ∧ wr.ownsRow w.heap.size 5 1 (.slice (some ⟨g5, 0, none⟩) 64 cap5) 64 (bys (encN (encHead s n) xs k)) ∧ Fr No w wr) (fun i _ => xs.length - (intOf i).toNat)
  case atStart => exact ⟨0, Nat.zero_le _, rfl, hr5, hF5w⟩
  case round =>
    obtain ⟨k, hk, rfl, hR, hFr⟩ := hrel
    have hvr := hv.fr0 hFr
    by_cases hlt : k < xs.length
    · obtain ⟨y1, y2⟩ := extCells_get xs k hlt
      obtain ⟨b, off, rfl, hb, hc⟩ := hvr.at (by intro e; rw [e] at y1; cases y1)
      have hc1 := hc _ _ y1
      have hc2 := hc _ _ y2
      rw [← Nat.add_assoc] at hc2
      have hstep : encN (encHead s n) xs (k + 1) = ((encN (encHead s n) xs k).set (18 + 2 * k) (xs[k].1 % 256)).set (19 + 2 * k) (xs[k].2 % 256) := by rw [encN]; simp [List.getD, hlt]
      have hlk := encN_length (encHead s n) xs k
      revert hc1 hc2 hstep
      generalize xs[k] = x
      obtain ⟨x1, x2⟩ := x
      intro hc1 hc2 hstep
      have HSTEP := Lib.hid hstep
      clear hstep y1 y2 hc hv hvr
      rw [hL] at hlk
      go_wp2
      have hFA : Fr No wr (wr.alloc (Obj.cells #[.int .i64 x1, .int .i64 x2] 73)) := (Fr.refl _ _).alloc _
      have hn := heap_new wr (Obj.cells #[.int .i64 x1, .int .i64 x2] 73)
      have n0 := heap_cell (o := 0) hn rfl
      have n1 := heap_cell (o := 1) hn rfl
      have hRA := hR.alloc (Obj.cells #[.int .i64 x1, .int .i64 x2] 73)
      have q1 := (hRA.cellAt (18 + 2 * k) (by omega)).trans (bys_get _ (18 + 2 * k) (by omega))
      have q2 := (hRA.cellAt (19 + 2 * k) (by omega)).trans (bys_get _ (19 + 2 * k) (by omega))
      have r1 := hRA.frozenAt (18 + 2 * k)
      have r2 := hRA.frozenAt (19 + 2 * k)
      obtain ⟨hS1, hG1⟩ := hRA.stored (18 + 2 * k) (.int .u8 (x1 % 256))
      obtain ⟨hS2, hG2⟩ := hS1.stored (19 + 2 * k) (.int .u8 (x2 % 256))
      rw [bys_set, bys_set] at hS2
      have HS2 := Lib.hid hS2
      have hFS := ((hFr.trans hFA).grown hG1 (fun k e hk => by cases e; have := World.ownsRow.form hr5 (by omega); omega)).grown hG2 (fun k e hk => by cases e; omega)
      have HFS := Lib.hid hFS
      clear hR hRA hn hS1 hS2 hG1 hG2 hFS
      revert q1 q2
      generalize (encN (encHead s n) xs k)[18 + 2 * k] = o1
      generalize (encN (encHead s n) xs k)[19 + 2 * k] = o2
      intro q1 q2
      generalize wr.alloc _ = WA at *
      go_region
      go_wp2
      exact ⟨⟨k + 1, by omega, by go_num, by rw [HSTEP.out]; exact HS2.out.drew, HFS.out.drew⟩, by simp [intOf]; omega⟩
    · go_wp2
      go_ret2
      exact ⟨_, rfl, hFr, by rw [encF, show xs.length = k by omega]; exact hR⟩
end Go.Proofs.Ytbjffempiaohpaa
