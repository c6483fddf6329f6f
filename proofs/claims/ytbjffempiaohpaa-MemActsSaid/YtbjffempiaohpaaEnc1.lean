/-
  Inodes written: the program's Encode.
-/
import Derived.Test.YtbjffempiaohpaaRow
import Derived.Test.YtbjffempiaohpaaIno1
import Derived.Test.YtbjffempiaohpaaExt9
import Derived.Deep.RegionHeld3
namespace Go.Proofs.Ytbjffempiaohpaa
set_option linter.unusedVariables false
set_option linter.unusedSimpArgs false
open Go.RowKit Go.Shelf

/-- An inode's bytes: length, name, size; then its extents. -/
def encHead (s : ByteArray) (n : Int) : List Int := spl ((spl (zs 64) 1 (bytesOf s)).set 0 s.size) 16 (putL (zs 2) 0 n 2)
def encN (l : List Int) (xs : List (Int × Int)) : Nat → List Int
  | 0 => l
  | k + 1 => ((encN l xs k).set (18 + 2 * k) ((xs.getD k (0, 0)).1 % 256)).set (19 + 2 * k) ((xs.getD k (0, 0)).2 % 256)
theorem encN_length (l : List Int) (xs : List (Int × Int)) (k : Nat) : (encN l xs k).length = l.length := by
  induction k with
  | zero => rfl
  | succ k ih => rw [encN, List.length_set, List.length_set, ih]
/-- An inode's bytes. -/
def encF (s : ByteArray) (n : Int) (xs : List (Int × Int)) : List Int := encN (encHead s n) xs xs.length
theorem encHead_length (s : ByteArray) (n : Int) (hs : s.size ≤ 15) : (encHead s n).length = 64 := by
  have h1 : ((spl (zs 64) 1 (bytesOf s)).set 0 s.size).length = 64 := by
    rw [List.length_set, spl_length _ _ _ (by rw [bytesOf_length, zs_length]; omega), zs_length]
  rw [encHead, spl_length _ _ _ (by rw [putL_length, zs_length, h1]; omega), h1]

set_option maxHeartbeats 1000000 in
set_option maxRecDepth 1000000 in
theorem enc_calls (s : ByteArray) (n : Int) (a : Option Addr) (cap : Nat) (xs : List (Int × Int)) (w : World) (hs : s.size ≤ 15) (hs0 : 1 ≤ s.size) (h1 : 0 ≤ n) (h2 : n ≤ 1472) (hlen : xs.length ≤ 23) (hv : Sl w (.slice a xs.length cap) xs.length (extCells xs))
    (CK : RowKit.Hid (∀ w1, Fr No w w1 → Calls Try.prog 44 #[.agg #[.string s, .int .i64 n, .slice a xs.length cap]] w1 fun e w' => e = .returned (.int .i64 0) ∧ Fr No w1 w')) :
    Calls Try.prog 13 #[.agg #[.string s, .int .i64 n, .slice a xs.length cap]] w fun e w' => ∃ b, e = .returned (.tuple #[.slice (some ⟨b, 0, none⟩) 64 64, .int .i64 0]) ∧ Fr No w w' ∧ Row w' b 77 (encF s n xs) ∧ w.heap.size ≤ b := by
  have hL := encHead_length s n hs
  have hmk : ∀ w : World, (Instr.makeSlice 22 (.int .i64 2) (.int .i64 2)).run Try.prog w = .ok (.slice (some ⟨w.heap.size, 0, none⟩) 2 2) (w.alloc (.cells (bys (zs 2)).toArray 5)) := fun w => mk_bytes w 2 (by omega)
  go_enter Try.func13, Try.ntmps13
  have hF0 : Fr No w (w.alloc (Obj.cells #[.string s, .int .i64 n, .slice a xs.length cap] 26)) := (Fr.refl _ _).alloc _
  have hb0 := heap_new w (Obj.cells #[.string s, .int .i64 n, .slice a xs.length cap] 26)
  go_wp2_with (go_at_call 44; ((with_reducible refine (CK.out _ hF0).mono ?_); rintro e w1 ⟨rfl, hF1⟩; have c0 := hF1.cell (heap_cell (o := 0) hb0 rfl) (fun h => h); have c1 := hF1.cell (heap_cell (o := 1) hb0 rfl) (fun h => h); have c2 := hF1.cell (heap_cell (o := 2) hb0 rfl) (fun h => h)))
  have hW := Row.new w1 77 (zs 64)
  have hF2 : Fr No w1 (w1.alloc (Obj.cells (bys (zs 64)).toArray 77)) := (Fr.refl _ _).alloc _
  have hw1 : w.heap.size < w1.heap.size := Nat.lt_of_lt_of_le (by simp) hF1.size
  change Code.wp _ _ _ _ (w1.alloc (Obj.cells (bys (zs 64)).toArray 77))
  have hF02 := (hF0.trans hF1).trans hF2
  generalize w1.alloc _ = W at *
  have d0 := hF2.cell c0 (fun h => h)
  have hW' : Row W.drew w1.heap.size 77 (zs 64) := hW
  obtain ⟨W2, hR2, hF3, hrun⟩ := hW'.copyStr s 1 17 63 (by omega) (by rw [zs_length]; omega)
  have hx0 : (spl (zs 64) 1 (bytesOf s)).length = 64 := by rw [spl_length _ _ _ (by rw [bytesOf_length, zs_length]; omega), zs_length]
  have k0 := hR2.cell (i := 0) (by omega)
  have k1 := hR2.frozen 0
  have hR3 := hR2.set 0 s.size
  have hs1 : (s.size : Int) ≤ 15 := by omega
  have hwr : IntKind.u8.wrap (s.size : Int) = s.size := by rw [IntKind.wrap_u8]; omega
  have hR3h := Lib.hid hR3
  clear hR3 hW hW' hR2
  go_region
  have hR3 := hR3h.out
  have hF4 : Fr (fun k => k = w1.heap.size) W (W2.setCell ⟨w1.heap.size, 0, none⟩ (.int .u8 s.size)) := ((Fr.refl _ W).drew.trans hF3).setCell (p := ⟨w1.heap.size, 0, none⟩) (fun _ => rfl) _
  generalize W2.setCell ⟨w1.heap.size, 0, none⟩ (.int .u8 s.size) = W3 at *
  have hwx : W.heap.size ≤ W3.heap.size := hF4.size
  have e1 := hF4.cell (hF2.cell c1 (fun h => h)) (by omega)
  have e2 := hF4.cell (hF2.cell c2 (fun h => h)) (by omega)
  have hu64 : IntKind.u64.wrap n = n := by rw [IntKind.wrap_u64]; omega
  clear hrun k0 k1 hR3h d0 c0 hF3
  have hx1 : ((spl (zs 64) 1 (bytesOf s)).set 0 s.size).length = 64 := by rw [List.length_set, hx0]
  generalize hl1 : (spl (zs 64) 1 (bytesOf s)).set 0 s.size = l1 at *
  go_wp2
  have hA : Fr No W3 ((W3.alloc (Obj.cells (bys (zs 2)).toArray 5)).drew) := ((Fr.refl No W3).alloc _).drew
  have eA := hA.cell e1 (fun h => h)
  have HSL : Sl ((W3.alloc (Obj.cells (bys (zs 2)).toArray 5)).drew) (.slice (some ⟨W3.heap.size, 0, none⟩) 2 2) (zs 2).length (bys (zs 2)) := (Row.new W3 5 (zs 2)).sl
  have hbl : w1.heap.size < W3.heap.size := hR3.lt
  have HP := (put_calls _ (zs 2) 0 2 n _ (by omega) (by rw [zs_length]; omega) (by rw [zs_length]; omega) (by omega) (by rw [zs_length]; omega) HSL)
  have HP2 : Calls Try.prog 45 #[.slice (some ⟨W3.heap.size, 0, none⟩) 2 2, .int .i64 0, .int .i64 2, .int .u64 n] ((W3.alloc (Obj.cells (bys (zs 2)).toArray 5)).drew) fun e w5 => ∃ g5 cap5 W6, e = .returned (.slice (some ⟨g5, 0, none⟩) 2 cap5) ∧ w5.cell? ⟨w.heap.size, 1, none⟩ = some (.int .i64 n) ∧
      Row W6 w1.heap.size 77 (spl l1 16 (putL (zs 2) 0 n 2)) ∧ Fr (fun k => k = w1.heap.size) W3 W6 ∧ W6.cell? ⟨w.heap.size, 1, none⟩ = some (.int .i64 n) ∧ ∀ ty, (Builtin.copy_ #[22, 22] ty #[.slice (some ⟨w1.heap.size, 16, none⟩) 2 48, .slice (some ⟨g5, 0, none⟩) 2 cap5]).run Try.prog w5 = .ok (.int .i64 2) W6 := by
    refine HP.mono ?_
    rintro e w5 ⟨r5, rfl, hF5, hr5⟩
    have hz2 : (zs 2).length = 2 := rfl
    rw [hz2] at hr5
    obtain ⟨g5, cap5, rfl, hg5, -⟩ := World.ownsRow.form hr5 (by omega)
    have e5 := hF5.cell eA (fun h => h)
    have hR5 := hR3.fr (hA.trans hF5) (fun h => h)
    have hl2 : (putL (zs 2) 0 n 2).length = 2 := by rw [putL_length]; rfl
    have hsl5 : Sl w5 (.slice (some ⟨g5, 0, none⟩) (putL (zs 2) 0 n 2).length cap5) (putL (zs 2) 0 n 2).length (bys (putL (zs 2) 0 n 2)) := by rw [hl2]; exact Sl.of_owns hr5
    obtain ⟨W6, hR6, hF6, hrun6⟩ := hR5.copySl (putL (zs 2) 0 n 2) (some ⟨g5, 0, none⟩) cap5 16 2 48 (by omega) hsl5 (by omega) (by omega)
    rw [hl2] at hrun6
    exact ⟨g5, cap5, W6, rfl, e5, hR6, (hA.trans hF5).no.trans hF6, hF6.cell e5 (by omega), hrun6⟩
  have HP3 := Lib.hid HP2
  clear HP HP2 HSL
  go_region_held3 (fun w' => w'.cell? ⟨w.heap.size, 1, none⟩ = some (.int .i64 n)) (first | exact e1 | exact eA | exact e5 | exact e6)
    (first | (go_at_call 45; ((with_reducible refine HP3.out.mono ?_); rintro e w5 ⟨g5, cap5, W6, rfl, e5, hR6, hF6, e6, hrun6⟩)))
  have hF6w : Fr No w W6 := hF02.trans' (hF4.trans hF6) (fun i hi e => by omega)
  have k2 := hF6.cell e2 (by omega)
  have hL2 : spl l1 16 (putL (zs 2) 0 n 2) = encHead s n := by rw [encHead, ← hl1]
  rw [hL2] at hR6
  clear hrun6 hl1 hL2 HP3 hF6 hF4 hR3 hmk e6 e1 e2 eA c1 c2 hA
  go_wp2
  go_loopw [29] (fun i wr => ∃ k : Nat, k ≤ xs.length ∧ i = .int .i64 k ∧ Row wr w1.heap.size 77 (encN (encHead s n) xs k) ∧ Fr No w wr) (fun i _ => xs.length - (intOf i).toNat)
  case atStart => exact ⟨0, Nat.zero_le _, rfl, hR6, hF6w⟩
  case round =>
    obtain ⟨k, hk, rfl, hR, hFr⟩ := hrel
    have hvr := hv.fr0 hFr
    by_cases hlt : k < xs.length
    · obtain ⟨y1, y2⟩ := extCells_get xs k hlt
      obtain ⟨b, off, rfl, hb, hc⟩ := hvr.at (by intro e; rw [e] at y1; cases y1)
      have hc1 := hc _ _ y1
      have hc2 := hc _ _ y2
      rw [← Nat.add_assoc] at hc2
      have hstep : encN (encHead s n) xs (k + 1) = ((encN (encHead s n) xs k).set (18 + 2 * k) (xs[k].1 % 256)).set (19 + 2 * k) (xs[k].2 % 256) := by rw [encN]; simp [List.getD, hlt]
      have hlk := encN_length (encHead s n) xs k
      revert hc1 hc2 hstep
      generalize xs[k] = x
      obtain ⟨x1, x2⟩ := x
      intro hc1 hc2 hstep
      have HSTEP := Lib.hid hstep
      clear hstep y1 y2 hc hv hvr
      rw [hL] at hlk
      go_wp2
      have hFA : Fr No wr (wr.alloc (Obj.cells #[.int .i64 x1, .int .i64 x2] 73)) := (Fr.refl _ _).alloc _
      have hn := heap_new wr (Obj.cells #[.int .i64 x1, .int .i64 x2] 73)
      have n0 := heap_cell (o := 0) hn rfl
      have n1 := heap_cell (o := 1) hn rfl
      have hRA := hR.fr hFA (fun h => h)
      have q1 := hRA.cell (i := 18 + 2 * k) (by omega)
      have q2 := hRA.cell (i := 18 + 2 * k + 1) (by omega)
      have r1 := hRA.frozen (18 + 2 * k)
      have r2 := hRA.frozen (18 + 2 * k + 1)
      have hS1 := (hRA.set (18 + 2 * k) (x1 % 256)).set (18 + 2 * k + 1) (x2 % 256)
      have hS2 := (hRA.set (18 + 2 * k + 1) (x2 % 256)).set (18 + 2 * k) (x1 % 256)
      have HS1 := Lib.hid hS1
      have HS2 := Lib.hid hS2
      have hFw := hFr.trans hFA
      have hBn : w1.heap.size < wr.heap.size := hR.lt
      clear hR hRA hn hS1 hS2
      revert q1 q2
      generalize (encN (encHead s n) xs k)[18 + 2 * k] = o1
      generalize (encN (encHead s n) xs k)[18 + 2 * k + 1] = o2
      intro q1 q2
      generalize wr.alloc _ = WA at *
      have hFS : ∀ W', Fr (fun c => c = w1.heap.size) WA W' → Fr No w W' := fun W' h => hFw.trans' h (fun i hi e => by omega)
      have HFS := Lib.hid hFS
      clear hFS
      go_region
      go_wp2
      refine ⟨⟨k + 1, by omega, by go_num, ?_, HFS.out _ (((Fr.refl (fun c => c = w1.heap.size) WA).setCell (p := ⟨w1.heap.size, 18 + 2 * k, none⟩) (fun _ => rfl) _).setCell (p := ⟨w1.heap.size, 18 + 2 * k + 1, none⟩) (fun _ => rfl) _).drew⟩, by simp [intOf]; omega⟩
      rw [HSTEP.out, show 19 + 2 * k = 18 + 2 * k + 1 by omega]
      exact HS1.out
    · go_wp2
      go_ret2
      exact ⟨_, rfl, hFr, by rw [encF, show xs.length = k by omega]; exact hR, by omega⟩
end Go.Proofs.Ytbjffempiaohpaa
