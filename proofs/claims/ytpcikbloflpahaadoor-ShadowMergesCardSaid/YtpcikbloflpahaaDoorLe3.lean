/-
  Numbers of bytes: the program's Num and PutNum, over 'each'.
-/
import Derived.Test.YtpcikbloflpahaaDoorLe2
namespace Go.Proofs.YtpcikbloflpahaaDoor
set_option linter.unusedVariables false
set_option linter.unusedSimpArgs false
open Go.RowKit Go.Shelf

set_option maxRecDepth 100000 in
theorem each_calls (fid : Nat) (c0 c1 : Value) (I : Nat → World → Prop) (len : Nat) (at_ K : Nat) (w : World) (hK : K ≤ 8) (hl : at_ + K ≤ len) (hlen : len ≤ 1000000) (a : Option Addr) (cap : Nat) (h0 : I 0 w) (hfid : ∀ args w, (callFunc fid args).run Tryd.prog w = .ok (.enter fid args) w)
    (hs : ∀ k w, k < K → I k w → Calls Tryd.prog fid #[.int .i64 ((at_ + k : Nat) : Int), .int .i64 k, c0, c1] w fun e w' => e = .returned (.tuple #[]) ∧ I (k + 1) w') :
    Calls Tryd.prog 91 #[.slice a len cap, .int .i64 at_, .int .i64 K, .func (.func fid) #[] #[c0, c1]] w fun e w' => e = .returned (.tuple #[]) ∧ I K w' := by
  have HS := Lib.hid hs
  clear hs
  go_enter Tryd.func91, Tryd.ntmps91
  go_wp2
  go_loopw [13] (fun i wr => ∃ k : Nat, k ≤ K ∧ i = .int .i64 k ∧ I k wr) (fun i _ => K - (intOf i).toNat)
  case atStart => exact ⟨0, Nat.zero_le _, rfl, h0⟩
  case round =>
    obtain ⟨k, hk, rfl, hI⟩ := hrel
    by_cases hlt : k < K
    · have HC := Lib.hid (HS.out k _ hlt hI)
      have hw1 : ((at_ + k : Nat) : Int) = (at_ : Int) + k := by omega
      rw [hw1] at HC
      clear hI h0
      go_wp2_with fail
      refine HC.out.mono ?_
      rintro e w2 ⟨rfl, hI2⟩
      go_wp2
      go_roundw
      case rel => exact ⟨k + 1, by omega, by go_num, hI2⟩
      case measure => simp [intOf]; omega
    · go_wp2
      go_end0
      exact ⟨rfl, by rw [show K = k by omega]; exact hI⟩
set_option maxRecDepth 100000 in
theorem num1_calls (nb bb b off i k len cap : Nat) (n x : Int) (w : World) (hk : k < 8) (hi : i < len) (hlen : len ≤ 1000000) (hx : 0 ≤ x ∧ x < 256)
    (h1 : w.heap[nb]? = some (.cells #[.int .u64 n] 69 (0, 0))) (h2 : w.cell? ⟨bb, 0, none⟩ = some (.slice (some ⟨b, off, none⟩) len cap)) (h3 : w.cell? ⟨b, off + i, none⟩ = some (.int .u8 x)) :
    Calls Tryd.prog 94 #[.int .i64 i, .int .i64 k, .pointer (some ⟨nb, 0, none⟩), .pointer (some ⟨bb, 0, none⟩)] w fun e w' => e = .returned (.tuple #[]) ∧ w'.heap[nb]? = some (.cells #[.int .u64 (bits .or .u64 n (IntKind.u64.wrap (x * 2 ^ (8 * k))))] 69 (0, 0)) ∧ Fr (fun c => c = nb) w w' := by
  have c1 := heap_cell (o := 0) h1 rfl
  have f1 := heap_frozen (o := 0) h1
  obtain ⟨hx0, hx1⟩ := hx
  go_enter Tryd.func94, Tryd.ntmps94
  go_region
  go_end0
  exact ⟨rfl, heap_set _ h1, ((Fr.refl (fun c => c = nb) _).setCell (p := ⟨nb, 0, none⟩) (fun _ => rfl) _).drew⟩

set_option maxRecDepth 100000 in
theorem num_calls (v : Value) (l : List Int) (at_ K : Nat) (w : World) (hK : K ≤ 8) (hl : at_ + K ≤ l.length) (hlen : l.length ≤ 1000000) (h0 : ∀ b ∈ l, 0 ≤ b ∧ b < 256) (hne : 0 < l.length) (hv : Sl w v l.length (bys l)) :
    Calls Tryd.prog 87 #[v, .int .i64 at_, .int .i64 K] w fun e w' => e = .returned (.int .u64 (numL l at_ K)) ∧ Fr No w w' := by
  obtain ⟨a, cap, rfl⟩ := hv.form
  obtain ⟨b, off, rfl, hb, hc⟩ := hv.at (bys_ne l 0 hne)
  clear hv
  go_enter Tryd.func87, Tryd.ntmps87
  go_wp2_with fail
  have hF0 : Fr No w ((w.alloc (Obj.cells #[.slice (some ⟨b, off, none⟩) l.length cap] 30)).alloc (Obj.cells #[.int .u64 0] 69)) := ((Fr.refl _ _).alloc _).alloc _
  refine (each_calls 94 _ _ (fun k wr => wr.heap[w.heap.size + 1]? = some (.cells #[.int .u64 (numL l at_ k)] 69 (0, 0)) ∧ Fr (fun c => c = w.heap.size + 1) ((w.alloc (Obj.cells #[.slice (some ⟨b, off, none⟩) l.length cap] 30)).alloc (Obj.cells #[.int .u64 0] 69)) wr)
    l.length at_ K _ hK hl hlen _ cap ⟨?_, Fr.refl _ _⟩ (fun args w => rfl) ?_).mono ?_
  · simpa [numL] using heap_new (w.alloc (Obj.cells #[.slice (some ⟨b, off, none⟩) l.length cap] 30)) (Obj.cells #[.int .u64 0] 69)
  · rintro k wr hk ⟨hn, hF⟩
    have hin : at_ + k < l.length := by omega
    have hx := h0 _ (List.getElem_mem hin)
    have hbx : wr.cell? ⟨b, off + (at_ + k), none⟩ = some (.int .u8 l[at_ + k]) := hF.cell (hF0.cell (hc _ _ (bys_get _ _ hin)) (fun h => h)) (by omega)
    refine (num1_calls (w.heap.size + 1) w.heap.size b off (at_ + k) k l.length cap (numL l at_ k) l[at_ + k] wr (by omega) hin hlen hx hn ?_ hbx).mono ?_
    · exact hF.cell (heap_cell (heap_alloc _ (heap_new w _)) rfl) (by omega)
    · rintro e w' ⟨rfl, h1, h2⟩
      refine ⟨rfl, ?_, hF.trans h2⟩
      rw [numL]
      simpa [List.getD, hin] using h1
  · rintro e w' ⟨rfl, hn, hF⟩
    have c1 := heap_cell (o := 0) hn rfl
    go_wp2
    go_ret
    exact ⟨rfl, hF0.trans' hF (fun i hi e => by omega)⟩
end Go.Proofs.YtpcikbloflpahaaDoor
