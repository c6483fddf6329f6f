/-
  Chapter 7: free sectors: Take, Free.
-/
import Derived.Test.YtpcikbloflpahaaDoorZSh9
import Derived.Scope
namespace Go.Proofs.YtpcikbloflpahaaDoor
set_option linter.unusedVariables false
set_option linter.unusedSimpArgs false
open Go.RowKit Go.Shelf Go.Maps

/-- The library's table, where it is read. -/
structure Tab7 (w : World) : Prop where
  c2 : w.cell? ⟨0, 3, none⟩ = some (.int .u8 2)
  c3 : w.cell? ⟨0, 7, none⟩ = some (.int .u8 3)
  c4 : w.cell? ⟨0, 15, none⟩ = some (.int .u8 4)
theorem Tab7.fr {S : Nat → Prop} {w w' : World} (h : Tab7 w) (hF : Fr S w w') (hn : ¬ S 0) : Tab7 w' := ⟨hF.cell h.c2 hn, hF.cell h.c3 hn, hF.cell h.c4 hn⟩
theorem Tab7.pos {w : World} (h : Tab7 w) : 0 < w.heap.size := by
  have := h.c2
  simp only [World.cell?] at this
  by_cases h0 : 0 < w.heap.size
  · exact h0
  · have e : w.heap.size = 0 := by omega
    have e2 : w.heap[0]? = none := Array.getElem?_eq_none (xs := w.heap) (i := 0) (by rw [e]; exact Nat.le_refl 0)
    simp [e2] at this

set_option maxHeartbeats 1000000 in
set_option maxRecDepth 1000000 in
theorem ones_calls (w : World) : Calls Tryd.prog 50 #[.int .u64 1020] w fun e w' => e = .returned (.int .i64 8) ∧ w' = w := by
  have b0 : bits BinOp.and IntKind.u64 510 6148914691236517205 = 340 := by kernel_rfl
  have b1 : bits BinOp.and IntKind.u64 1020 6148914691236517205 = 340 := by kernel_rfl
  have b2 : bits BinOp.and IntKind.u64 170 3689348814741910323 = 34 := by kernel_rfl
  have b3 : bits BinOp.and IntKind.u64 680 3689348814741910323 = 544 := by kernel_rfl
  have b4 : bits BinOp.and IntKind.u64 614 1085102592571150095 = 518 := by kernel_rfl
  have b9 : bits BinOp.and IntKind.i64 520 127 = 8 := by kernel_rfl
  go_enter Tryd.func50, Tryd.ntmps50
  go_wp2
  go_ret
  exact ⟨by first | rfl | kernel_rfl, rfl⟩

set_option maxHeartbeats 1000000 in
set_option maxRecDepth 1000000 in
theorem tz_calls {w : World} (hT : Tab7 w) (k : Nat) (x : Int) (hk : k = 2 ∧ x = 1020 ∨ k = 3 ∧ x = 1016 ∨ k = 4 ∧ x = 1008) : Calls Tryd.prog 88 #[.int .u64 x] w fun e w' => e = .returned (.int .i64 (k : Int)) ∧ w' = w := by
  obtain ⟨c2, c3, c4⟩ := hT
  rcases hk with ⟨rfl, rfl⟩ | ⟨rfl, rfl⟩ | ⟨rfl, rfl⟩
  · have key : IntKind.u64.wrap (bits BinOp.and IntKind.u64 1020 (IntKind.u64.wrap (-1020)) * 285870213051353865) / 288230376151711744 = 3 := by kernel_rfl
    have b0 : bits BinOp.and IntKind.u64 1020 18446744073709550596 = 4 := by kernel_rfl
    go_enter Tryd.func88, Tryd.ntmps88
    go_wp2_with (simp only [key])
    go_ret
    exact ⟨rfl, rfl⟩
  · have key : IntKind.u64.wrap (bits BinOp.and IntKind.u64 1016 (IntKind.u64.wrap (-1016)) * 285870213051353865) / 288230376151711744 = 7 := by kernel_rfl
    have b0 : bits BinOp.and IntKind.u64 1016 18446744073709550600 = 8 := by kernel_rfl
    go_enter Tryd.func88, Tryd.ntmps88
    go_wp2_with (simp only [key])
    go_ret
    exact ⟨rfl, rfl⟩
  · have key : IntKind.u64.wrap (bits BinOp.and IntKind.u64 1008 (IntKind.u64.wrap (-1008)) * 285870213051353865) / 288230376151711744 = 15 := by kernel_rfl
    have b0 : bits BinOp.and IntKind.u64 1008 18446744073709550608 = 16 := by kernel_rfl
    go_enter Tryd.func88, Tryd.ntmps88
    go_wp2_with (simp only [key])
    go_ret
    exact ⟨rfl, rfl⟩

set_option maxHeartbeats 2000000 in
set_option maxRecDepth 1000000 in
theorem spfree_calls {w : World} {mb cb fb : Nat} {l : List Int} (h : SpIn w mb cb fb l 1020) : Calls Tryd.prog 24 #[.pointer (some ⟨mb, 0, none⟩)] w fun e w' => e = .returned (.int .i64 8) ∧ w' = w := by
  have k1 : w.cell? ⟨mb, 1, none⟩ = some (.slice (some ⟨fb, 0, none⟩) 1 1) := heap_cell (o := 1) h.box rfl
  have kf : w.cell? ⟨fb, 0, none⟩ = some (.int .u64 1020) := heap_cell (o := 0) h.fre rfl
  have HO := Lib.hid (ones_calls w)
  clear h
  go_enter Tryd.func24, Tryd.ntmps24
  go_wp2_with fail
  go_loopw [3, 13] (fun a i wr => (a = .int .i64 0 ∧ i = .int .i64 0 ∨ a = .int .i64 8 ∧ i = .int .i64 1) ∧ wr = w) (fun _ i _ => 1 - (intOf i).toNat)
  case atStart => exact ⟨.inl ⟨rfl, rfl⟩, rfl⟩
  case round =>
    obtain ⟨h1 | h1, rfl⟩ := hrel
    · obtain ⟨rfl, rfl⟩ := h1
      go_wp2_with fail
      refine HO.out.mono ?_
      rintro e w1 ⟨rfl, rfl⟩
      go_wp2_with fail
      go_roundw
      case rel => exact ⟨.inr ⟨rfl, rfl⟩, by first | rfl | trivial⟩
      case measure => decide
    · obtain ⟨rfl, rfl⟩ := h1
      go_wp2_with fail
      go_ret
      exact ⟨rfl, rfl⟩

set_option maxHeartbeats 2000000 in
set_option maxRecDepth 1000000 in
theorem sptake_calls {w : World} {mb cb fb : Nat} {l : List Int} {x : Int} (h : SpIn w mb cb fb l x) (hT : Tab7 w) (n : Nat) (hn : n = 2 ∧ x = 1020 ∨ n = 3 ∧ x = 1016 ∨ n = 4 ∧ x = 1008) (hc : l[n]? = some 0) :
    Calls Tryd.prog 77 #[.pointer (some ⟨mb, 0, none⟩)] w fun e w' => e = .returned (.tuple #[.int .i64 (n : Int), .int .i64 0]) ∧ SpIn w' mb cb fb (l.set n 1) (x - (2 ^ n : Nat)) ∧ Fr (fun k => k = cb ∨ k = fb) w w' := by
  have k1 : w.cell? ⟨mb, 1, none⟩ = some (.slice (some ⟨fb, 0, none⟩) 1 1) := heap_cell (o := 1) h.box rfl
  have kf : w.cell? ⟨fb, 0, none⟩ = some (.int .u64 x) := heap_cell (o := 0) h.fre rfl
  have HZ := Lib.hid (tz_calls hT n x hn)
  have HC := Lib.hid (spchange_calls h n hn hc)
  have hx0 : (x == 0) = false := by rcases hn with ⟨-, rfl⟩ | ⟨-, rfl⟩ | ⟨-, rfl⟩ <;> rfl
  have hw : IntKind.i64.wrap (n : Int) = (n : Int) := IntWalk.i64_in _ (by omega)
  have hd : decide ((n : Int) < 0) = false := decide_eq_false (by omega)
  clear h hT hn hc
  go_enter Tryd.func77, Tryd.ntmps77
  go_wp2_with fail
  refine wp_scope_straight ?_
  go_wp2_with fail
  refine wp_label ?_
  go_wp2_with fail
  go_loopw [14] (fun i wr => i = .int .i64 0 ∧ wr = w) (fun i _ => 0)
  case atStart => exact ⟨rfl, rfl⟩
  case round =>
    obtain ⟨rfl, rfl⟩ := hrel
    go_wp2_with fail
    refine HZ.out.mono ?_
    rintro e w1 ⟨rfl, rfl⟩
    go_wp2_with fail
    refine HC.out.mono ?_
    rintro e w2 ⟨rfl, hp⟩
    have HP := Lib.hid hp
    clear hp
    go_wp2_with fail
    dsimp only [Exit.noGoto]
    go_ret2
    exact ⟨rfl, HP.out⟩
end Go.Proofs.YtpcikbloflpahaaDoor
