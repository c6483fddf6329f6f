/-
  Numbers of bytes: the reference's Num.
-/
import Derived.Test.YtpcikbloflpahaaDoorApp
import Derived.Test.YtpcikbloflpahaaDoorProg
import Derived.Lib.Hide
import Derived.Deep.QuietTactic
import Derived.BigQuiet
import Derived.WalkSmall
import Derived.WalkSpells
namespace Go.Proofs.YtpcikbloflpahaaDoor
set_option linter.unusedVariables false
set_option linter.unusedSimpArgs false
open Go.RowKit Go.Shelf

/-- Bytes, as cells. -/
def bys (l : List Int) : List Value := l.map fun x => .int .u8 x
theorem bys_get (l : List Int) (k : Nat) (h : k < l.length) : (bys l)[k]? = some (.int .u8 l[k]) := by simp [bys, h]
theorem bys_ne (l : List Int) (k : Nat) (h : k < l.length) : bys l ≠ [] := by intro e; have := bys_get l k h; rw [e] at this; simp at this
theorem bys_len (l : List Int) : (bys l).length = l.length := by simp [bys]
/-- The number of k bytes from 'at' on, the lowest first. -/
def numL (l : List Int) (at_ : Nat) : Nat → Int
  | 0 => 0
  | k + 1 => bits .or .u64 (numL l at_ k) (IntKind.u64.wrap (l.getD (at_ + k) 0 * 2 ^ (8 * k)))

set_option maxRecDepth 100000 in
theorem rnum_calls (v : Value) (l : List Int) (at_ K : Nat) (w : World) (hK : K ≤ 8) (hl : at_ + K ≤ l.length) (hlen : l.length ≤ 1000000) (h0 : ∀ b ∈ l, 0 ≤ b ∧ b < 256) (hv : Sl w v l.length (bys l)) :
    Calls Tryd.prog 76 #[v, .int .i64 at_, .int .i64 K] w fun e w' => e = .returned (.int .u64 (numL l at_ K)) ∧ w = w' := by
  obtain ⟨a, cap, rfl⟩ := hv.form
  go_enter Tryd.func76, Tryd.ntmps76
  go_wp2
  go_loop [7, 8] (fun s i => ∃ k : Nat, k ≤ K ∧ i = .int .i64 k ∧ s = .int .u64 (numL l at_ k)) (fun _ i => K - (intOf i).toNat)
  case atStart => exact ⟨0, Nat.zero_le _, rfl, rfl⟩
  case round =>
    obtain ⟨k, hk, rfl, rfl⟩ := hrel
    by_cases hlt : k < K
    · have hin : at_ + k < l.length := by omega
      obtain ⟨b, off, rfl, hb, hc⟩ := hv.at (bys_ne _ _ hin)
      have hc1 := hc _ _ (bys_get _ _ hin)
      have hx := h0 _ (List.getElem_mem hin)
      have hs : numL l at_ (k + 1) = bits .or .u64 (numL l at_ k) (IntKind.u64.wrap (l[at_ + k] * 2 ^ (8 * k))) := by rw [numL]; simp [List.getD, hin]
      revert hc1 hx hs
      generalize l[at_ + k] = x
      intro hc1 hx hs
      have HS := Lib.hid hs
      obtain ⟨hx0, hx1⟩ := hx
      clear hs h0 hc hv
      go_wp2
      go_round
      case rel => exact ⟨k + 1, by omega, by go_num, by rw [HS.out]⟩
      case measure => simp [intOf]; omega
    · go_wp2
      go_ret
      exact ⟨by rw [show k = K by omega]; rfl, rfl⟩
end Go.Proofs.YtpcikbloflpahaaDoor
