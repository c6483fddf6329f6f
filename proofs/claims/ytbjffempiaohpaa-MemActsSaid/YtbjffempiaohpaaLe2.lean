/-
  Numbers laid down as bytes: the reference's PutNum.
-/
import Derived.Test.YtbjffempiaohpaaLe1
import Derived.Deep.AppendLies
import Derived.Laws.OwnMore
namespace Go.Proofs.Ytbjffempiaohpaa
set_option linter.unusedVariables false
set_option linter.unusedSimpArgs false
open Go.RowKit Go.Shelf

theorem el_u8 : Elem Try.prog 22 5 (.int .u8 0) 1 1 := ⟨by kernel_rfl, by kernel_rfl, rfl, by decide⟩
/-- A number's lowest k bytes laid down from 'at' on. -/
def putL (l : List Int) (at_ : Nat) (n : Int) : Nat → List Int
  | 0 => l
  | k + 1 => (putL l at_ n k).set (at_ + k) (IntKind.u8.wrap (n / 2 ^ (8 * k)))
theorem putL_length (l : List Int) (at_ : Nat) (n : Int) (k : Nat) : (putL l at_ n k).length = l.length := by
  induction k with
  | zero => rfl
  | succ k ih => rw [putL, List.length_set, ih]
theorem bys_set (l : List Int) (j : Nat) (x : Int) : (bys l).set j (.int .u8 x) = bys (l.set j x) := by simp [bys, List.map_set]
theorem bys_one (l : List Int) : ∀ u ∈ bys l, u.oneCell' = true := by
  intro u hu; simp only [bys, List.mem_map] at hu; obtain ⟨x, _, rfl⟩ := hu; rfl

set_option maxRecDepth 100000 in
theorem rput_calls (v : Value) (l : List Int) (at_ K : Nat) (n : Int) (w : World) (hK : K ≤ 8) (hl : at_ + K ≤ l.length) (hlen : l.length ≤ 1000000) (hn : 0 ≤ n ∧ n < 18446744073709551616) (hne : 0 < l.length) (hv : Sl w v l.length (bys l)) :
    Calls Try.prog 64 #[v, .int .i64 at_, .int .i64 K, .int .u64 n] w fun e w' => ∃ r, e = .returned r ∧ Fr No w w' ∧ w'.ownsRow w.heap.size 5 1 r l.length (bys (putL l at_ n K)) := by
  obtain ⟨a, cap, rfl⟩ := hv.form
  go_enter Try.func64, Try.ntmps64
  go_wp2_with (at_builtin; refine append_sl el_u8 rfl _ _ rfl w.heap.size (.slice none 0 0) 0 [] rfl (World.ownsRow_nil _ _ _ _) rfl hv (by rw [bys_len, Nat.mul_one]) (bys_one l) (by unfold maxLen; omega) (by omega) (by omega) ?_; intro v' w3 hown' hgrow)
  rw [Nat.zero_add, List.nil_append] at hown'
  have hF3 : Fr No w w3 := (Fr.refl _ _).grown hgrow (fun k e _ => by cases e)
  obtain ⟨g, cap', rfl, hg1, hg2⟩ := World.ownsRow.form hown' hne
  clear hv
  go_loopw [10] (fun i wr => ∃ k : Nat, k ≤ K ∧ i = .int .i64 k ∧ wr.ownsRow w.heap.size 5 1 (.slice (some ⟨g, 0, none⟩) l.length cap') l.length (bys (putL l at_ n k)) ∧ Fr No w wr) (fun i _ => K - (intOf i).toNat)
  case atStart => exact ⟨0, Nat.zero_le _, rfl, hown', hF3⟩
  case round =>
    obtain ⟨k, hk, rfl, hrow, hFr⟩ := hrel
    by_cases hlt : k < K
    · have hin : at_ + k < (putL l at_ n k).length := by rw [putL_length]; omega
      have hc1 := (hrow.cellAt (at_ + k) (by omega)).trans (bys_get _ _ hin)
      have f1 := hrow.frozenAt (at_ + k)
      have hst := hrow.stored (at_ + k) (.int .u8 (IntKind.u8.wrap (n / 2 ^ (8 * k))))
      rw [bys_set] at hst
      have HST := Lib.hid hst
      obtain ⟨hn1, hn2⟩ := hn
      revert hc1
      generalize (putL l at_ n k)[at_ + k] = y0
      intro hc1
      clear hst hrow hin
      go_wp2
      go_roundw
      case rel =>
        obtain ⟨q1, q2⟩ := HST.out
        exact ⟨k + 1, by omega, by go_num, by rw [putL]; exact q1, hFr.grown q2 (fun k e hk => by cases e; omega)⟩
      case measure => simp [intOf]; omega
    · go_wp2
      go_ret
      exact ⟨_, rfl, hFr, by rw [show K = k by omega]; exact hrow⟩
end Go.Proofs.Ytbjffempiaohpaa
