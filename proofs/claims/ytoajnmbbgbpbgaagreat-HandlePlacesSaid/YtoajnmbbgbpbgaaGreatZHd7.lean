/-
  Chapter 13: the handles' cells beside the files' region, plainly.
-/
import Derived.Test.YtoajnmbbgbpbgaaGreatZHd6
import Derived.Test.YtoajnmbbgbpbgaaGreatZK
import Derived.Test.YtoajnmbbgbpbgaaGreatZFs37
namespace Go.Proofs.YtoajnmbbgbpbgaaGreat
set_option linter.unusedVariables false
set_option linter.unusedSimpArgs false
open Go.RowKit Go.Shelf Go.Maps

/-- Alike in the files' region. -/
def UpEq (B B' : List Int) : Prop := ∀ q, q < 32 → blk B' q = blk B q
/-- Alike below it. -/
def LowEq (B B' : List Int) : Prop := ∀ i, i < 6144 → B'.getD i 0 = B.getD i 0
theorem LowEq.refl (B : List Int) : LowEq B B := fun _ _ => rfl
theorem LowEq.trans {B B1 B2 : List Int} (h : LowEq B B1) (k : LowEq B1 B2) : LowEq B B2 := fun i hi => (k i hi).trans (h i hi)
theorem readT_up {B B' : List Int} (h : UpEq B B') : ∀ i, i ≤ 8 → readT B' i = readT B i
  | 0, _ => rfl
  | i + 1, hi => by rw [readT, readT, readT_up h i (by omega), h (i + 1) (by omega)]
theorem tableF_up {B B' : List Int} (h : UpEq B B') : tableF B' = tableF B := by
  rw [tableF, tableF, readT_up h 8 (Nat.le_refl _), h 0 (by omega)]
theorem Rel.up {B B' : List Int} {fs : Files} {L : List Nd} {u : Nat} (h : Rel fs B L u) (hB' : B'.length = 8192) (hu : UpEq B B') : Rel fs B' L u := by
  obtain ⟨hB, ht, hp⟩ := h
  have h1 : tableF B' = some (L, u) := by rw [tableF_up hu]; exact (tableF_iff _ _ _).2 ht
  refine ⟨hB', (tableF_iff _ _ _).1 h1, ?_⟩
  rw [filesL_same (B := B) (B' := B') (fun x hx => ht.good x hx) (fun x hx b hb => by
    have := listF_nine b hb
    exact hu _ (by omega))]
  exact hp
theorem cellF_len (n : Int) : (cellF n).length = 8 := cellF_length n
theorem setF_up {B : List Int} (hB : B.length = 8192) {c n : Int} (h : c + 8 ≤ 6144) : UpEq B (setF B c n) := fun q hq => by
  rw [setF]; exact blk_other B hB c (cellF n) q hq (.inl (by rw [cellF_len]; omega))
theorem layF_low {B : List Int} (hB : B.length = 8192) {a : Int} {l : List Int} (h : 6144 ≤ a) : LowEq B (layF B a l) := fun i hi => by
  rw [layF_get _ hB _ _ _ (by omega), if_neg (by omega)]
theorem getF_low {B B' : List Int} (h : LowEq B B') {c : Int} (h0 : 0 ≤ c) (h1 : c + 8 ≤ 6144) : getF B' c = getF B c := by
  have : loadF B' c 8 = loadF B c 8 := ext_getD (by rw [loadF_length, loadF_length]) (fun j hj => by
    rw [loadF_length] at hj
    rw [loadF_get _ _ _ _ hj, loadF_get _ _ _ _ hj, byteAt, byteAt, if_pos (by omega), if_pos (by omega), h _ (by omega)])
  rw [getF, getF, this]
theorem getF_set_far {B : List Int} (hB : B.length = 8192) {c d n : Int} (h0 : 0 ≤ c) (h1 : c + 8 ≤ 8192) (hf : c + 8 ≤ d ∨ d + 8 ≤ c) : getF (setF B d n) c = getF B c := by
  have : loadF (setF B d n) c 8 = loadF B c 8 := ext_getD (by rw [loadF_length, loadF_length]) (fun j hj => by
    rw [loadF_length] at hj
    rw [loadF_get _ _ _ _ hj, loadF_get _ _ _ _ hj, byteAt, byteAt, if_pos (by omega), if_pos (by omega), setF, layF_get _ hB _ _ _ (by omega), if_neg (by rw [cellF_len]; omega)])
  rw [getF, getF, this]
theorem layT_low {B : List Int} (hB : B.length = 8192) (n : Nat) (L : List Nd) (u : Nat) : LowEq B (layT B n L u) := by
  rw [layT]
  exact (layF_low hB (by omega)).trans (layF_low (by rw [layF_length, hB]) (by omega))
theorem wrN_low {B : List Int} (hB : B.length = 8192) (xs : List (Int × Int)) (o : Nat) (b : List Int) : ∀ i, i ≤ b.length → (b.length = 0 ∨ (o + b.length - 1) / 64 < (listF xs).length) → LowEq B (wrN B xs o b i)
  | 0, _, _ => LowEq.refl _
  | i + 1, hi, h => by
    rw [wrN]
    have h3 : (o + i) / 64 < (listF xs).length := by
      rcases h with h | h
      · omega
      · exact Nat.lt_of_le_of_lt (Nat.div_le_div_right (by omega)) h
    exact (wrN_low hB xs o b i (by omega) h).trans (layF_low (by rw [wrN_length, hB]) (by have := (addrF_range h3).1; omega))
theorem zeroN_low {B : List Int} (hB : B.length = 8192) (bs : List Int) (h : ∀ b ∈ bs, 0 ≤ b) : LowEq B (zeroN B bs) := by
  induction bs generalizing B with
  | nil => exact LowEq.refl _
  | cons b bs ih =>
    rw [zeroN, List.foldl_cons]
    exact (layF_low hB (by have := h b (by simp); omega)).trans (ih (by rw [layF_length, hB]) (fun c hc => h c (List.mem_cons_of_mem _ hc)))
end Go.Proofs.YtoajnmbbgbpbgaaGreat
