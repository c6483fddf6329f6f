/-
  Chapter 13: what Write leaves, plainly.
-/
import Derived.Test.YtoajnmbbgbpbgaaGreatZHd7
namespace Go.Proofs.YtoajnmbbgbpbgaaGreat
set_option linter.unusedVariables false
set_option linter.unusedSimpArgs false
open Go.RowKit Go.Shelf Go.Maps

theorem contF_tk {B : List Int} {xs : List (Int × Int)} {o n k : Nat} (h : k ≤ n) : (contF B xs o n).take k = contF B xs o k := by
  rw [contF, ← List.map_take, List.take_range, Nat.min_eq_left h]; rfl
theorem contF_dp {B : List Int} {xs : List (Int × Int)} {k c : Nat} : (contF B xs 0 (k + c)).drop k = contF B xs k c := by
  refine List.ext_getElem (by simp [contF]) (fun i h1 h2 => ?_)
  simp [contF]
def HasT7 (B : List Int) : Prop := B.length = 8192 ∧ ∃ L u, Tab B L u
theorem wrF_low {B : List Int} (hB : B.length = 8192) (xs : List (Int × Int)) (o : Nat) (b : List Int) (h : b.length = 0 ∨ (o + b.length - 1) / 64 < (listF xs).length) : LowEq B (wrF B xs o b) := wrN_low hB xs o b _ (Nat.le_refl _) h
theorem listF_at0 (xs : List (Int × Int)) (k : Nat) : 0 ≤ (listF xs).getD k 0 := by
  by_cases h : k < (listF xs).length
  · have := listF_nine _ (getD_mem h); omega
  · rw [List.getD_eq_getElem?_getD, List.getElem?_eq_none (by omega)]; exact Int.le_refl _
theorem restB_low {B : List Int} (hB : B.length = 8192) (xs : List (Int × Int)) (m : Int) : LowEq B (restB B xs m) := by
  rw [restB]
  split
  · exact layF_low hB (by have := listF_at0 xs ((needF m).toNat - 1); omega)
  · exact LowEq.refl _
theorem resizeB_low {B : List Int} (hB : B.length = 8192) (L : List Nd) (n : Nat) (x' : Nd) (u' h : Nat) : LowEq B (resizeB B L n x' u' h) := by
  rw [resizeB]
  have h1 : LowEq B (zeroN B ((listF x'.ext).drop h)) := zeroN_low hB _ (fun b hb => by have := listF_nine b (List.mem_of_mem_drop hb); omega)
  have e1 : (zeroN B ((listF x'.ext).drop h)).length = 8192 := by rw [zeroN_length, hB]
  exact (h1.trans (restB_low e1 _ _)).trans (layT_low (by rw [restB_length, e1]) _ _ _)
theorem write_low {B : List Int} (h : HasT7 B) (n o : Int) (b : List Int) : LowEq B (writeR B n o b).1 := by
  obtain ⟨hB, L, u, h⟩ := h
  have hlen := h.len
  rw [writeR_tab h]
  split
  · exact LowEq.refl _
  · rename_i hn
    obtain ⟨k, rfl⟩ := Int.eq_ofNat_of_zero_le (show 0 ≤ n by omega)
    rw [Int.toNat_natCast]
    have hk : k < L.length := by omega
    rw [getD_get hk]
    split
    · exact LowEq.refl _
    · rename_i hnm
      split
      · exact LowEq.refl _
      · rename_i ho
        obtain ⟨oo, rfl⟩ := Int.eq_ofNat_of_zero_le (show 0 ≤ o by omega)
        rw [Int.toNat_natCast]
        have hf := (h.good _ (List.getElem_mem hk)).facts
        split
        · rename_i hle
          refine wrF_low hB _ oo b ?_
          by_cases hb : b.length = 0
          · exact .inl hb
          · right
            have := hf.2.1
            have h64 := size_le (h.good _ (List.getElem_mem hk))
            omega
        · rename_i hgt
          split
          · exact LowEq.refl _
          · rename_i hbig
            cases hr : resizeT L[k] u ((oo : Int) + b.length) with
            | none => exact LowEq.refl _
            | some p =>
              obtain ⟨x', u'⟩ := p
              obtain ⟨hR, hK⟩ := kept_resize hB h hk hnm (by omega) (by omega) hr
              refine (resizeB_low hB _ _ _ _ _).trans (wrF_low hK.1 _ oo b ?_)
              right
              rw [hR.len, needF]
              split <;> omega

/-- A file alone in its region: n its inode. -/
def One (s : ByteArray) (n : Nat) (z : List Int) (B : List Int) : Prop :=
  ∃ L u, Rel [(s, z)] B L u ∧ ∃ hn : n < L.length, L[n].name = s ∧ entry B L[n] = (s, z) ∧ s ≠ noName
theorem One.tab {s : ByteArray} {n : Nat} {z B : List Int} (h : One s n z B) : HasT7 B := by
  obtain ⟨L, u, h, -⟩ := h; exact ⟨h.1, L, u, h.2.1⟩
theorem One.up {s : ByteArray} {n : Nat} {z B B' : List Int} (h : One s n z B) (hB' : B'.length = 8192) (hu : UpEq B B') : One s n z B' := by
  obtain ⟨L, u, h, hn, h1, h2, h3⟩ := h
  refine ⟨L, u, h.up hB' hu, hn, h1, ?_, h3⟩
  rw [← h2]
  exact entry_same (h.2.1.good _ (List.getElem_mem hn)) (fun b hb => by have := listF_nine b hb; exact hu _ (by omega))
theorem One.size {s : ByteArray} {n : Nat} {z B : List Int} (h : One s n z B) : sizeR B n = ((z.length : Int), 0) := by
  obtain ⟨L, u, h, hn, h1, h2, h3⟩ := h
  have ht := (tableF_iff _ _ _).2 h.2.1
  have hs : sizeR B n = if (n : Int) < 0 ∨ 8 ≤ (n : Int) then (0, 1) else if (L.getD ((n : Int)).toNat Nd.free).name = noName then (0, 123) else ((L.getD ((n : Int)).toNat Nd.free).size, 0) := by unfold sizeR; generalize tableF B = t at *; subst ht; rfl
  have hl := h.2.1.len
  rw [hs, if_neg (by omega), Int.toNat_natCast, getD_get hn, if_neg (by rw [h1]; exact h3)]
  have e : contF B L[n].ext 0 L[n].size.toNat = z := congrArg Prod.snd h2
  have e2 : L[n].size.toNat = z.length := by rw [← e, contF_length]
  have := (h.2.1.good _ (List.getElem_mem hn)).facts.2.2.1
  rw [show L[n].size = (z.length : Int) by omega]
theorem One.read {s : ByteArray} {n : Nat} {z B : List Int} (h : One s n z B) (p : Nat) (hp : p ≤ z.length) (m : Int) (hm : 0 ≤ m) : readR B n p m = ((z.drop p).take m.toNat, 0) := by
  obtain ⟨L, u, h, hn, h1, h2, h3⟩ := h
  have ht := (tableF_iff _ _ _).2 h.2.1
  have hl := h.2.1.len
  rw [readR_good ht (by omega) (by rw [getD_get hn, h1]; exact h3), if_neg (by omega), getD_get hn]
  have e : contF B L[n].ext 0 L[n].size.toNat = z := congrArg Prod.snd h2
  have e2 : L[n].size.toNat = z.length := by rw [← e, contF_length]
  have := (h.2.1.good _ (List.getElem_mem hn)).facts.2.2.1
  have e3 : L[n].size = (z.length : Int) := by omega
  rw [e3, show (min (p : Int) (z.length : Int)) = p by omega, Int.toNat_natCast]
  suffices hs : contF B L[n].ext p (min m ((z.length : Int) - (p : Int))).toNat = (z.drop p).take m.toNat by rw [hs]
  rw [e2] at e
  generalize L[n].ext = xs at *
  have e4 : z.drop p = contF B xs p (z.length - p) := by
    conv => lhs; rw [← e]
    rw [show z.length = p + (z.length - p) by omega, contF_dp]
    rw [show p + (z.length - p) - p = z.length - p by omega]
  rw [e4]
  by_cases hc : m.toNat ≤ z.length - p
  · rw [contF_tk hc]
    rw [show (min m ((z.length : Int) - (p : Int))).toNat = m.toNat by omega]
  · rw [List.take_of_length_le (by rw [contF_length]; omega)]
    rw [show (min m ((z.length : Int) - (p : Int))).toNat = z.length - p by omega]
set_option maxHeartbeats 1000000 in
theorem One.write {s : ByteArray} {n : Nat} {z B : List Int} (h : One s n z B) (b : List Int) (hb : z.length + b.length ≤ 1472) : (writeR B n z.length b).2 = 0 ∧ One s n (z ++ b) (writeR B n z.length b).1 := by
  have hlow := h.tab
  obtain ⟨L, u, hr, hn, h1, h2, h3⟩ := h
  have hw := (map_write hr (k := 0) (n := n) (by simp) hn (by rw [h1]; exact h3) h2.symm b).1
  have e1 : ([(s, z)] : Files).set 0 ((([(s, z)] : Files)[0]).1, (([(s, z)] : Files)[0]).2 ++ b) = [(s, z ++ b)] := rfl
  have e2 : ((([(s, z)] : Files)[0]).2.length : Int) = z.length := rfl
  rw [e1, e2] at hw
  have hs : sumF [(s, z ++ b)] ≤ 23 := by
    have e9 : sumF [(s, z ++ b)] = (needF (z ++ b).length).toNat := by simp [sumF]
    rw [e9, List.length_append]
    have := needF_bounds (size := ((z.length + b.length : Nat) : Int)) (by omega) (by omega)
    omega
  obtain ⟨w1, L', u', w2⟩ := hw hs
  obtain ⟨L2, k1, ⟨u2, k2⟩, k3⟩ := kept_write hr.1 hr.2.1 n z.length b
  clear hw hlow
  generalize writeR B n z.length b = W at *
  obtain ⟨B1, x1⟩ := W
  dsimp only at w1 w2 k1 k2 k3 ⊢
  refine ⟨w1, L', u', w2, ?_⟩
  have e3 : L' = L2 := by
    have a1 := (tableF_iff _ _ _).2 w2.2.1
    have a2 := (tableF_iff _ _ _).2 k2
    exact congrArg Prod.fst (Option.some.inj (a1.symm.trans a2))
  subst e3
  have hl := w2.2.1.len
  have hl0 := hr.2.1.len
  have hn' : n < L'.length := by omega
  have hname : L'[n].name = s := by
    have := (k3 n (by omega)).1
    rw [getD_get hn', getD_get hn, h1] at this; exact this
  refine ⟨hn', hname, ?_, h3⟩
  have hm : entry B1 L'[n] ∈ filesL B1 L' := mem_filesL.2 ⟨n, hn', by rw [hname]; exact h3, rfl⟩
  have := w2.2.2.mem_iff.2 hm
  simpa using this
end Go.Proofs.YtoajnmbbgbpbgaaGreat
