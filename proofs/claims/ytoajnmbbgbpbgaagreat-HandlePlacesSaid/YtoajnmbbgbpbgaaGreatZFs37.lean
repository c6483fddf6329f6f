/-
  Chapter 12, plainly: what is done to one file changes no other.
-/
import Derived.Test.YtoajnmbbgbpbgaaGreatZF
import Derived.Test.YtoajnmbbgbpbgaaGreatZI
import Derived.Test.YtoajnmbbgbpbgaaGreatZFs35
namespace Go.Proofs.YtoajnmbbgbpbgaaGreat
set_option linter.unusedVariables false
set_option linter.unusedSimpArgs false

/-- A table behind a call on inode n: names as they were, other files' bytes too. -/
def KeptT (n : Int) (B : List Int) (L : List Nd) (B' : List Int) (L' : List Nd) : Prop :=
  B'.length = 8192 ∧ (∃ u', Tab B' L' u') ∧ ∀ i, i < 8 → (L'.getD i Nd.free).name = (L.getD i Nd.free).name ∧ ((i : Int) ≠ n → entry B' (L'.getD i Nd.free) = entry B (L.getD i Nd.free))
theorem KeptT.refl {n : Int} {B : List Int} {L : List Nd} {u : Nat} (hB : B.length = 8192) (h : Tab B L u) : KeptT n B L B L := ⟨hB, ⟨u, h⟩, fun i hi => ⟨rfl, fun _ => rfl⟩⟩
theorem KeptT.trans {n : Int} {B B1 B2 : List Int} {L L1 L2 : List Nd} (h : KeptT n B L B1 L1) (k : KeptT n B1 L1 B2 L2) : KeptT n B L B2 L2 :=
  ⟨k.1, k.2.1, fun i hi => ⟨(k.2.2 i hi).1.trans (h.2.2 i hi).1, fun e => ((k.2.2 i hi).2 e).trans ((h.2.2 i hi).2 e)⟩⟩
theorem entry_kept {B B' : List Int} {L : List Nd} {u : Nat} (h : Tab B L u) {i : Nat} (hi : i < L.length) {xs : List (Int × Int)} (hap : ∀ b ∈ listF (L[i]).ext, b ∉ listF xs)
    (hb : ∀ q : Nat, q < 32 → 9 ≤ q → (q : Int) ∉ listF xs → blk B' q = blk B q) : entry B' L[i] = entry B L[i] :=
  entry_same (h.good _ (List.getElem_mem hi)) (fun c hc => by
    have hc9 := listF_nine c hc
    exact hb _ (by omega) (by omega) (by rw [Int.toNat_of_nonneg (by omega)]; exact hap c hc))
theorem kept_wr {B : List Int} (hB : B.length = 8192) {L : List Nd} {u : Nat} (h : Tab B L u) {n : Nat} (hn : n < L.length) (o : Nat) (b : List Int) (hi : b.length = 0 ∨ (o + b.length - 1) / 64 < (listF (L[n]).ext).length) :
    KeptT n B L (wrF B (L[n]).ext o b) L := by
  refine ⟨by rw [wrF, wrN_length, hB], ⟨u, h.wr hB _ _ _ _ hi⟩, fun i h8 => ⟨rfl, fun hne => ?_⟩⟩
  have hil : i < L.length := by rw [h.len]; exact h8
  rw [getD_get hil]
  exact entry_kept h hil ((apart_iff _ _).1 (h.apart hn i hil (fun e => hne (by rw [e])))) (fun q hq _ hx => wrN_blk B hB _ _ _ _ hi q hq hx)
theorem getD_set_ne {L : List Nd} {i n : Nat} (h : i ≠ n) (x : Nd) : (L.set n x).getD i Nd.free = L.getD i Nd.free := by
  simp only [List.getD_eq_getElem?_getD]
  rw [List.getElem?_set_ne (fun e => h e.symm)]
theorem kept_resize {B : List Int} (hB : B.length = 8192) {L : List Nd} {u : Nat} (h : Tab B L u) {n : Nat} (hn : n < L.length) (hnm : L[n].name ≠ noName) {m : Int} (h0 : 0 ≤ m) (h1 : m ≤ 1472) {x' : Nd} {u' : Nat} (hr : resizeT L[n] u m = some (x', u')) :
    Resized L n L[n] m x' u' ∧ KeptT n B L (resizeB B L n x' u' (listF (L[n]).ext).length) (L.set n x') := by
  have hlen := h.len
  obtain ⟨hR, hT⟩ := resize_tab hB h (n := n) (by omega) (getD_get hn) hnm h0 h1 hr
  refine ⟨hR, by rw [resizeB_length, hB], ⟨u', hT⟩, fun i h8 => ?_⟩
  have hil : i < L.length := by omega
  by_cases e : i = n
  · subst e
    refine ⟨?_, fun hne => absurd rfl hne⟩
    rw [getD_get (by rw [List.length_set]; exact hn), List.getElem_set_self, getD_get hn, hR.name]
  · rw [getD_set_ne e]
    refine ⟨rfl, fun _ => ?_⟩
    rw [getD_get hil]
    exact entry_kept h hil ((apart_iff _ _).1 (hR.apart i hil e)) (fun q hq h9 hx => resize_blk hB hlen (by omega) h0 hR q hq h9 hx)
theorem kept_write {B : List Int} (hB : B.length = 8192) {L : List Nd} {u : Nat} (h : Tab B L u) (n o : Int) (b : List Int) : ∃ L', KeptT n B L (writeR B n o b).1 L' := by
  have hlen := h.len
  rw [writeR_tab h]
  split
  · exact ⟨L, .refl hB h⟩
  · rename_i hn
    obtain ⟨k, rfl⟩ := Int.eq_ofNat_of_zero_le (show 0 ≤ n by omega)
    rw [Int.toNat_natCast]
    have hk : k < L.length := by omega
    rw [getD_get hk]
    split
    · exact ⟨L, .refl hB h⟩
    · rename_i hnm
      split
      · exact ⟨L, .refl hB h⟩
      · rename_i ho
        obtain ⟨oo, rfl⟩ := Int.eq_ofNat_of_zero_le (show 0 ≤ o by omega)
        rw [Int.toNat_natCast]
        have hf := (h.good _ (List.getElem_mem hk)).facts
        split
        · rename_i hle
          refine ⟨L, kept_wr hB h hk oo b ?_⟩
          by_cases hb : b.length = 0
          · exact .inl hb
          · right
            have := hf.2.1
            have h64 := size_le (h.good _ (List.getElem_mem hk))
            omega
        · rename_i hgt
          split
          · exact ⟨L, .refl hB h⟩
          · rename_i hbig
            cases hr : resizeT L[k] u ((oo : Int) + b.length) with
            | none => exact ⟨L, .refl hB h⟩
            | some p =>
              obtain ⟨x', u'⟩ := p
              obtain ⟨hR, hK⟩ := kept_resize hB h hk hnm (by omega) (by omega) hr
              obtain ⟨hB', ⟨u1, hT'⟩, -⟩ := id hK
              have hx : (L.set k x')[k]'(by rw [List.length_set]; exact hk) = x' := List.getElem_set_self _
              have := kept_wr hB' hT' (n := k) (by rw [List.length_set]; exact hk) oo b (by
                right
                rw [hx, hR.len, needF]
                split <;> omega)
              rw [hx] at this
              exact ⟨L.set k x', hK.trans this⟩
theorem kept_resizeR {B : List Int} (hB : B.length = 8192) {L : List Nd} {u : Nat} (h : Tab B L u) (n m : Int) : ∃ L', KeptT n B L (resizeR B n m).1 L' := by
  have hlen := h.len
  have hT := (tableF_iff _ _ _).2 h
  by_cases hn : n < 0 ∨ 8 ≤ n
  · have : openE B n = 1 := by rw [openE_some hT, if_pos hn]
    rw [resizeR_bad this (by decide)]
    exact ⟨L, .refl hB h⟩
  · obtain ⟨k, rfl⟩ := Int.eq_ofNat_of_zero_le (show 0 ≤ n by omega)
    have hk : k < L.length := by omega
    by_cases hnm : (L.getD k Nd.free).name = noName
    · have : openE B (k : Int) = 123 := by
        rw [openE_some hT, if_neg hn, Int.toNat_natCast, if_pos hnm]
      rw [resizeR_bad this (by decide)]
      exact ⟨L, .refl hB h⟩
    · rw [resizeR_good hT (by omega) hnm]
      split
      · exact ⟨L, .refl hB h⟩
      · split
        · exact ⟨L, .refl hB h⟩
        · cases hr : resizeT (L.getD k Nd.free) u m with
          | none => rw [resizeW_none hr]; exact ⟨L, .refl hB h⟩
          | some p =>
            obtain ⟨x', u'⟩ := p
            rw [resizeW_some hr]
            rw [getD_get hk] at hr hnm ⊢
            obtain ⟨-, hK⟩ := kept_resize hB h hk hnm (by omega) (by omega) hr
            dsimp only
            exact ⟨L.set k x', hK⟩

theorem files_rel (n : Int) (B B2 : List Int) : ∀ (L L2 : List Nd) (o : Nat), L.length = L2.length → (∀ i (h1 : i < L.length) (h2 : i < L2.length), L2[i].name = L[i].name ∧ (((o + i : Nat) : Int) ≠ n → entry B2 L2[i] = entry B L[i])) →
    All2 (fun f f2 => f2.1 = f.1 ∧ (f2.2 = f.2 ∨ ∃ i, ∃ hi : i < L.length, ((o + i : Nat) : Int) = n ∧ L[i].name = f.1)) (filesL B L) (filesL B2 L2)
  | [], [], _, _, _ => .nil
  | [], _ :: _, _, hl, _ => by simp at hl
  | _ :: _, [], _, hl, _ => by simp at hl
  | x :: L, y :: L2, o, hl, h => by
    have ih := files_rel n B B2 L L2 (o + 1) (by simpa using hl) (fun i h1 h2 => by
      have := h (i + 1) (by simpa using h1) (by simpa using h2)
      simp only [List.getElem_cons_succ] at this
      rw [show o + 1 + i = o + (i + 1) by omega]; exact this)
    have ih' : All2 (fun f f2 => f2.1 = f.1 ∧ (f2.2 = f.2 ∨ ∃ i, ∃ hi : i < (x :: L).length, ((o + i : Nat) : Int) = n ∧ (x :: L)[i].name = f.1)) (filesL B L) (filesL B2 L2) :=
      forall2_imp ih (fun f f2 hf => ⟨hf.1, hf.2.imp id (fun ⟨i, hi, e, e2⟩ => ⟨i + 1, by simpa using hi, by omega, by simpa using e2⟩)⟩)
    obtain ⟨h1, h2⟩ := h 0 (by simp) (by simp)
    simp only [List.getElem_cons_zero, Nat.add_zero] at h1 h2
    by_cases hx : named x = true
    · have hy : named y = true := by simpa [named, h1] using hx
      rw [filesL, filesL, List.filter_cons_of_pos hx, List.filter_cons_of_pos hy, List.map_cons, List.map_cons]
      refine .cons ⟨by simp only [entry]; exact h1, ?_⟩ ih'
      by_cases e : (o : Int) = n
      · exact .inr ⟨0, by simp, by simpa using e, rfl⟩
      · exact .inl (by rw [h2 e])
    · have hy : ¬ named y = true := by simpa [named, h1] using hx
      rw [filesL, filesL, List.filter_cons_of_neg hx, List.filter_cons_of_neg hy]
      exact ih'

/-- The files behind a write and a resize: names as they were, and bytes, but for the one inode's. -/
theorem apart_pure {B : List Int} (hB : B.length = 8192) {L : List Nd} {u : Nat} (h : Tab B L u) (n o m : Int) (b : List Int) :
    ∃ fs2, filesR (resizeR (writeR B n o b).1 n m).1 = (fs2, 0) ∧ fs2.length = (filesL B L).length ∧
      (∀ i (h1 : i < (filesL B L).length) (h2 : i < fs2.length), fs2[i].1 = (filesL B L)[i].1 ∧ (fs2[i].2 = (filesL B L)[i].2 ∨ findI L (filesL B L)[i].1 = n)) ∧
      ∀ i (h1 : i < (filesL B L).length), findR B (filesL B L)[i].1 = (findI L (filesL B L)[i].1, 0) ∧ ∃ k, ∃ hk : k < L.length, findI L (filesL B L)[i].1 = k ∧ L[k].name = (filesL B L)[i].1 := by
  have hT := (tableF_iff _ _ _).2 h
  have hlen := h.len
  have hfind : ∀ k (hk : k < L.length), L[k].name ≠ noName → findI L L[k].name = k := fun k hk hn =>
    findI_at hk rfl (fun j hj hlt e => h.others hk hn j hj (by omega) e)
  obtain ⟨L1, hK1⟩ := kept_write hB h n o b
  obtain ⟨hB1, ⟨u1, hT1⟩, -⟩ := id hK1
  obtain ⟨L2, hK2⟩ := kept_resizeR hB1 hT1 n m
  have hK := hK1.trans hK2
  obtain ⟨hB2, ⟨u2, hT2⟩, hk⟩ := hK
  have hrel := files_rel n B (resizeR (writeR B n o b).1 n m).1 L L2 0 (by rw [hlen, hT2.len]) (fun i h1 h2 => by
    have := hk i (by omega)
    rw [getD_get h1, getD_get h2] at this
    simpa using this)
  refine ⟨_, filesR_tab' hT2, (All2.len hrel).symm, fun i h1 h2 => ?_, fun i h1 => ?_⟩
  · obtain ⟨_, e1, e2⟩ := All2.get hrel i h1
    refine ⟨e1, e2.imp id ?_⟩
    rintro ⟨j, hj, e3, e4⟩
    obtain ⟨j', hj', hn', e5⟩ := mem_filesL.1 (List.getElem_mem h1)
    rw [← e4, hfind j hj (by rw [e4, e5]; exact hn')]
    simpa using e3
  · obtain ⟨j, hj, hn, e⟩ := mem_filesL.1 (List.getElem_mem h1)
    have e2 : (filesL B L)[i].1 = L[j].name := by rw [e]; rfl
    rw [e2, hfind j hj hn]
    refine ⟨?_, j, hj, rfl, rfl⟩
    have e3 : findR B L[j].name = if nameF L[j].name = false then (0, 121) else if findI L L[j].name = -1 then (0, 123) else (findI L L[j].name, 0) := by
      unfold findR; generalize tableF B = t at *; subst hT; rfl
    have hg := h.good _ (List.getElem_mem hj)
    have hok : nameF L[j].name = true := by
      rcases hg with hg | hg
      · exact absurd (by rw [hg]; rfl) hn
      · have := hg; simp only [inoOk, Bool.and_eq_true] at this; exact this.1.1.1.1
    rw [e3, if_neg (by simp [hok]), hfind j hj hn, if_neg (by omega)]
end Go.Proofs.YtoajnmbbgbpbgaaGreat
