/-
  Chapter 12, the law FsMap: its list of files as values, and its small functions.
-/
import Derived.Test.YtoajnmbbgbpbgaaZK
import Derived.Test.YtoajnmbbgbpbgaaZA
import Derived.Test.YtoajnmbbgbpbgaaZD
namespace Go.Proofs.Ytoajnmbbgbpbgaa
set_option linter.unusedVariables false
set_option linter.unusedSimpArgs false
open Go.RowKit Go.Shelf Go.Maps

theorem flat_get12 {α : Type} (cells : α → List Value) (sz : Nat) (hcl : ∀ y, (cells y).length = sz) (L : List α) (k i : Nat) (hk : k < L.length) (hi : i < sz) : (L.flatMap cells)[k * sz + i]? = (cells L[k])[i]? := by
  induction L generalizing k with
  | nil => simp at hk
  | cons y L ih =>
    rw [List.flatMap_cons]
    cases k with
    | zero => rw [List.getElem?_append_left (by rw [hcl]; omega)]; simp
    | succ k =>
      rw [List.getElem?_append_right (by rw [hcl, Nat.succ_mul]; omega), hcl]
      have := ih k (by simp at hk; omega)
      rw [show (k + 1) * sz + i - sz = k * sz + i by rw [Nat.succ_mul]; omega]
      simpa using this

theorem All2.get {α β : Type} {R : α → β → Prop} {xs : List α} {ys : List β} (h : All2 R xs ys) (j : Nat) (hj : j < xs.length) : ∃ hj' : j < ys.length, R xs[j] ys[j] := by
  induction h generalizing j with
  | nil => simp at hj
  | cons hx hr ih =>
    cases j with
    | zero => exact ⟨by simp, hx⟩
    | succ j =>
      obtain ⟨h1, h2⟩ := ih j (by simpa using hj)
      exact ⟨by simpa using h1, h2⟩
theorem All2.set {α β : Type} {R : α → β → Prop} {xs : List α} {ys : List β} (h : All2 R xs ys) (j : Nat) {x : α} {y : β} (hx : R x y) : All2 R (xs.set j x) (ys.set j y) := by
  induction h generalizing j with
  | nil => exact .nil
  | cons hx' hr ih =>
    cases j with
    | zero => exact .cons hx hr
    | succ j => exact .cons hx' (ih j)
theorem All2.erase {α β : Type} {R : α → β → Prop} {xs : List α} {ys : List β} (h : All2 R xs ys) (j : Nat) : All2 R (xs.eraseIdx j) (ys.eraseIdx j) := by
  induction h generalizing j with
  | nil => exact .nil
  | cons hx' hr ih =>
    cases j with
    | zero => exact hr
    | succ j => exact .cons hx' (ih j)

theorem fileCells_get2 (vs : List (ByteArray × Value)) (j : Nat) (hj : j < vs.length) : (fileCells vs)[2 * j + 1]? = some vs[j].2 := by
  induction vs generalizing j with
  | nil => simp at hj
  | cons p vs ih =>
    cases j with
    | zero => rfl
    | succ j =>
      have := ih j (by simpa using hj)
      rw [show 2 * (j + 1) + 1 = 2 * j + 1 + 1 + 1 by omega]
      simpa [fileCells] using this
theorem fileCells_set (vs : List (ByteArray × Value)) (j : Nat) (hj : j < vs.length) (v : Value) : (fileCells vs).set (2 * j + 1) v = fileCells (vs.set j (vs[j].1, v)) := by
  induction vs generalizing j with
  | nil => simp at hj
  | cons p vs ih =>
    cases j with
    | zero => simp [fileCells]
    | succ j =>
      have := ih j (by simpa using hj)
      rw [show 2 * (j + 1) + 1 = 2 * j + 1 + 1 + 1 by omega]
      simpa [fileCells] using this
theorem fileCells_erase (vs : List (ByteArray × Value)) (j : Nat) (hj : j < vs.length) : (fileCells vs).take (j * 2) ++ (fileCells vs).drop ((j + 1) * 2) = fileCells (vs.eraseIdx j) := by
  induction vs generalizing j with
  | nil => simp at hj
  | cons p vs ih =>
    cases j with
    | zero => simp [fileCells]
    | succ j =>
      have := ih j (by simpa using hj)
      rw [show (j + 1) * 2 = j * 2 + 1 + 1 by omega, show (j + 1 + 1) * 2 = (j + 1) * 2 + 1 + 1 by omega]
      simpa [fileCells] using this
theorem fileCells_one {fs : Files} {vs : List (ByteArray × Value)} {w : World} {A : Nat → Prop} (h : FilesV fs vs w A) : ∀ u ∈ fileCells vs, u.oneCell' = true := by
  induction h with
  | nil => simp [fileCells]
  | cons hx hr ih =>
    rename_i x p xs ys
    intro u hu
    have e : fileCells (p :: ys) = .string p.1 :: p.2 :: fileCells ys := by simp [fileCells]
    rw [e] at hu
    rcases List.mem_cons.1 hu with rfl | hu
    · rfl
    · rcases List.mem_cons.1 hu with rfl | hu
      · obtain ⟨a, c, e⟩ := (Sl.of_owns hx.2.1).form
        rw [e]; rfl
      · exact ih u hu

theorem FilesV.at {fs : Files} {vs : List (ByteArray × Value)} {w : World} {A : Nat → Prop} (h : FilesV fs vs w A) (j : Nat) (hj : j < fs.length) :
    ∃ hj' : j < vs.length, ∃ a c, vs[j].1 = fs[j].1 ∧ vs[j].2 = .slice a fs[j].2.length c ∧ w.ownsRow 0 5 1 (.slice a fs[j].2.length c) fs[j].2.length (bys fs[j].2) ∧ ∀ k, (Value.slice a fs[j].2.length c).ownBlock = some k → ¬ A k := by
  obtain ⟨h1, h2, h3, h4⟩ := All2.get h j hj
  obtain ⟨a, c, e⟩ := (Sl.of_owns h3).form
  rw [e] at h3 h4
  exact ⟨h1, a, c, h2, e, h3, h4⟩
theorem FilesV.fr0 {fs : Files} {vs : List (ByteArray × Value)} {w w' : World} {A : Nat → Prop} (h : FilesV fs vs w A) (hF : Fr No w w') : FilesV fs vs w' A := h.fr hF.no (fun k hk => .inl hk)
theorem FilesV.len {fs : Files} {vs : List (ByteArray × Value)} {w : World} {A : Nat → Prop} (h : FilesV fs vs w A) : fs.length = vs.length := All2.len h

set_option maxHeartbeats 400000 in
set_option maxRecDepth 1000000 in
theorem lblocks_calls (v : Value) (fs : Files) (vs : List (ByteArray × Value)) (w : World) (A : Nat → Prop) (hlen : fs.length ≤ 100) (hv : Sl w v fs.length (fileCells vs)) (hf : FilesV fs vs w A) (hb : ∀ f ∈ fs, f.2.length ≤ 281474976710656) :
    Calls Try.prog 23 #[v] w fun e w' => e = .returned (.int .i64 (sumF fs)) ∧ Fr No w w' := by
  obtain ⟨av, cap, rfl⟩ := hv.form
  have HVL := Lib.hid hf.len
  go_enter Try.func23, Try.ntmps23
  have HV := Lib.hid hv
  have HLEN := Lib.hid hlen
  have HFV := Lib.hid hf
  have HB := Lib.hid hb
  clear hv hlen hf hb
  go_wp2
  go_loopw [3, 8] (fun s i wr => ∃ j x : Nat, j ≤ fs.length ∧ i = .int .i64 j ∧ s = .int .i64 x ∧ x = sumF (fs.take j) ∧ x ≤ j * 4398046511104 ∧ Fr No w wr) (fun s i _ => fs.length - (intOf i).toNat)
  case atStart => exact ⟨0, 0, Nat.zero_le _, rfl, rfl, rfl, by omega, Fr.refl _ _⟩
  case round =>
    obtain ⟨j, x, hj, rfl, rfl, hx, hxb, hF⟩ := hrel
    have h99 := HLEN.out
    by_cases hlt : j < fs.length
    · obtain ⟨hj', a, c, e1, e2, hr, -⟩ := (HFV.out.fr0 hF).at j hlt
      obtain ⟨vb, off, rfl, -, hc⟩ := (HV.out.fr0 hF).at (by intro e; have := fileCells_len vs; have := HVL.out; rw [e] at *; simp at *; omega)
      have c1 : wr.cell? ⟨vb, off + j * 2, none⟩ = some (.string vs[j].1) := by rw [Nat.mul_comm]; exact hc _ _ (fileCells_get vs j hj')
      have c2 : wr.cell? ⟨vb, off + j * 2 + 1, none⟩ = some (.slice a fs[j].2.length c) := by rw [← e2, Nat.mul_comm, Nat.add_assoc]; exact hc _ _ (fileCells_get2 vs j hj')
      have hbl := HB.out _ (List.getElem_mem hlt)
      have hsum : sumF (fs.take (j + 1)) = sumF (fs.take j) + (needF fs[j].2.length).toNat := by
        rw [List.take_succ_eq_append_getElem hlt, sumF, List.map_append, List.sum_append]; simp [sumF]
      revert c2 hbl hsum c1
      generalize fs[j].2.length = m
      generalize vs[j].1 = nm
      intro c1 c2 hbl hsum
      obtain ⟨q, hq⟩ : ∃ q : Nat, needF (m : Int) = q := ⟨(needF (m : Int)).toNat, by rw [needF]; split <;> omega⟩
      have hqb : q ≤ 4398046511104 := by have : needF (m : Int) ≤ 4398046511104 := by rw [needF]; split <;> omega
                                         omega
      rw [hq] at hsum
      have hs2 : sumF (fs.take (j + 1)) = x + q := by rw [hsum, ← hx]; simp
      have HS2 := Lib.hid hs2
      have HQ := Lib.hid hq
      have HF := Lib.hid hF
      clear hc hsum hs2 hx e1 e2 hr hq hF
      go_wp2_with fail
      refine (rneed_calls _ _ (by omega) (by omega)).mono ?_
      rintro e w1 ⟨rfl, rfl⟩
      rw [HQ.out]
      go_wp2
      go_roundw
      case rel => exact ⟨j + 1, x + q, by omega, by go_num, by go_num, HS2.out.symm, by omega, HF.out.alloc _⟩
      case measure => simp [intOf]; omega
    · obtain rfl : j = fs.length := by omega
      rw [List.take_length] at hx
      subst hx
      have HF := Lib.hid hF
      clear hF
      go_wp2
      go_ret
      exact ⟨rfl, HF.out⟩

set_option maxHeartbeats 400000 in
set_option maxRecDepth 1000000 in
theorem few12_calls (u v : Value) (l : List Int) (L : List ActF) (w : World) (hlen : L.length ≤ 9223372036854775807) (hu : Sl w u l.length (bys l)) (hv : Sl w v L.length (L.flatMap actFCell)) :
    Calls Try.prog 17 #[u, v] w fun e w' => ∃ b, e = .returned (.bool b) ∧ Fr No w w' := by
  obtain ⟨av, cap, rfl⟩ := hv.form
  obtain ⟨bu, capu, rfl⟩ := hu.form
  clear hu
  go_enter Try.func17, Try.ntmps17
  go_wp2
  go_loopw [5, 12] (fun s i wr => ∃ (j : Nat) (x : Int), j ≤ L.length ∧ i = .int .i64 j ∧ s = .int .i64 x ∧ Fr No w wr) (fun _ i _ => L.length - (intOf i).toNat)
  case atStart => exact ⟨0, l.length, Nat.zero_le _, rfl, rfl, Fr.refl _ _⟩
  case round =>
    obtain ⟨j, x, hj, rfl, rfl, hF⟩ := hrel
    by_cases hlt : j < L.length
    · have g0 := flat_get12 actFCell 7 (fun _ => rfl) L j 0 hlt (by omega)
      have g1 := flat_get12 actFCell 7 (fun _ => rfl) L j 1 hlt (by omega)
      have g2 := flat_get12 actFCell 7 (fun _ => rfl) L j 2 hlt (by omega)
      have g3 := flat_get12 actFCell 7 (fun _ => rfl) L j 3 hlt (by omega)
      have g4 := flat_get12 actFCell 7 (fun _ => rfl) L j 4 hlt (by omega)
      have g5 := flat_get12 actFCell 7 (fun _ => rfl) L j 5 hlt (by omega)
      have g6 := flat_get12 actFCell 7 (fun _ => rfl) L j 6 hlt (by omega)
      revert g0 g1 g2 g3 g4 g5 g6
      generalize L[j] = y
      obtain ⟨d, s, t, nd, a, n, au, lu, cu⟩ := y
      intro g0 g1 g2 g3 g4 g5 g6
      simp only [actFCell, List.getElem?_cons_zero, List.getElem?_cons_succ] at g0 g1 g2 g3 g4 g5 g6
      obtain ⟨b, off, rfl, hb, hc⟩ := hv.at (by intro e; rw [e] at g0; simp at g0)
      have c0 := hF.cell (hc _ _ g0) (fun h => h)
      have c1 := hF.cell (hc _ _ g1) (fun h => h)
      have c2 := hF.cell (hc _ _ g2) (fun h => h)
      have c3 := hF.cell (hc _ _ g3) (fun h => h)
      have c4 := hF.cell (hc _ _ g4) (fun h => h)
      have c5 := hF.cell (hc _ _ g5) (fun h => h)
      have c6 := hF.cell (hc _ _ g6) (fun h => h)
      simp only [← Nat.add_assoc, Nat.add_zero] at c0 c1 c2 c3 c4 c5 c6
      have HF := Lib.hid hF
      clear hc hv g0 g1 g2 g3 g4 g5 g6 hF
      go_wp2
      all_goals exact ⟨⟨j + 1, _, by omega, by go_num, rfl, HF.out.alloc _⟩, by simp [intOf]; omega⟩
    · have HF := Lib.hid hF
      clear hF hv
      go_wp2
      go_ret
      exact ⟨_, rfl, HF.out⟩

/-- A name's place in the list of files. -/
theorem lfindF_calls (v : Value) (fs : Files) (vs : List (ByteArray × Value)) (s : ByteArray) (w : World) (A : Nat → Prop) (hlen : fs.length ≤ 100) (hv : Sl w v fs.length (fileCells vs)) (hf : FilesV fs vs w A) (hn : (fs.map Prod.fst).Nodup) :
    Calls Try.prog 18 #[v, .string s] w fun e w' => e = .returned (.int .i64 (placeF fs s)) ∧ Fr No w w' := by
  have hl := hf.len
  refine (lfind_calls v vs s w (by omega) (by rw [← hl]; exact hv)).mono ?_
  rintro e w' ⟨k, rfl, hF, h⟩
  refine ⟨?_, hF⟩
  have hk : k = placeF fs s := by
    rcases placeF_spec fs s with ⟨h1, h2⟩ | ⟨k', hk', h1, h2⟩
    · rw [h1]
      rcases h with ⟨rfl, -⟩ | ⟨j, rfl, hj, hs⟩
      · rfl
      · obtain ⟨_, -, -, e1, -⟩ := hf.at j (by omega)
        exact absurd (e1.symm.trans hs) (h2 _ (List.getElem_mem _))
    · rw [h1]
      rcases h with ⟨rfl, h3⟩ | ⟨j, rfl, hj, hs⟩
      · obtain ⟨hj', -, -, e1, -⟩ := hf.at k' hk'
        exact absurd (e1.trans h2) (h3 _ (List.getElem_mem _))
      · obtain ⟨_, -, -, e1, -⟩ := hf.at j (by omega)
        have h5 : (fs.map Prod.fst)[j]'(by simp; omega) = (fs.map Prod.fst)[k']'(by simpa using hk') := by
          rw [List.getElem_map, List.getElem_map, h2]; exact e1.symm.trans hs
        rw [(List.getElem_inj hn).1 h5]
  rw [hk]

/-- The law's list of files beside the memory. -/
structure FmV (w : World) (mb : Nat) (F : List Int) (fv : Value) (wr : World) (fs : Files) (vs : List (ByteArray × Value)) (A : Nat → Prop) (B : List Int) : Prop where
  mem : MemAt wr mb A F B
  fr : Fr No w wr
  low : ∀ k, A k → w.heap.size ≤ k
  row : wr.ownsRow w.heap.size 45 2 fv fs.length (fileCells vs)
  out : ∀ k, fv.ownBlock = some k → ¬ A k
  files : FilesV fs vs wr A
theorem FmV.fr0 {w wr wr' : World} {mb : Nat} {F B : List Int} {fv : Value} {fs : Files} {vs : List (ByteArray × Value)} {A : Nat → Prop} (h : FmV w mb F fv wr fs vs A B) (hF : Fr No wr wr') : FmV w mb F fv wr' fs vs A B :=
  ⟨h.mem.fr0 hF, h.fr.trans hF, h.low, ownsRow_fr h.row hF (fun _ _ h => h), h.out, h.files.fr0 hF⟩
theorem FmV.mp {w wr wr' : World} {mb : Nat} {F B B' : List Int} {fv : Value} {fs : Files} {vs : List (ByteArray × Value)} {A A' : Nat → Prop} (h : FmV w mb F fv wr fs vs A B) (hp : Mp wr mb A F B' wr' A') : FmV w mb F fv wr' fs vs A' B' := by
  obtain ⟨h1, h2⟩ := hp.step h.fr h.low
  refine ⟨hp.1, h1, h2, ownsRow_fr h.row hp.2.1 h.out, fun k e hA => ?_, h.files.fr hp.2.1 hp.2.2⟩
  rcases hp.2.2 k hA with h3 | h3
  · exact h.out k e h3
  · have := (h.row.lt k e).2; omega
/-- The list's own row is turned. -/
theorem FmV.turn {w wr wr' : World} {mb : Nat} {F B : List Int} {fv fv' : Value} {fs fs' : Files} {vs vs' : List (ByteArray × Value)} {A : Nat → Prop} (h : FmV w mb F fv wr fs vs A B) (hF : Fr (fun k => fv.ownBlock = some k) wr wr')
    (hr : wr'.ownsRow w.heap.size 45 2 fv' fs'.length (fileCells vs')) (ho : ∀ k, fv'.ownBlock = some k → ¬ A k) (hf : FilesV fs' vs' wr A) : FmV w mb F fv' wr' fs' vs' A B := by
  refine ⟨h.mem.fr hF h.out, h.fr.trans' hF (fun i hi e => by have := (h.row.lt i e).1; omega), h.low, hr, ho, ?_⟩
  refine forall2_imp hf ?_
  rintro x p ⟨h1, h2, h3⟩
  exact ⟨h1, ownsRow_fr h2 hF (fun k e e' => rows_apart h.row h2 (by decide) k e' e), h3⟩
theorem FmV.sl {w wr : World} {mb : Nat} {F B : List Int} {fv : Value} {fs : Files} {vs : List (ByteArray × Value)} {A : Nat → Prop} (h : FmV w mb F fv wr fs vs A B) : Sl wr fv fs.length (fileCells vs) := Sl.of_owns h.row
end Go.Proofs.Ytoajnmbbgbpbgaa
