/-
  Which texts are files' names, and how many blocks any size needs: the program's and the reference's.
-/
import Derived.Test.YtoajnmbbgbpbgaaGreatZB
import Derived.Laws.RangeString
import Derived.Laws.RangeAny
import Derived.Laws.Strings
import Derived.Laws.Strings2
import Derived.Laws.Strings3
import Derived.Deep.RegionHeld3
namespace Go.Proofs.YtoajnmbbgbpbgaaGreat
set_option linter.unusedVariables false
set_option linter.unusedSimpArgs false
open Go.RowKit Go.Shelf

def goodB (b : UInt8) : Bool := decide (33 ≤ b.toNat) && decide (b.toNat ≤ 126)
def nameF (s : ByteArray) : Bool := s.data.toList.all goodB && decide (1 ≤ s.size) && decide ((s.size : Int) ≤ 15)
theorem take_good (s : ByteArray) (k : Nat) (h : k < s.size) (h1 : (s.data.toList.take k).all goodB = true) (h2 : goodB (s[k]'h) = true) : (s.data.toList.take (k + 1)).all goodB = true := by
  have hk : k < s.data.toList.length := by simpa using h
  rw [List.take_succ_eq_append_getElem hk, List.all_append, h1]
  have : s.data.toList[k] = s[k]'h := by simp [ByteArray.getElem_eq_getElem_data]
  simp [this, h2]
theorem all_bad (s : ByteArray) (k : Nat) (h : k < s.size) (h2 : goodB (s[k]'h) = false) : s.data.toList.all goodB = false := by
  have hk : k < s.data.toList.length := by simpa using h
  have : s.data.toList[k] = s[k]'h := by simp [ByteArray.getElem_eq_getElem_data]
  rw [List.all_eq_false]
  exact ⟨s.data.toList[k], List.getElem_mem hk, by rw [this, h2]; simp⟩

set_option maxRecDepth 1000000 in
theorem name_calls (s : ByteArray) (w : World) (hs : s.size ≤ 140737488355328) :
    Calls Tryz.prog 50 #[.string s] w fun e w' => e = .returned (.bool (nameF s)) ∧ Fr No w w' := by
  go_enter Tryz.func50, Tryz.ntmps50
  go_wp2
  go_loopw [4] (fun _ w' => ∃ pos, pos ≤ s.size ∧ w' = w.iter s pos ∧ (s.data.toList.take pos).all goodB = true) (fun _ w' => s.size - w'.iterPos w.heap.size)
  case atStart => exact ⟨0, Nat.zero_le _, rfl, by simp⟩
  case round =>
    obtain ⟨pos, hpos, rfl, hgood⟩ := hrel
    by_cases hp : pos < s.size
    · have hnx : ∀ ty, (Instr.next (.pointer (some ⟨w.heap.size, 0, none⟩)) true ty).run Tryz.prog (w.iter s pos) = _ := fun ty => run_next_any w s pos ty hp
      cases hg : goodB (s[pos]'hp)
      · have hd : (Utf8.decode s pos).1 < 33 ∨ (33 ≤ (Utf8.decode s pos).1 ∧ 126 < (Utf8.decode s pos).1) := by
          by_cases ha : (s[pos]'hp).toNat < 128
          · rw [decode_ascii s pos hp ha]
            simp [goodB] at hg; omega
          · have := (decode_high s pos hp (by omega)).1; omega
        have hb := all_bad s pos hp hg
        clear hg
        generalize Utf8.decode s pos = dd at *
        rcases hd with hd | ⟨hd, hd2⟩
        all_goals
          go_wp2
          go_ret
          exact ⟨by rw [nameF, hb]; rfl, ((Fr.refl _ _).alloc _)⟩
      · have hd := decode_ascii s pos hp (by simp [goodB] at hg; omega)
        have hg1 : 33 ≤ (s[pos]'hp).toNat ∧ (s[pos]'hp).toNat ≤ 126 := by simpa [goodB] using hg
        have ht := take_good s pos hp hgood hg
        rw [hd] at hnx
        obtain ⟨hg1, hg2⟩ := hg1
        clear hd hg hgood
        generalize (s[pos]'hp).toNat = cc at *
        go_wp2
        go_roundw
        case rel => exact ⟨pos + 1, by omega, rfl, ht⟩
        case measure => simp; omega
    · have hnx : ∀ ty, (Instr.next (.pointer (some ⟨w.heap.size, 0, none⟩)) true ty).run Tryz.prog (w.iter s pos) = _ := fun ty => run_next_end w s pos ty hp
      have hall : s.data.toList.take pos = s.data.toList := List.take_of_length_le (by simp; omega)
      rw [hall] at hgood
      have hsz : (1 ≤ s.size) ↔ s.toList.isEmpty = false := by
        rw [ByteArray.toList_eq, List.isEmpty_eq_false_iff, ← List.length_pos_iff]; simp; omega
      cases hem : s.toList.isEmpty
      · have h1 := hsz.2 hem
        go_wp2
        go_ret
        exact ⟨by rw [nameF, hgood, decide_eq_true h1]; rfl, ((Fr.refl _ _).alloc _)⟩
      · have h1 : ¬ 1 ≤ s.size := fun h => by rw [hsz.1 h] at hem; cases hem
        go_wp2
        go_ret
        exact ⟨by rw [nameF, hgood, decide_eq_false h1]; rfl, ((Fr.refl _ _).alloc _)⟩

set_option maxRecDepth 1000000 in
theorem rname_calls (s : ByteArray) (w : World) (hs : s.size ≤ 140737488355328) :
    Calls Tryz.prog 61 #[.string s] w fun e w' => e = .returned (.bool (nameF s)) ∧ w = w' := by
  go_enter Tryz.func61, Tryz.ntmps61
  go_wp2
  go_loop [3] (fun i => ∃ pos : Nat, pos ≤ s.size ∧ i = .int .i64 pos ∧ (s.data.toList.take pos).all goodB = true) (fun i => s.size - (intOf i).toNat)
  case atStart => exact ⟨0, Nat.zero_le _, rfl, by simp⟩
  case round =>
    obtain ⟨pos, hpos, rfl, hgood⟩ := hrel
    by_cases hp : pos < s.size
    · cases hg : goodB (s[pos]'hp)
      · have hd : (s[pos]'hp).toNat < 33 ∨ (33 ≤ (s[pos]'hp).toNat ∧ 126 < (s[pos]'hp).toNat) := by simp [goodB] at hg; omega
        have hb := all_bad s pos hp hg
        clear hg
        rcases hd with hd | ⟨hd, hd2⟩
        all_goals
          go_wp2
          go_ret
          exact ⟨by rw [nameF, hb]; rfl, rfl⟩
      · have hg1 : 33 ≤ (s[pos]'hp).toNat ∧ (s[pos]'hp).toNat ≤ 126 := by simpa [goodB] using hg
        have ht := take_good s pos hp hgood hg
        obtain ⟨hg1, hg2⟩ := hg1
        clear hg hgood
        go_wp2
        exact ⟨⟨pos + 1, by omega, by go_num, ht⟩, by simp [intOf]; omega⟩
    · have hall : s.data.toList.take pos = s.data.toList := List.take_of_length_le (by simp; omega)
      rw [hall] at hgood
      by_cases h1 : 1 ≤ s.size
      · go_wp2
        go_ret
        exact ⟨by rw [nameF, hgood, decide_eq_true h1]; rfl, rfl⟩
      · go_wp2
        go_ret
        exact ⟨by rw [nameF, hgood, decide_eq_false h1]; rfl, rfl⟩

/-- How many blocks a size needs. -/
def needF (n : Int) : Int := if n ≤ 0 then 0 else (n - 1) / 64 + 1
theorem need_calls (n : Int) (w : World) (h1 : -9223372036854775808 ≤ n) (h2 : n ≤ 9223372036854775807) :
    Calls Tryz.prog 117 #[.int .i64 n] w fun e w' => e = .returned (.int .i64 (needF n)) ∧ w = w' := by
  have h0 : n < 0 ∨ n = 0 ∨ (0 < n ∧ n / 64 * 64 < n) ∨ (0 < n ∧ ¬ n / 64 * 64 < n) := by omega
  rcases h0 with h | rfl | ⟨h, hm⟩ | ⟨h, hm⟩
  · go_enter Tryz.func117, Tryz.ntmps117
    go_wp2
    go_ret
    exact ⟨by rw [needF, if_pos (by omega)]; rfl, rfl⟩
  · go_enter Tryz.func117, Tryz.ntmps117
    go_wp2
    go_ret
    exact ⟨rfl, rfl⟩
  · have hN : needF n = n / 64 + 1 := by rw [needF, if_neg (by omega)]; omega
    rw [hN]
    go_enter Tryz.func117, Tryz.ntmps117
    go_wp2
    go_ret
    exact ⟨rfl, rfl⟩
  · have hN : needF n = n / 64 := by rw [needF, if_neg (by omega)]; omega
    rw [hN]
    go_enter Tryz.func117, Tryz.ntmps117
    go_wp2
    go_ret
    exact ⟨rfl, rfl⟩
theorem rneed_calls (n : Int) (w : World) (h1 : -9223372036854775808 ≤ n) (h2 : n ≤ 9223372036854775807) :
    Calls Tryz.prog 100 #[.int .i64 n] w fun e w' => e = .returned (.int .i64 (needF n)) ∧ w = w' := by
  by_cases h : n ≤ 0
  · go_enter Tryz.func100, Tryz.ntmps100
    go_wp2
    go_ret
    exact ⟨by rw [needF, if_pos h]; rfl, rfl⟩
  · go_enter Tryz.func100, Tryz.ntmps100
    go_wp2
    go_ret
    exact ⟨by rw [needF, if_neg (by omega)]; rfl, rfl⟩
end Go.Proofs.YtoajnmbbgbpbgaaGreat
namespace Go.Proofs.YtoajnmbbgbpbgaaGreat
set_option linter.unusedVariables false
set_option linter.unusedSimpArgs false
open Go.RowKit Go.Shelf

/-- Whether there can be such an inode. -/
def inoOk (s : ByteArray) (n : Int) (xs : List (Int × Int)) : Bool := nameF s && decide (0 ≤ n) && decide (n ≤ 1472) && okB (blkSeq (-1) xs) && decide (((listF xs).length : Int) = needF n)
def inoN (s : ByteArray) (n : Int) (xs : List (Int × Int)) : Int := if inoOk s n xs = true then 0 else 110

/-- One operation of a drawn region, taken first: its slot is named. -/
theorem take_at {P : Program} {md : Region.Mode} {ops : Array Oper} {Q : Exit → Act → World → Prop} {S : World → Prop} {i : Nat} {oi : Oper} {d : Option Tmp} {v : Value} {fuel : Nat} {listed : Array Bool} {a : Act} {w : World} (hi : ops[i]? = some oi) (hd : oi.dst = d)
    (hs : Region.noSelect ops = true) (hf : Region.free md ops listed i = true) (hr : (Region.ready md ops listed).contains i = true)
    (hQ : ∀ c a w, Q (.panic c) (a.put d v) w → Q (.panic c) a w) (hy : YieldsIf P ops S oi v a) (hS : S w)
    (h : wpAnyH P md ops Q S fuel (listed.setIfInBounds i true) (a.put d v) w) : wpAnyH P md ops Q S (fuel + 1) listed a w := by
  subst hd; exact wpAnyH_take hi hs hf hr hQ hy hS h

set_option maxHeartbeats 1000000 in
set_option maxRecDepth 1000000 in
theorem icheck_1 (s : ByteArray) (n : Int) (a : Option Addr) (cap : Nat) (xs : List (Int × Int)) (w : World) (C3 : RowKit.Hid (∀ w1, Calls Tryz.prog 50 #[.string s] w1 fun e w' => e = .returned (.bool (nameF s)) ∧ Fr No w1 w')) (HN : RowKit.Hid (nameF s = false)) :
    Calls Tryz.prog 128 #[.agg #[.string s, .int .i64 n, .slice a xs.length cap]] w fun e w' => e = .returned (.int .i64 110) ∧ Fr No w w' := by
  go_enter Tryz.func128, Tryz.ntmps128
  go_wp2
  have hF0 : Fr No w (w.alloc (Obj.cells #[.string s, .int .i64 n, .slice a xs.length cap] 95)) := (Fr.refl _ _).alloc _
  have hb0 := heap_new w (Obj.cells #[.string s, .int .i64 n, .slice a xs.length cap] 95)
  generalize w.alloc _ = W at *
  have c0 := heap_cell (o := 0) hb0 rfl
  have c1 := heap_cell (o := 1) hb0 rfl
  have c2 := heap_cell (o := 2) hb0 rfl
  clear hb0
  refine wp_region_held_drew (S := (fun w' => w'.cell? ⟨w.heap.size, 0, none⟩ = some (.string s) ∧ w'.cell? ⟨w.heap.size, 1, none⟩ = some (.int .i64 n) ∧ w'.cell? ⟨w.heap.size, 2, none⟩ = some (.slice a xs.length cap))) (by kernel_rfl) ⟨c0, c1, c2⟩ (fun hS0 => ?_)
  refine take_at (i := 0) (d := some 3) (v := ?_) rfl rfl (by kernel_rfl) (by kernel_rfl) (by kernel_rfl) (fun _ _ _ h => h) (Or.inl ⟨by rfl, ?_⟩) (by assumption) ?_
  rotate_left
  · intro w hSw; go_simp; try (with_reducible rfl)
  try simp only [Act.put, List.setIfInBounds_toArray, List.set_cons_zero, List.set_cons_succ]
  refine take_at (i := 1) (d := some 4) (v := ?_) rfl rfl (by kernel_rfl) (by kernel_rfl) (by kernel_rfl) (fun _ _ _ h => h) (Or.inl ⟨by rfl, ?_⟩) (by assumption) ?_
  rotate_left
  · intro w hSw; go_simp; try (with_reducible rfl)
  try simp only [Act.put, List.setIfInBounds_toArray, List.set_cons_zero, List.set_cons_succ]
  refine wpAnyH_ready (rs := [2]) (by kernel_rfl) (by simp) ?_
  refine AllReadyH.cons rfl (fun K hK => ?_) AllReadyH.nil
  go_simp
  go_wp2_with (go_at_call 50; ((with_reducible refine (C3.out _).mono ?_); rintro e w1 ⟨rfl, hF1⟩; rw [HN.out]; have d0 := hF1.cell (o := 0) c0 (fun h => h); have d1 := hF1.cell (o := 1) c1 (fun h => h); have d2 := hF1.cell (o := 2) c2 (fun h => h)))
  refine hK.out _ _ ?_ (fun hHeld => ?_)
  · exact ⟨d0, d1, d2⟩
  clear hK K
  try simp only [Act.put, List.setIfInBounds_toArray, List.set_cons_zero, List.set_cons_succ]
  refine take_at (i := 3) (d := some 6) (v := ?_) rfl rfl (by kernel_rfl) (by kernel_rfl) (by kernel_rfl) (fun _ _ _ h => h) (Or.inl ⟨by rfl, ?_⟩) (by assumption) ?_
  rotate_left
  · intro w hSw; go_simp; try (with_reducible rfl)
  try simp only [Act.put, List.setIfInBounds_toArray, List.set_cons_zero, List.set_cons_succ]
  refine take_at (i := 4) (d := some 7) (v := ?_) rfl rfl (by kernel_rfl) (by kernel_rfl) (by kernel_rfl) (fun _ _ _ h => h) (Or.inl ⟨by rfl, ?_⟩) (by assumption) ?_
  rotate_left
  · intro w hSw; go_simp; try (with_reducible rfl)
  try simp only [Act.put, List.setIfInBounds_toArray, List.set_cons_zero, List.set_cons_succ]
  refine take_at (i := 5) (d := some 8) (v := undef) rfl rfl (by kernel_rfl) (by kernel_rfl) (by kernel_rfl) (fun _ _ _ h => h) (Or.inr ⟨by rfl, rfl⟩) (by assumption) ?_
  try simp only [Act.put, List.setIfInBounds_toArray, List.set_cons_zero, List.set_cons_succ]
  refine take_at (i := 6) (d := some 9) (v := undef) rfl rfl (by kernel_rfl) (by kernel_rfl) (by kernel_rfl) (fun _ _ _ h => h) (Or.inr ⟨by rfl, rfl⟩) (by assumption) ?_
  try simp only [Act.put, List.setIfInBounds_toArray, List.set_cons_zero, List.set_cons_succ]
  refine take_at (i := 7) (d := some 10) (v := undef) rfl rfl (by kernel_rfl) (by kernel_rfl) (by kernel_rfl) (fun _ _ _ h => h) (Or.inr ⟨by rfl, rfl⟩) (by assumption) ?_
  try simp only [Act.put, List.setIfInBounds_toArray, List.set_cons_zero, List.set_cons_succ]
  refine take_at (i := 8) (d := some 11) (v := ?_) rfl rfl (by kernel_rfl) (by kernel_rfl) (by kernel_rfl) (fun _ _ _ h => h) (Or.inl ⟨by rfl, ?_⟩) (by assumption) ?_
  rotate_left
  · intro w hSw; go_simp; try (with_reducible rfl)
  try simp only [Act.put, List.setIfInBounds_toArray, List.set_cons_zero, List.set_cons_succ]
  refine take_at (i := 9) (d := some 12) (v := ?_) rfl rfl (by kernel_rfl) (by kernel_rfl) (by kernel_rfl) (fun _ _ _ h => h) (Or.inl ⟨by rfl, ?_⟩) (by assumption) ?_
  rotate_left
  · intro w hSw; go_simp; try (with_reducible rfl)
  try simp only [Act.put, List.setIfInBounds_toArray, List.set_cons_zero, List.set_cons_succ]
  refine take_at (i := 10) (d := some 13) (v := undef) rfl rfl (by kernel_rfl) (by kernel_rfl) (by kernel_rfl) (fun _ _ _ h => h) (Or.inr ⟨by rfl, rfl⟩) (by assumption) ?_
  try simp only [Act.put, List.setIfInBounds_toArray, List.set_cons_zero, List.set_cons_succ]
  refine take_at (i := 11) (d := some 14) (v := undef) rfl rfl (by kernel_rfl) (by kernel_rfl) (by kernel_rfl) (fun _ _ _ h => h) (Or.inr ⟨by rfl, rfl⟩) (by assumption) ?_
  try simp only [Act.put, List.setIfInBounds_toArray, List.set_cons_zero, List.set_cons_succ]
  refine take_at (i := 12) (d := some 15) (v := undef) rfl rfl (by kernel_rfl) (by kernel_rfl) (by kernel_rfl) (fun _ _ _ h => h) (Or.inr ⟨by rfl, rfl⟩) (by assumption) ?_
  try simp only [Act.put, List.setIfInBounds_toArray, List.set_cons_zero, List.set_cons_succ]
  refine take_at (i := 13) (d := some 16) (v := ?_) rfl rfl (by kernel_rfl) (by kernel_rfl) (by kernel_rfl) (fun _ _ _ h => h) (Or.inl ⟨by rfl, ?_⟩) (by assumption) ?_
  rotate_left
  · intro w hSw; go_simp; try (with_reducible rfl)
  try simp only [Act.put, List.setIfInBounds_toArray, List.set_cons_zero, List.set_cons_succ]
  refine take_at (i := 14) (d := some 17) (v := ?_) rfl rfl (by kernel_rfl) (by kernel_rfl) (by kernel_rfl) (fun _ _ _ h => h) (Or.inl ⟨by rfl, ?_⟩) (by assumption) ?_
  rotate_left
  · intro w hSw; go_simp; try (with_reducible rfl)
  try simp only [Act.put, List.setIfInBounds_toArray, List.set_cons_zero, List.set_cons_succ]
  refine take_at (i := 15) (d := some 18) (v := undef) rfl rfl (by kernel_rfl) (by kernel_rfl) (by kernel_rfl) (fun _ _ _ h => h) (Or.inr ⟨by rfl, rfl⟩) (by assumption) ?_
  try simp only [Act.put, List.setIfInBounds_toArray, List.set_cons_zero, List.set_cons_succ]
  refine take_at (i := 16) (d := some 19) (v := undef) rfl rfl (by kernel_rfl) (by kernel_rfl) (by kernel_rfl) (fun _ _ _ h => h) (Or.inr ⟨by rfl, rfl⟩) (by assumption) ?_
  try simp only [Act.put, List.setIfInBounds_toArray, List.set_cons_zero, List.set_cons_succ]
  refine take_at (i := 17) (d := some 20) (v := undef) rfl rfl (by kernel_rfl) (by kernel_rfl) (by kernel_rfl) (fun _ _ _ h => h) (Or.inr ⟨by rfl, rfl⟩) (by assumption) ?_
  try simp only [Act.put, List.setIfInBounds_toArray, List.set_cons_zero, List.set_cons_succ]
  refine take_at (i := 18) (d := some 21) (v := undef) rfl rfl (by kernel_rfl) (by kernel_rfl) (by kernel_rfl) (fun _ _ _ h => h) (Or.inr ⟨by rfl, rfl⟩) (by assumption) ?_
  try simp only [Act.put, List.setIfInBounds_toArray, List.set_cons_zero, List.set_cons_succ]
  refine take_at (i := 19) (d := some 22) (v := ?_) rfl rfl (by kernel_rfl) (by kernel_rfl) (by kernel_rfl) (fun _ _ _ h => h) (Or.inl ⟨by rfl, ?_⟩) (by assumption) ?_
  rotate_left
  · intro w hSw; go_simp; try (with_reducible rfl)
  try simp only [Act.put, List.setIfInBounds_toArray, List.set_cons_zero, List.set_cons_succ]
  refine take_at (i := 20) (d := some 23) (v := ?_) rfl rfl (by kernel_rfl) (by kernel_rfl) (by kernel_rfl) (fun _ _ _ h => h) (Or.inl ⟨by rfl, ?_⟩) (by assumption) ?_
  rotate_left
  · intro w hSw; go_simp; try (with_reducible rfl)
  try simp only [Act.put, List.setIfInBounds_toArray, List.set_cons_zero, List.set_cons_succ]
  refine take_at (i := 21) (d := some 24) (v := undef) rfl rfl (by kernel_rfl) (by kernel_rfl) (by kernel_rfl) (fun _ _ _ h => h) (Or.inr ⟨by rfl, rfl⟩) (by assumption) ?_
  try simp only [Act.put, List.setIfInBounds_toArray, List.set_cons_zero, List.set_cons_succ]
  refine take_at (i := 22) (d := some 25) (v := undef) rfl rfl (by kernel_rfl) (by kernel_rfl) (by kernel_rfl) (fun _ _ _ h => h) (Or.inr ⟨by rfl, rfl⟩) (by assumption) ?_
  try simp only [Act.put, List.setIfInBounds_toArray, List.set_cons_zero, List.set_cons_succ]
  refine take_at (i := 23) (d := some 26) (v := undef) rfl rfl (by kernel_rfl) (by kernel_rfl) (by kernel_rfl) (fun _ _ _ h => h) (Or.inr ⟨by rfl, rfl⟩) (by assumption) ?_
  try simp only [Act.put, List.setIfInBounds_toArray, List.set_cons_zero, List.set_cons_succ]
  refine take_at (i := 24) (d := some 27) (v := undef) rfl rfl (by kernel_rfl) (by kernel_rfl) (by kernel_rfl) (fun _ _ _ h => h) (Or.inr ⟨by rfl, rfl⟩) (by assumption) ?_
  try simp only [Act.put, List.setIfInBounds_toArray, List.set_cons_zero, List.set_cons_succ]
  refine take_at (i := 25) (d := some 28) (v := undef) rfl rfl (by kernel_rfl) (by kernel_rfl) (by kernel_rfl) (fun _ _ _ h => h) (Or.inr ⟨by rfl, rfl⟩) (by assumption) ?_
  try simp only [Act.put, List.setIfInBounds_toArray, List.set_cons_zero, List.set_cons_succ]
  refine take_at (i := 26) (d := some 29) (v := undef) rfl rfl (by kernel_rfl) (by kernel_rfl) (by kernel_rfl) (fun _ _ _ h => h) (Or.inr ⟨by rfl, rfl⟩) (by assumption) ?_
  try simp only [Act.put, List.setIfInBounds_toArray, List.set_cons_zero, List.set_cons_succ]
  refine take_at (i := 27) (d := some 30) (v := undef) rfl rfl (by kernel_rfl) (by kernel_rfl) (by kernel_rfl) (fun _ _ _ h => h) (Or.inr ⟨by rfl, rfl⟩) (by assumption) ?_
  try simp only [Act.put, List.setIfInBounds_toArray, List.set_cons_zero, List.set_cons_succ]
  refine take_at (i := 28) (d := some 31) (v := ?_) rfl rfl (by kernel_rfl) (by kernel_rfl) (by kernel_rfl) (fun _ _ _ h => h) (Or.inl ⟨by rfl, ?_⟩) (by assumption) ?_
  rotate_left
  · intro w hSw; go_simp; try (with_reducible rfl)
  try simp only [Act.put, List.setIfInBounds_toArray, List.set_cons_zero, List.set_cons_succ]
  refine wpAnyH_done (by kernel_rfl) ?_ _
  go_wp2
  go_ret
  exact ⟨rfl, hF0.drew.trans hF1⟩

set_option maxHeartbeats 1000000 in
set_option maxRecDepth 1000000 in
theorem icheck_2 (s : ByteArray) (n : Int) (a : Option Addr) (cap : Nat) (xs : List (Int × Int)) (w : World) (C3 : RowKit.Hid (∀ w1, Calls Tryz.prog 50 #[.string s] w1 fun e w' => e = .returned (.bool (nameF s)) ∧ Fr No w1 w')) (HN : RowKit.Hid (nameF s = true)) (h : n < 0) :
    Calls Tryz.prog 128 #[.agg #[.string s, .int .i64 n, .slice a xs.length cap]] w fun e w' => e = .returned (.int .i64 110) ∧ Fr No w w' := by
  go_enter Tryz.func128, Tryz.ntmps128
  go_wp2
  have hF0 : Fr No w (w.alloc (Obj.cells #[.string s, .int .i64 n, .slice a xs.length cap] 95)) := (Fr.refl _ _).alloc _
  have hb0 := heap_new w (Obj.cells #[.string s, .int .i64 n, .slice a xs.length cap] 95)
  generalize w.alloc _ = W at *
  have c0 := heap_cell (o := 0) hb0 rfl
  have c1 := heap_cell (o := 1) hb0 rfl
  have c2 := heap_cell (o := 2) hb0 rfl
  clear hb0
  refine wp_region_held_drew (S := (fun w' => w'.cell? ⟨w.heap.size, 0, none⟩ = some (.string s) ∧ w'.cell? ⟨w.heap.size, 1, none⟩ = some (.int .i64 n) ∧ w'.cell? ⟨w.heap.size, 2, none⟩ = some (.slice a xs.length cap))) (by kernel_rfl) ⟨c0, c1, c2⟩ (fun hS0 => ?_)
  refine take_at (i := 0) (d := some 3) (v := ?_) rfl rfl (by kernel_rfl) (by kernel_rfl) (by kernel_rfl) (fun _ _ _ h => h) (Or.inl ⟨by rfl, ?_⟩) (by assumption) ?_
  rotate_left
  · intro w hSw; go_simp; try (with_reducible rfl)
  try simp only [Act.put, List.setIfInBounds_toArray, List.set_cons_zero, List.set_cons_succ]
  refine take_at (i := 1) (d := some 4) (v := ?_) rfl rfl (by kernel_rfl) (by kernel_rfl) (by kernel_rfl) (fun _ _ _ h => h) (Or.inl ⟨by rfl, ?_⟩) (by assumption) ?_
  rotate_left
  · intro w hSw; go_simp; try (with_reducible rfl)
  try simp only [Act.put, List.setIfInBounds_toArray, List.set_cons_zero, List.set_cons_succ]
  refine wpAnyH_ready (rs := [2]) (by kernel_rfl) (by simp) ?_
  refine AllReadyH.cons rfl (fun K hK => ?_) AllReadyH.nil
  go_simp
  go_wp2_with (go_at_call 50; ((with_reducible refine (C3.out _).mono ?_); rintro e w1 ⟨rfl, hF1⟩; rw [HN.out]; have d0 := hF1.cell (o := 0) c0 (fun h => h); have d1 := hF1.cell (o := 1) c1 (fun h => h); have d2 := hF1.cell (o := 2) c2 (fun h => h)))
  refine hK.out _ _ ?_ (fun hHeld => ?_)
  · exact ⟨d0, d1, d2⟩
  clear hK K
  try simp only [Act.put, List.setIfInBounds_toArray, List.set_cons_zero, List.set_cons_succ]
  refine take_at (i := 3) (d := some 6) (v := ?_) rfl rfl (by kernel_rfl) (by kernel_rfl) (by kernel_rfl) (fun _ _ _ h => h) (Or.inl ⟨by rfl, ?_⟩) (by assumption) ?_
  rotate_left
  · intro w hSw; go_simp; try (with_reducible rfl)
  try simp only [Act.put, List.setIfInBounds_toArray, List.set_cons_zero, List.set_cons_succ]
  refine take_at (i := 4) (d := some 7) (v := ?_) rfl rfl (by kernel_rfl) (by kernel_rfl) (by kernel_rfl) (fun _ _ _ h => h) (Or.inl ⟨by rfl, ?_⟩) (by assumption) ?_
  rotate_left
  · intro w hSw; go_simp; try (with_reducible rfl)
  try simp only [Act.put, List.setIfInBounds_toArray, List.set_cons_zero, List.set_cons_succ]
  refine take_at (i := 5) (d := some 8) (v := ?_) rfl rfl (by kernel_rfl) (by kernel_rfl) (by kernel_rfl) (fun _ _ _ h => h) (Or.inl ⟨by rfl, ?_⟩) (by assumption) ?_
  rotate_left
  · intro w hSw; go_simp; try (with_reducible rfl)
  try simp only [Act.put, List.setIfInBounds_toArray, List.set_cons_zero, List.set_cons_succ]
  refine take_at (i := 6) (d := some 9) (v := ?_) rfl rfl (by kernel_rfl) (by kernel_rfl) (by kernel_rfl) (fun _ _ _ h => h) (Or.inl ⟨by rfl, ?_⟩) (by assumption) ?_
  rotate_left
  · intro w hSw; go_simp; try (with_reducible rfl)
  try simp only [Act.put, List.setIfInBounds_toArray, List.set_cons_zero, List.set_cons_succ]
  refine take_at (i := 7) (d := some 10) (v := ?_) rfl rfl (by kernel_rfl) (by kernel_rfl) (by kernel_rfl) (fun _ _ _ h => h) (Or.inl ⟨by rfl, ?_⟩) (by assumption) ?_
  rotate_left
  · intro w hSw; go_simp; try (with_reducible rfl)
  try simp only [Act.put, List.setIfInBounds_toArray, List.set_cons_zero, List.set_cons_succ]
  refine take_at (i := 8) (d := some 11) (v := ?_) rfl rfl (by kernel_rfl) (by kernel_rfl) (by kernel_rfl) (fun _ _ _ h => h) (Or.inl ⟨by rfl, ?_⟩) (by assumption) ?_
  rotate_left
  · intro w hSw; go_simp; try (with_reducible rfl)
  try simp only [Act.put, List.setIfInBounds_toArray, List.set_cons_zero, List.set_cons_succ]
  refine take_at (i := 9) (d := some 12) (v := ?_) rfl rfl (by kernel_rfl) (by kernel_rfl) (by kernel_rfl) (fun _ _ _ h => h) (Or.inl ⟨by rfl, ?_⟩) (by assumption) ?_
  rotate_left
  · intro w hSw; go_simp; try (with_reducible rfl)
  try simp only [Act.put, List.setIfInBounds_toArray, List.set_cons_zero, List.set_cons_succ]
  refine take_at (i := 10) (d := some 13) (v := undef) rfl rfl (by kernel_rfl) (by kernel_rfl) (by kernel_rfl) (fun _ _ _ h => h) (Or.inr ⟨by rfl, rfl⟩) (by assumption) ?_
  try simp only [Act.put, List.setIfInBounds_toArray, List.set_cons_zero, List.set_cons_succ]
  refine take_at (i := 11) (d := some 14) (v := undef) rfl rfl (by kernel_rfl) (by kernel_rfl) (by kernel_rfl) (fun _ _ _ h => h) (Or.inr ⟨by rfl, rfl⟩) (by assumption) ?_
  try simp only [Act.put, List.setIfInBounds_toArray, List.set_cons_zero, List.set_cons_succ]
  refine take_at (i := 12) (d := some 15) (v := undef) rfl rfl (by kernel_rfl) (by kernel_rfl) (by kernel_rfl) (fun _ _ _ h => h) (Or.inr ⟨by rfl, rfl⟩) (by assumption) ?_
  try simp only [Act.put, List.setIfInBounds_toArray, List.set_cons_zero, List.set_cons_succ]
  refine take_at (i := 13) (d := some 16) (v := ?_) rfl rfl (by kernel_rfl) (by kernel_rfl) (by kernel_rfl) (fun _ _ _ h => h) (Or.inl ⟨by rfl, ?_⟩) (by assumption) ?_
  rotate_left
  · intro w hSw; go_simp; try (with_reducible rfl)
  try simp only [Act.put, List.setIfInBounds_toArray, List.set_cons_zero, List.set_cons_succ]
  refine take_at (i := 14) (d := some 17) (v := ?_) rfl rfl (by kernel_rfl) (by kernel_rfl) (by kernel_rfl) (fun _ _ _ h => h) (Or.inl ⟨by rfl, ?_⟩) (by assumption) ?_
  rotate_left
  · intro w hSw; go_simp; try (with_reducible rfl)
  try simp only [Act.put, List.setIfInBounds_toArray, List.set_cons_zero, List.set_cons_succ]
  refine take_at (i := 15) (d := some 18) (v := undef) rfl rfl (by kernel_rfl) (by kernel_rfl) (by kernel_rfl) (fun _ _ _ h => h) (Or.inr ⟨by rfl, rfl⟩) (by assumption) ?_
  try simp only [Act.put, List.setIfInBounds_toArray, List.set_cons_zero, List.set_cons_succ]
  refine take_at (i := 16) (d := some 19) (v := undef) rfl rfl (by kernel_rfl) (by kernel_rfl) (by kernel_rfl) (fun _ _ _ h => h) (Or.inr ⟨by rfl, rfl⟩) (by assumption) ?_
  try simp only [Act.put, List.setIfInBounds_toArray, List.set_cons_zero, List.set_cons_succ]
  refine take_at (i := 17) (d := some 20) (v := undef) rfl rfl (by kernel_rfl) (by kernel_rfl) (by kernel_rfl) (fun _ _ _ h => h) (Or.inr ⟨by rfl, rfl⟩) (by assumption) ?_
  try simp only [Act.put, List.setIfInBounds_toArray, List.set_cons_zero, List.set_cons_succ]
  refine take_at (i := 18) (d := some 21) (v := undef) rfl rfl (by kernel_rfl) (by kernel_rfl) (by kernel_rfl) (fun _ _ _ h => h) (Or.inr ⟨by rfl, rfl⟩) (by assumption) ?_
  try simp only [Act.put, List.setIfInBounds_toArray, List.set_cons_zero, List.set_cons_succ]
  refine take_at (i := 19) (d := some 22) (v := ?_) rfl rfl (by kernel_rfl) (by kernel_rfl) (by kernel_rfl) (fun _ _ _ h => h) (Or.inl ⟨by rfl, ?_⟩) (by assumption) ?_
  rotate_left
  · intro w hSw; go_simp; try (with_reducible rfl)
  try simp only [Act.put, List.setIfInBounds_toArray, List.set_cons_zero, List.set_cons_succ]
  refine take_at (i := 20) (d := some 23) (v := ?_) rfl rfl (by kernel_rfl) (by kernel_rfl) (by kernel_rfl) (fun _ _ _ h => h) (Or.inl ⟨by rfl, ?_⟩) (by assumption) ?_
  rotate_left
  · intro w hSw; go_simp; try (with_reducible rfl)
  try simp only [Act.put, List.setIfInBounds_toArray, List.set_cons_zero, List.set_cons_succ]
  refine take_at (i := 21) (d := some 24) (v := undef) rfl rfl (by kernel_rfl) (by kernel_rfl) (by kernel_rfl) (fun _ _ _ h => h) (Or.inr ⟨by rfl, rfl⟩) (by assumption) ?_
  try simp only [Act.put, List.setIfInBounds_toArray, List.set_cons_zero, List.set_cons_succ]
  refine take_at (i := 22) (d := some 25) (v := undef) rfl rfl (by kernel_rfl) (by kernel_rfl) (by kernel_rfl) (fun _ _ _ h => h) (Or.inr ⟨by rfl, rfl⟩) (by assumption) ?_
  try simp only [Act.put, List.setIfInBounds_toArray, List.set_cons_zero, List.set_cons_succ]
  refine take_at (i := 23) (d := some 26) (v := undef) rfl rfl (by kernel_rfl) (by kernel_rfl) (by kernel_rfl) (fun _ _ _ h => h) (Or.inr ⟨by rfl, rfl⟩) (by assumption) ?_
  try simp only [Act.put, List.setIfInBounds_toArray, List.set_cons_zero, List.set_cons_succ]
  refine take_at (i := 24) (d := some 27) (v := undef) rfl rfl (by kernel_rfl) (by kernel_rfl) (by kernel_rfl) (fun _ _ _ h => h) (Or.inr ⟨by rfl, rfl⟩) (by assumption) ?_
  try simp only [Act.put, List.setIfInBounds_toArray, List.set_cons_zero, List.set_cons_succ]
  refine take_at (i := 25) (d := some 28) (v := undef) rfl rfl (by kernel_rfl) (by kernel_rfl) (by kernel_rfl) (fun _ _ _ h => h) (Or.inr ⟨by rfl, rfl⟩) (by assumption) ?_
  try simp only [Act.put, List.setIfInBounds_toArray, List.set_cons_zero, List.set_cons_succ]
  refine take_at (i := 26) (d := some 29) (v := undef) rfl rfl (by kernel_rfl) (by kernel_rfl) (by kernel_rfl) (fun _ _ _ h => h) (Or.inr ⟨by rfl, rfl⟩) (by assumption) ?_
  try simp only [Act.put, List.setIfInBounds_toArray, List.set_cons_zero, List.set_cons_succ]
  refine take_at (i := 27) (d := some 30) (v := undef) rfl rfl (by kernel_rfl) (by kernel_rfl) (by kernel_rfl) (fun _ _ _ h => h) (Or.inr ⟨by rfl, rfl⟩) (by assumption) ?_
  try simp only [Act.put, List.setIfInBounds_toArray, List.set_cons_zero, List.set_cons_succ]
  refine take_at (i := 28) (d := some 31) (v := ?_) rfl rfl (by kernel_rfl) (by kernel_rfl) (by kernel_rfl) (fun _ _ _ h => h) (Or.inl ⟨by rfl, ?_⟩) (by assumption) ?_
  rotate_left
  · intro w hSw; go_simp; try (with_reducible rfl)
  try simp only [Act.put, List.setIfInBounds_toArray, List.set_cons_zero, List.set_cons_succ]
  refine wpAnyH_done (by kernel_rfl) ?_ _
  go_wp2
  go_ret
  exact ⟨rfl, hF0.drew.trans hF1⟩

set_option maxHeartbeats 1000000 in
set_option maxRecDepth 1000000 in
theorem icheck_3 (s : ByteArray) (n : Int) (a : Option Addr) (cap : Nat) (xs : List (Int × Int)) (w : World) (C3 : RowKit.Hid (∀ w1, Calls Tryz.prog 50 #[.string s] w1 fun e w' => e = .returned (.bool (nameF s)) ∧ Fr No w1 w')) (HN : RowKit.Hid (nameF s = true)) (g0 : decide (n < 0) = false) (h : 1472 < n) :
    Calls Tryz.prog 128 #[.agg #[.string s, .int .i64 n, .slice a xs.length cap]] w fun e w' => e = .returned (.int .i64 110) ∧ Fr No w w' := by
  go_enter Tryz.func128, Tryz.ntmps128
  go_wp2
  have hF0 : Fr No w (w.alloc (Obj.cells #[.string s, .int .i64 n, .slice a xs.length cap] 95)) := (Fr.refl _ _).alloc _
  have hb0 := heap_new w (Obj.cells #[.string s, .int .i64 n, .slice a xs.length cap] 95)
  generalize w.alloc _ = W at *
  have c0 := heap_cell (o := 0) hb0 rfl
  have c1 := heap_cell (o := 1) hb0 rfl
  have c2 := heap_cell (o := 2) hb0 rfl
  clear hb0
  refine wp_region_held_drew (S := (fun w' => w'.cell? ⟨w.heap.size, 0, none⟩ = some (.string s) ∧ w'.cell? ⟨w.heap.size, 1, none⟩ = some (.int .i64 n) ∧ w'.cell? ⟨w.heap.size, 2, none⟩ = some (.slice a xs.length cap))) (by kernel_rfl) ⟨c0, c1, c2⟩ (fun hS0 => ?_)
  refine take_at (i := 0) (d := some 3) (v := ?_) rfl rfl (by kernel_rfl) (by kernel_rfl) (by kernel_rfl) (fun _ _ _ h => h) (Or.inl ⟨by rfl, ?_⟩) (by assumption) ?_
  rotate_left
  · intro w hSw; go_simp; try (with_reducible rfl)
  try simp only [Act.put, List.setIfInBounds_toArray, List.set_cons_zero, List.set_cons_succ]
  refine take_at (i := 1) (d := some 4) (v := ?_) rfl rfl (by kernel_rfl) (by kernel_rfl) (by kernel_rfl) (fun _ _ _ h => h) (Or.inl ⟨by rfl, ?_⟩) (by assumption) ?_
  rotate_left
  · intro w hSw; go_simp; try (with_reducible rfl)
  try simp only [Act.put, List.setIfInBounds_toArray, List.set_cons_zero, List.set_cons_succ]
  refine wpAnyH_ready (rs := [2]) (by kernel_rfl) (by simp) ?_
  refine AllReadyH.cons rfl (fun K hK => ?_) AllReadyH.nil
  go_simp
  go_wp2_with (go_at_call 50; ((with_reducible refine (C3.out _).mono ?_); rintro e w1 ⟨rfl, hF1⟩; rw [HN.out]; have d0 := hF1.cell (o := 0) c0 (fun h => h); have d1 := hF1.cell (o := 1) c1 (fun h => h); have d2 := hF1.cell (o := 2) c2 (fun h => h)))
  refine hK.out _ _ ?_ (fun hHeld => ?_)
  · exact ⟨d0, d1, d2⟩
  clear hK K
  try simp only [Act.put, List.setIfInBounds_toArray, List.set_cons_zero, List.set_cons_succ]
  refine take_at (i := 3) (d := some 6) (v := ?_) rfl rfl (by kernel_rfl) (by kernel_rfl) (by kernel_rfl) (fun _ _ _ h => h) (Or.inl ⟨by rfl, ?_⟩) (by assumption) ?_
  rotate_left
  · intro w hSw; go_simp; try (with_reducible rfl)
  try simp only [Act.put, List.setIfInBounds_toArray, List.set_cons_zero, List.set_cons_succ]
  refine take_at (i := 4) (d := some 7) (v := ?_) rfl rfl (by kernel_rfl) (by kernel_rfl) (by kernel_rfl) (fun _ _ _ h => h) (Or.inl ⟨by rfl, ?_⟩) (by assumption) ?_
  rotate_left
  · intro w hSw; go_simp; try (with_reducible rfl)
  try simp only [Act.put, List.setIfInBounds_toArray, List.set_cons_zero, List.set_cons_succ]
  refine take_at (i := 5) (d := some 8) (v := ?_) rfl rfl (by kernel_rfl) (by kernel_rfl) (by kernel_rfl) (fun _ _ _ h => h) (Or.inl ⟨by rfl, ?_⟩) (by assumption) ?_
  rotate_left
  · intro w hSw; go_simp; try (with_reducible rfl)
  try simp only [Act.put, List.setIfInBounds_toArray, List.set_cons_zero, List.set_cons_succ]
  refine take_at (i := 6) (d := some 9) (v := ?_) rfl rfl (by kernel_rfl) (by kernel_rfl) (by kernel_rfl) (fun _ _ _ h => h) (Or.inl ⟨by rfl, ?_⟩) (by assumption) ?_
  rotate_left
  · intro w hSw; go_simp; try (with_reducible rfl)
  try simp only [Act.put, List.setIfInBounds_toArray, List.set_cons_zero, List.set_cons_succ]
  refine take_at (i := 7) (d := some 10) (v := ?_) rfl rfl (by kernel_rfl) (by kernel_rfl) (by kernel_rfl) (fun _ _ _ h => h) (Or.inl ⟨by rfl, ?_⟩) (by assumption) ?_
  rotate_left
  · intro w hSw; go_simp; try (with_reducible rfl)
  try simp only [Act.put, List.setIfInBounds_toArray, List.set_cons_zero, List.set_cons_succ]
  refine take_at (i := 8) (d := some 11) (v := ?_) rfl rfl (by kernel_rfl) (by kernel_rfl) (by kernel_rfl) (fun _ _ _ h => h) (Or.inl ⟨by rfl, ?_⟩) (by assumption) ?_
  rotate_left
  · intro w hSw; go_simp; try (with_reducible rfl)
  try simp only [Act.put, List.setIfInBounds_toArray, List.set_cons_zero, List.set_cons_succ]
  refine take_at (i := 9) (d := some 12) (v := ?_) rfl rfl (by kernel_rfl) (by kernel_rfl) (by kernel_rfl) (fun _ _ _ h => h) (Or.inl ⟨by rfl, ?_⟩) (by assumption) ?_
  rotate_left
  · intro w hSw; go_simp; try (with_reducible rfl)
  try simp only [Act.put, List.setIfInBounds_toArray, List.set_cons_zero, List.set_cons_succ]
  refine take_at (i := 10) (d := some 13) (v := ?_) rfl rfl (by kernel_rfl) (by kernel_rfl) (by kernel_rfl) (fun _ _ _ h => h) (Or.inl ⟨by rfl, ?_⟩) (by assumption) ?_
  rotate_left
  · intro w hSw; go_simp; try (with_reducible rfl)
  try simp only [Act.put, List.setIfInBounds_toArray, List.set_cons_zero, List.set_cons_succ]
  refine take_at (i := 11) (d := some 14) (v := ?_) rfl rfl (by kernel_rfl) (by kernel_rfl) (by kernel_rfl) (fun _ _ _ h => h) (Or.inl ⟨by rfl, ?_⟩) (by assumption) ?_
  rotate_left
  · intro w hSw; go_simp; try (with_reducible rfl)
  try simp only [Act.put, List.setIfInBounds_toArray, List.set_cons_zero, List.set_cons_succ]
  refine take_at (i := 12) (d := some 15) (v := ?_) rfl rfl (by kernel_rfl) (by kernel_rfl) (by kernel_rfl) (fun _ _ _ h => h) (Or.inl ⟨by rfl, ?_⟩) (by assumption) ?_
  rotate_left
  · intro w hSw; go_simp; try (with_reducible rfl)
  try simp only [Act.put, List.setIfInBounds_toArray, List.set_cons_zero, List.set_cons_succ]
  refine take_at (i := 13) (d := some 16) (v := ?_) rfl rfl (by kernel_rfl) (by kernel_rfl) (by kernel_rfl) (fun _ _ _ h => h) (Or.inl ⟨by rfl, ?_⟩) (by assumption) ?_
  rotate_left
  · intro w hSw; go_simp; try (with_reducible rfl)
  try simp only [Act.put, List.setIfInBounds_toArray, List.set_cons_zero, List.set_cons_succ]
  refine take_at (i := 14) (d := some 17) (v := ?_) rfl rfl (by kernel_rfl) (by kernel_rfl) (by kernel_rfl) (fun _ _ _ h => h) (Or.inl ⟨by rfl, ?_⟩) (by assumption) ?_
  rotate_left
  · intro w hSw; go_simp; try (with_reducible rfl)
  try simp only [Act.put, List.setIfInBounds_toArray, List.set_cons_zero, List.set_cons_succ]
  refine take_at (i := 15) (d := some 18) (v := undef) rfl rfl (by kernel_rfl) (by kernel_rfl) (by kernel_rfl) (fun _ _ _ h => h) (Or.inr ⟨by rfl, rfl⟩) (by assumption) ?_
  try simp only [Act.put, List.setIfInBounds_toArray, List.set_cons_zero, List.set_cons_succ]
  refine take_at (i := 16) (d := some 19) (v := undef) rfl rfl (by kernel_rfl) (by kernel_rfl) (by kernel_rfl) (fun _ _ _ h => h) (Or.inr ⟨by rfl, rfl⟩) (by assumption) ?_
  try simp only [Act.put, List.setIfInBounds_toArray, List.set_cons_zero, List.set_cons_succ]
  refine take_at (i := 17) (d := some 20) (v := undef) rfl rfl (by kernel_rfl) (by kernel_rfl) (by kernel_rfl) (fun _ _ _ h => h) (Or.inr ⟨by rfl, rfl⟩) (by assumption) ?_
  try simp only [Act.put, List.setIfInBounds_toArray, List.set_cons_zero, List.set_cons_succ]
  refine take_at (i := 18) (d := some 21) (v := undef) rfl rfl (by kernel_rfl) (by kernel_rfl) (by kernel_rfl) (fun _ _ _ h => h) (Or.inr ⟨by rfl, rfl⟩) (by assumption) ?_
  try simp only [Act.put, List.setIfInBounds_toArray, List.set_cons_zero, List.set_cons_succ]
  refine take_at (i := 19) (d := some 22) (v := ?_) rfl rfl (by kernel_rfl) (by kernel_rfl) (by kernel_rfl) (fun _ _ _ h => h) (Or.inl ⟨by rfl, ?_⟩) (by assumption) ?_
  rotate_left
  · intro w hSw; go_simp; try (with_reducible rfl)
  try simp only [Act.put, List.setIfInBounds_toArray, List.set_cons_zero, List.set_cons_succ]
  refine take_at (i := 20) (d := some 23) (v := ?_) rfl rfl (by kernel_rfl) (by kernel_rfl) (by kernel_rfl) (fun _ _ _ h => h) (Or.inl ⟨by rfl, ?_⟩) (by assumption) ?_
  rotate_left
  · intro w hSw; go_simp; try (with_reducible rfl)
  try simp only [Act.put, List.setIfInBounds_toArray, List.set_cons_zero, List.set_cons_succ]
  refine take_at (i := 21) (d := some 24) (v := undef) rfl rfl (by kernel_rfl) (by kernel_rfl) (by kernel_rfl) (fun _ _ _ h => h) (Or.inr ⟨by rfl, rfl⟩) (by assumption) ?_
  try simp only [Act.put, List.setIfInBounds_toArray, List.set_cons_zero, List.set_cons_succ]
  refine take_at (i := 22) (d := some 25) (v := undef) rfl rfl (by kernel_rfl) (by kernel_rfl) (by kernel_rfl) (fun _ _ _ h => h) (Or.inr ⟨by rfl, rfl⟩) (by assumption) ?_
  try simp only [Act.put, List.setIfInBounds_toArray, List.set_cons_zero, List.set_cons_succ]
  refine take_at (i := 23) (d := some 26) (v := undef) rfl rfl (by kernel_rfl) (by kernel_rfl) (by kernel_rfl) (fun _ _ _ h => h) (Or.inr ⟨by rfl, rfl⟩) (by assumption) ?_
  try simp only [Act.put, List.setIfInBounds_toArray, List.set_cons_zero, List.set_cons_succ]
  refine take_at (i := 24) (d := some 27) (v := undef) rfl rfl (by kernel_rfl) (by kernel_rfl) (by kernel_rfl) (fun _ _ _ h => h) (Or.inr ⟨by rfl, rfl⟩) (by assumption) ?_
  try simp only [Act.put, List.setIfInBounds_toArray, List.set_cons_zero, List.set_cons_succ]
  refine take_at (i := 25) (d := some 28) (v := undef) rfl rfl (by kernel_rfl) (by kernel_rfl) (by kernel_rfl) (fun _ _ _ h => h) (Or.inr ⟨by rfl, rfl⟩) (by assumption) ?_
  try simp only [Act.put, List.setIfInBounds_toArray, List.set_cons_zero, List.set_cons_succ]
  refine take_at (i := 26) (d := some 29) (v := undef) rfl rfl (by kernel_rfl) (by kernel_rfl) (by kernel_rfl) (fun _ _ _ h => h) (Or.inr ⟨by rfl, rfl⟩) (by assumption) ?_
  try simp only [Act.put, List.setIfInBounds_toArray, List.set_cons_zero, List.set_cons_succ]
  refine take_at (i := 27) (d := some 30) (v := undef) rfl rfl (by kernel_rfl) (by kernel_rfl) (by kernel_rfl) (fun _ _ _ h => h) (Or.inr ⟨by rfl, rfl⟩) (by assumption) ?_
  try simp only [Act.put, List.setIfInBounds_toArray, List.set_cons_zero, List.set_cons_succ]
  refine take_at (i := 28) (d := some 31) (v := ?_) rfl rfl (by kernel_rfl) (by kernel_rfl) (by kernel_rfl) (fun _ _ _ h => h) (Or.inl ⟨by rfl, ?_⟩) (by assumption) ?_
  rotate_left
  · intro w hSw; go_simp; try (with_reducible rfl)
  try simp only [Act.put, List.setIfInBounds_toArray, List.set_cons_zero, List.set_cons_succ]
  refine wpAnyH_done (by kernel_rfl) ?_ _
  go_wp2
  go_ret
  exact ⟨rfl, hF0.drew.trans hF1⟩

set_option maxHeartbeats 1000000 in
set_option maxRecDepth 1000000 in
theorem icheck_4 (s : ByteArray) (n : Int) (a : Option Addr) (cap : Nat) (xs : List (Int × Int)) (w : World) (C3 : RowKit.Hid (∀ w1, Calls Tryz.prog 50 #[.string s] w1 fun e w' => e = .returned (.bool (nameF s)) ∧ Fr No w1 w')) (C1 : RowKit.Hid (∀ w1, Fr No w w1 → Calls Tryz.prog 131 #[.slice a xs.length cap] w1 fun e w' => e = .returned (.int .i64 (checkN xs)) ∧ Fr No w1 w')) (HN : RowKit.Hid (nameF s = true)) (HC : RowKit.Hid (checkN xs = 1)) (g0 : decide (n < 0) = false) (g1 : decide (1472 < n) = false) :
    Calls Tryz.prog 128 #[.agg #[.string s, .int .i64 n, .slice a xs.length cap]] w fun e w' => e = .returned (.int .i64 110) ∧ Fr No w w' := by
  go_enter Tryz.func128, Tryz.ntmps128
  go_wp2
  have hF0 : Fr No w (w.alloc (Obj.cells #[.string s, .int .i64 n, .slice a xs.length cap] 95)) := (Fr.refl _ _).alloc _
  have hb0 := heap_new w (Obj.cells #[.string s, .int .i64 n, .slice a xs.length cap] 95)
  generalize w.alloc _ = W at *
  have c0 := heap_cell (o := 0) hb0 rfl
  have c1 := heap_cell (o := 1) hb0 rfl
  have c2 := heap_cell (o := 2) hb0 rfl
  clear hb0
  refine wp_region_held_drew (S := (fun w' => w'.cell? ⟨w.heap.size, 0, none⟩ = some (.string s) ∧ w'.cell? ⟨w.heap.size, 1, none⟩ = some (.int .i64 n) ∧ w'.cell? ⟨w.heap.size, 2, none⟩ = some (.slice a xs.length cap))) (by kernel_rfl) ⟨c0, c1, c2⟩ (fun hS0 => ?_)
  refine take_at (i := 0) (d := some 3) (v := ?_) rfl rfl (by kernel_rfl) (by kernel_rfl) (by kernel_rfl) (fun _ _ _ h => h) (Or.inl ⟨by rfl, ?_⟩) (by assumption) ?_
  rotate_left
  · intro w hSw; go_simp; try (with_reducible rfl)
  try simp only [Act.put, List.setIfInBounds_toArray, List.set_cons_zero, List.set_cons_succ]
  refine take_at (i := 1) (d := some 4) (v := ?_) rfl rfl (by kernel_rfl) (by kernel_rfl) (by kernel_rfl) (fun _ _ _ h => h) (Or.inl ⟨by rfl, ?_⟩) (by assumption) ?_
  rotate_left
  · intro w hSw; go_simp; try (with_reducible rfl)
  try simp only [Act.put, List.setIfInBounds_toArray, List.set_cons_zero, List.set_cons_succ]
  refine wpAnyH_ready (rs := [2]) (by kernel_rfl) (by simp) ?_
  refine AllReadyH.cons rfl (fun K hK => ?_) AllReadyH.nil
  go_simp
  go_wp2_with (go_at_call 50; ((with_reducible refine (C3.out _).mono ?_); rintro e w1 ⟨rfl, hF1⟩; rw [HN.out]; have d0 := hF1.cell (o := 0) c0 (fun h => h); have d1 := hF1.cell (o := 1) c1 (fun h => h); have d2 := hF1.cell (o := 2) c2 (fun h => h)))
  refine hK.out _ _ ?_ (fun hHeld => ?_)
  · exact ⟨d0, d1, d2⟩
  clear hK K
  try simp only [Act.put, List.setIfInBounds_toArray, List.set_cons_zero, List.set_cons_succ]
  refine take_at (i := 3) (d := some 6) (v := ?_) rfl rfl (by kernel_rfl) (by kernel_rfl) (by kernel_rfl) (fun _ _ _ h => h) (Or.inl ⟨by rfl, ?_⟩) (by assumption) ?_
  rotate_left
  · intro w hSw; go_simp; try (with_reducible rfl)
  try simp only [Act.put, List.setIfInBounds_toArray, List.set_cons_zero, List.set_cons_succ]
  refine take_at (i := 4) (d := some 7) (v := ?_) rfl rfl (by kernel_rfl) (by kernel_rfl) (by kernel_rfl) (fun _ _ _ h => h) (Or.inl ⟨by rfl, ?_⟩) (by assumption) ?_
  rotate_left
  · intro w hSw; go_simp; try (with_reducible rfl)
  try simp only [Act.put, List.setIfInBounds_toArray, List.set_cons_zero, List.set_cons_succ]
  refine take_at (i := 5) (d := some 8) (v := ?_) rfl rfl (by kernel_rfl) (by kernel_rfl) (by kernel_rfl) (fun _ _ _ h => h) (Or.inl ⟨by rfl, ?_⟩) (by assumption) ?_
  rotate_left
  · intro w hSw; go_simp; try (with_reducible rfl)
  try simp only [Act.put, List.setIfInBounds_toArray, List.set_cons_zero, List.set_cons_succ]
  refine take_at (i := 6) (d := some 9) (v := ?_) rfl rfl (by kernel_rfl) (by kernel_rfl) (by kernel_rfl) (fun _ _ _ h => h) (Or.inl ⟨by rfl, ?_⟩) (by assumption) ?_
  rotate_left
  · intro w hSw; go_simp; try (with_reducible rfl)
  try simp only [Act.put, List.setIfInBounds_toArray, List.set_cons_zero, List.set_cons_succ]
  refine take_at (i := 7) (d := some 10) (v := ?_) rfl rfl (by kernel_rfl) (by kernel_rfl) (by kernel_rfl) (fun _ _ _ h => h) (Or.inl ⟨by rfl, ?_⟩) (by assumption) ?_
  rotate_left
  · intro w hSw; go_simp; try (with_reducible rfl)
  try simp only [Act.put, List.setIfInBounds_toArray, List.set_cons_zero, List.set_cons_succ]
  refine take_at (i := 8) (d := some 11) (v := ?_) rfl rfl (by kernel_rfl) (by kernel_rfl) (by kernel_rfl) (fun _ _ _ h => h) (Or.inl ⟨by rfl, ?_⟩) (by assumption) ?_
  rotate_left
  · intro w hSw; go_simp; try (with_reducible rfl)
  try simp only [Act.put, List.setIfInBounds_toArray, List.set_cons_zero, List.set_cons_succ]
  refine take_at (i := 9) (d := some 12) (v := ?_) rfl rfl (by kernel_rfl) (by kernel_rfl) (by kernel_rfl) (fun _ _ _ h => h) (Or.inl ⟨by rfl, ?_⟩) (by assumption) ?_
  rotate_left
  · intro w hSw; go_simp; try (with_reducible rfl)
  try simp only [Act.put, List.setIfInBounds_toArray, List.set_cons_zero, List.set_cons_succ]
  refine take_at (i := 10) (d := some 13) (v := ?_) rfl rfl (by kernel_rfl) (by kernel_rfl) (by kernel_rfl) (fun _ _ _ h => h) (Or.inl ⟨by rfl, ?_⟩) (by assumption) ?_
  rotate_left
  · intro w hSw; go_simp; try (with_reducible rfl)
  try simp only [Act.put, List.setIfInBounds_toArray, List.set_cons_zero, List.set_cons_succ]
  refine take_at (i := 11) (d := some 14) (v := ?_) rfl rfl (by kernel_rfl) (by kernel_rfl) (by kernel_rfl) (fun _ _ _ h => h) (Or.inl ⟨by rfl, ?_⟩) (by assumption) ?_
  rotate_left
  · intro w hSw; go_simp; try (with_reducible rfl)
  try simp only [Act.put, List.setIfInBounds_toArray, List.set_cons_zero, List.set_cons_succ]
  refine take_at (i := 12) (d := some 15) (v := ?_) rfl rfl (by kernel_rfl) (by kernel_rfl) (by kernel_rfl) (fun _ _ _ h => h) (Or.inl ⟨by rfl, ?_⟩) (by assumption) ?_
  rotate_left
  · intro w hSw; go_simp; try (with_reducible rfl)
  try simp only [Act.put, List.setIfInBounds_toArray, List.set_cons_zero, List.set_cons_succ]
  refine take_at (i := 13) (d := some 16) (v := ?_) rfl rfl (by kernel_rfl) (by kernel_rfl) (by kernel_rfl) (fun _ _ _ h => h) (Or.inl ⟨by rfl, ?_⟩) (by assumption) ?_
  rotate_left
  · intro w hSw; go_simp; try (with_reducible rfl)
  try simp only [Act.put, List.setIfInBounds_toArray, List.set_cons_zero, List.set_cons_succ]
  refine take_at (i := 14) (d := some 17) (v := ?_) rfl rfl (by kernel_rfl) (by kernel_rfl) (by kernel_rfl) (fun _ _ _ h => h) (Or.inl ⟨by rfl, ?_⟩) (by assumption) ?_
  rotate_left
  · intro w hSw; go_simp; try (with_reducible rfl)
  try simp only [Act.put, List.setIfInBounds_toArray, List.set_cons_zero, List.set_cons_succ]
  refine take_at (i := 15) (d := some 18) (v := ?_) rfl rfl (by kernel_rfl) (by kernel_rfl) (by kernel_rfl) (fun _ _ _ h => h) (Or.inl ⟨by rfl, ?_⟩) (by assumption) ?_
  rotate_left
  · intro w hSw; go_simp; try (with_reducible rfl)
  try simp only [Act.put, List.setIfInBounds_toArray, List.set_cons_zero, List.set_cons_succ]
  refine take_at (i := 16) (d := some 19) (v := ?_) rfl rfl (by kernel_rfl) (by kernel_rfl) (by kernel_rfl) (fun _ _ _ h => h) (Or.inl ⟨by rfl, ?_⟩) (by assumption) ?_
  rotate_left
  · intro w hSw; go_simp; try (with_reducible rfl)
  try simp only [Act.put, List.setIfInBounds_toArray, List.set_cons_zero, List.set_cons_succ]
  refine wpAnyH_ready (rs := [17]) (by kernel_rfl) (by simp) ?_
  refine AllReadyH.cons rfl (fun K hK => ?_) AllReadyH.nil
  go_simp
  go_wp2_with (go_at_call 131; ((with_reducible refine (C1.out _ (hF0.drew.trans hF1)).mono ?_); rintro e w2 ⟨rfl, hF2⟩; rw [HC.out]; have e0 := hF2.cell (o := 0) d0 (fun h => h); have e1 := hF2.cell (o := 1) d1 (fun h => h); have e2 := hF2.cell (o := 2) d2 (fun h => h)))
  refine hK.out _ _ ?_ (fun hHeld => ?_)
  · exact ⟨e0, e1, e2⟩
  clear hK K
  try simp only [Act.put, List.setIfInBounds_toArray, List.set_cons_zero, List.set_cons_succ]
  refine take_at (i := 18) (d := some 21) (v := ?_) rfl rfl (by kernel_rfl) (by kernel_rfl) (by kernel_rfl) (fun _ _ _ h => h) (Or.inl ⟨by rfl, ?_⟩) (by assumption) ?_
  rotate_left
  · intro w hSw; go_simp; try (with_reducible rfl)
  try simp only [Act.put, List.setIfInBounds_toArray, List.set_cons_zero, List.set_cons_succ]
  refine take_at (i := 19) (d := some 22) (v := ?_) rfl rfl (by kernel_rfl) (by kernel_rfl) (by kernel_rfl) (fun _ _ _ h => h) (Or.inl ⟨by rfl, ?_⟩) (by assumption) ?_
  rotate_left
  · intro w hSw; go_simp; try (with_reducible rfl)
  try simp only [Act.put, List.setIfInBounds_toArray, List.set_cons_zero, List.set_cons_succ]
  refine take_at (i := 20) (d := some 23) (v := ?_) rfl rfl (by kernel_rfl) (by kernel_rfl) (by kernel_rfl) (fun _ _ _ h => h) (Or.inl ⟨by rfl, ?_⟩) (by assumption) ?_
  rotate_left
  · intro w hSw; go_simp; try (with_reducible rfl)
  try simp only [Act.put, List.setIfInBounds_toArray, List.set_cons_zero, List.set_cons_succ]
  refine take_at (i := 21) (d := some 24) (v := undef) rfl rfl (by kernel_rfl) (by kernel_rfl) (by kernel_rfl) (fun _ _ _ h => h) (Or.inr ⟨by rfl, rfl⟩) (by assumption) ?_
  try simp only [Act.put, List.setIfInBounds_toArray, List.set_cons_zero, List.set_cons_succ]
  refine take_at (i := 22) (d := some 25) (v := undef) rfl rfl (by kernel_rfl) (by kernel_rfl) (by kernel_rfl) (fun _ _ _ h => h) (Or.inr ⟨by rfl, rfl⟩) (by assumption) ?_
  try simp only [Act.put, List.setIfInBounds_toArray, List.set_cons_zero, List.set_cons_succ]
  refine take_at (i := 23) (d := some 26) (v := undef) rfl rfl (by kernel_rfl) (by kernel_rfl) (by kernel_rfl) (fun _ _ _ h => h) (Or.inr ⟨by rfl, rfl⟩) (by assumption) ?_
  try simp only [Act.put, List.setIfInBounds_toArray, List.set_cons_zero, List.set_cons_succ]
  refine take_at (i := 24) (d := some 27) (v := undef) rfl rfl (by kernel_rfl) (by kernel_rfl) (by kernel_rfl) (fun _ _ _ h => h) (Or.inr ⟨by rfl, rfl⟩) (by assumption) ?_
  try simp only [Act.put, List.setIfInBounds_toArray, List.set_cons_zero, List.set_cons_succ]
  refine take_at (i := 25) (d := some 28) (v := undef) rfl rfl (by kernel_rfl) (by kernel_rfl) (by kernel_rfl) (fun _ _ _ h => h) (Or.inr ⟨by rfl, rfl⟩) (by assumption) ?_
  try simp only [Act.put, List.setIfInBounds_toArray, List.set_cons_zero, List.set_cons_succ]
  refine take_at (i := 26) (d := some 29) (v := undef) rfl rfl (by kernel_rfl) (by kernel_rfl) (by kernel_rfl) (fun _ _ _ h => h) (Or.inr ⟨by rfl, rfl⟩) (by assumption) ?_
  try simp only [Act.put, List.setIfInBounds_toArray, List.set_cons_zero, List.set_cons_succ]
  refine take_at (i := 27) (d := some 30) (v := undef) rfl rfl (by kernel_rfl) (by kernel_rfl) (by kernel_rfl) (fun _ _ _ h => h) (Or.inr ⟨by rfl, rfl⟩) (by assumption) ?_
  try simp only [Act.put, List.setIfInBounds_toArray, List.set_cons_zero, List.set_cons_succ]
  refine take_at (i := 28) (d := some 31) (v := ?_) rfl rfl (by kernel_rfl) (by kernel_rfl) (by kernel_rfl) (fun _ _ _ h => h) (Or.inl ⟨by rfl, ?_⟩) (by assumption) ?_
  rotate_left
  · intro w hSw; go_simp; try (with_reducible rfl)
  try simp only [Act.put, List.setIfInBounds_toArray, List.set_cons_zero, List.set_cons_succ]
  refine wpAnyH_done (by kernel_rfl) ?_ _
  go_wp2
  go_ret
  exact ⟨rfl, (hF0.drew.trans hF1).trans hF2⟩

set_option maxHeartbeats 1000000 in
set_option maxRecDepth 1000000 in
theorem icheck_5 (s : ByteArray) (n : Int) (a : Option Addr) (cap : Nat) (xs : List (Int × Int)) (w : World) (C3 : RowKit.Hid (∀ w1, Calls Tryz.prog 50 #[.string s] w1 fun e w' => e = .returned (.bool (nameF s)) ∧ Fr No w1 w')) (C1 : RowKit.Hid (∀ w1, Fr No w w1 → Calls Tryz.prog 131 #[.slice a xs.length cap] w1 fun e w' => e = .returned (.int .i64 (checkN xs)) ∧ Fr No w1 w')) (C2 : RowKit.Hid (∀ w1, Fr No w w1 → Calls Tryz.prog 116 #[.slice a xs.length cap] w1 fun e w' => e = .returned (.int .i64 (listF xs).length) ∧ Fr No w1 w')) (C4 : RowKit.Hid (∀ w1, Calls Tryz.prog 117 #[.int .i64 n] w1 fun e w' => e = .returned (.int .i64 (needF n)) ∧ w1 = w')) (HN : RowKit.Hid (nameF s = true)) (HC : RowKit.Hid (checkN xs = 0)) (g0 : decide (n < 0) = false) (g1 : decide (1472 < n) = false) (hd : (((listF xs).length : Int) != needF n) = false) :
    Calls Tryz.prog 128 #[.agg #[.string s, .int .i64 n, .slice a xs.length cap]] w fun e w' => e = .returned (.int .i64 0) ∧ Fr No w w' := by
  go_enter Tryz.func128, Tryz.ntmps128
  go_wp2
  have hF0 : Fr No w (w.alloc (Obj.cells #[.string s, .int .i64 n, .slice a xs.length cap] 95)) := (Fr.refl _ _).alloc _
  have hb0 := heap_new w (Obj.cells #[.string s, .int .i64 n, .slice a xs.length cap] 95)
  generalize w.alloc _ = W at *
  have c0 := heap_cell (o := 0) hb0 rfl
  have c1 := heap_cell (o := 1) hb0 rfl
  have c2 := heap_cell (o := 2) hb0 rfl
  clear hb0
  refine wp_region_held_drew (S := (fun w' => w'.cell? ⟨w.heap.size, 0, none⟩ = some (.string s) ∧ w'.cell? ⟨w.heap.size, 1, none⟩ = some (.int .i64 n) ∧ w'.cell? ⟨w.heap.size, 2, none⟩ = some (.slice a xs.length cap))) (by kernel_rfl) ⟨c0, c1, c2⟩ (fun hS0 => ?_)
  refine take_at (i := 0) (d := some 3) (v := ?_) rfl rfl (by kernel_rfl) (by kernel_rfl) (by kernel_rfl) (fun _ _ _ h => h) (Or.inl ⟨by rfl, ?_⟩) (by assumption) ?_
  rotate_left
  · intro w hSw; go_simp; try (with_reducible rfl)
  try simp only [Act.put, List.setIfInBounds_toArray, List.set_cons_zero, List.set_cons_succ]
  refine take_at (i := 1) (d := some 4) (v := ?_) rfl rfl (by kernel_rfl) (by kernel_rfl) (by kernel_rfl) (fun _ _ _ h => h) (Or.inl ⟨by rfl, ?_⟩) (by assumption) ?_
  rotate_left
  · intro w hSw; go_simp; try (with_reducible rfl)
  try simp only [Act.put, List.setIfInBounds_toArray, List.set_cons_zero, List.set_cons_succ]
  refine wpAnyH_ready (rs := [2]) (by kernel_rfl) (by simp) ?_
  refine AllReadyH.cons rfl (fun K hK => ?_) AllReadyH.nil
  go_simp
  go_wp2_with (go_at_call 50; ((with_reducible refine (C3.out _).mono ?_); rintro e w1 ⟨rfl, hF1⟩; rw [HN.out]; have d0 := hF1.cell (o := 0) c0 (fun h => h); have d1 := hF1.cell (o := 1) c1 (fun h => h); have d2 := hF1.cell (o := 2) c2 (fun h => h)))
  refine hK.out _ _ ?_ (fun hHeld => ?_)
  · exact ⟨d0, d1, d2⟩
  clear hK K
  try simp only [Act.put, List.setIfInBounds_toArray, List.set_cons_zero, List.set_cons_succ]
  refine take_at (i := 3) (d := some 6) (v := ?_) rfl rfl (by kernel_rfl) (by kernel_rfl) (by kernel_rfl) (fun _ _ _ h => h) (Or.inl ⟨by rfl, ?_⟩) (by assumption) ?_
  rotate_left
  · intro w hSw; go_simp; try (with_reducible rfl)
  try simp only [Act.put, List.setIfInBounds_toArray, List.set_cons_zero, List.set_cons_succ]
  refine take_at (i := 4) (d := some 7) (v := ?_) rfl rfl (by kernel_rfl) (by kernel_rfl) (by kernel_rfl) (fun _ _ _ h => h) (Or.inl ⟨by rfl, ?_⟩) (by assumption) ?_
  rotate_left
  · intro w hSw; go_simp; try (with_reducible rfl)
  try simp only [Act.put, List.setIfInBounds_toArray, List.set_cons_zero, List.set_cons_succ]
  refine take_at (i := 5) (d := some 8) (v := ?_) rfl rfl (by kernel_rfl) (by kernel_rfl) (by kernel_rfl) (fun _ _ _ h => h) (Or.inl ⟨by rfl, ?_⟩) (by assumption) ?_
  rotate_left
  · intro w hSw; go_simp; try (with_reducible rfl)
  try simp only [Act.put, List.setIfInBounds_toArray, List.set_cons_zero, List.set_cons_succ]
  refine take_at (i := 6) (d := some 9) (v := ?_) rfl rfl (by kernel_rfl) (by kernel_rfl) (by kernel_rfl) (fun _ _ _ h => h) (Or.inl ⟨by rfl, ?_⟩) (by assumption) ?_
  rotate_left
  · intro w hSw; go_simp; try (with_reducible rfl)
  try simp only [Act.put, List.setIfInBounds_toArray, List.set_cons_zero, List.set_cons_succ]
  refine take_at (i := 7) (d := some 10) (v := ?_) rfl rfl (by kernel_rfl) (by kernel_rfl) (by kernel_rfl) (fun _ _ _ h => h) (Or.inl ⟨by rfl, ?_⟩) (by assumption) ?_
  rotate_left
  · intro w hSw; go_simp; try (with_reducible rfl)
  try simp only [Act.put, List.setIfInBounds_toArray, List.set_cons_zero, List.set_cons_succ]
  refine take_at (i := 8) (d := some 11) (v := ?_) rfl rfl (by kernel_rfl) (by kernel_rfl) (by kernel_rfl) (fun _ _ _ h => h) (Or.inl ⟨by rfl, ?_⟩) (by assumption) ?_
  rotate_left
  · intro w hSw; go_simp; try (with_reducible rfl)
  try simp only [Act.put, List.setIfInBounds_toArray, List.set_cons_zero, List.set_cons_succ]
  refine take_at (i := 9) (d := some 12) (v := ?_) rfl rfl (by kernel_rfl) (by kernel_rfl) (by kernel_rfl) (fun _ _ _ h => h) (Or.inl ⟨by rfl, ?_⟩) (by assumption) ?_
  rotate_left
  · intro w hSw; go_simp; try (with_reducible rfl)
  try simp only [Act.put, List.setIfInBounds_toArray, List.set_cons_zero, List.set_cons_succ]
  refine take_at (i := 10) (d := some 13) (v := ?_) rfl rfl (by kernel_rfl) (by kernel_rfl) (by kernel_rfl) (fun _ _ _ h => h) (Or.inl ⟨by rfl, ?_⟩) (by assumption) ?_
  rotate_left
  · intro w hSw; go_simp; try (with_reducible rfl)
  try simp only [Act.put, List.setIfInBounds_toArray, List.set_cons_zero, List.set_cons_succ]
  refine take_at (i := 11) (d := some 14) (v := ?_) rfl rfl (by kernel_rfl) (by kernel_rfl) (by kernel_rfl) (fun _ _ _ h => h) (Or.inl ⟨by rfl, ?_⟩) (by assumption) ?_
  rotate_left
  · intro w hSw; go_simp; try (with_reducible rfl)
  try simp only [Act.put, List.setIfInBounds_toArray, List.set_cons_zero, List.set_cons_succ]
  refine take_at (i := 12) (d := some 15) (v := ?_) rfl rfl (by kernel_rfl) (by kernel_rfl) (by kernel_rfl) (fun _ _ _ h => h) (Or.inl ⟨by rfl, ?_⟩) (by assumption) ?_
  rotate_left
  · intro w hSw; go_simp; try (with_reducible rfl)
  try simp only [Act.put, List.setIfInBounds_toArray, List.set_cons_zero, List.set_cons_succ]
  refine take_at (i := 13) (d := some 16) (v := ?_) rfl rfl (by kernel_rfl) (by kernel_rfl) (by kernel_rfl) (fun _ _ _ h => h) (Or.inl ⟨by rfl, ?_⟩) (by assumption) ?_
  rotate_left
  · intro w hSw; go_simp; try (with_reducible rfl)
  try simp only [Act.put, List.setIfInBounds_toArray, List.set_cons_zero, List.set_cons_succ]
  refine take_at (i := 14) (d := some 17) (v := ?_) rfl rfl (by kernel_rfl) (by kernel_rfl) (by kernel_rfl) (fun _ _ _ h => h) (Or.inl ⟨by rfl, ?_⟩) (by assumption) ?_
  rotate_left
  · intro w hSw; go_simp; try (with_reducible rfl)
  try simp only [Act.put, List.setIfInBounds_toArray, List.set_cons_zero, List.set_cons_succ]
  refine take_at (i := 15) (d := some 18) (v := ?_) rfl rfl (by kernel_rfl) (by kernel_rfl) (by kernel_rfl) (fun _ _ _ h => h) (Or.inl ⟨by rfl, ?_⟩) (by assumption) ?_
  rotate_left
  · intro w hSw; go_simp; try (with_reducible rfl)
  try simp only [Act.put, List.setIfInBounds_toArray, List.set_cons_zero, List.set_cons_succ]
  refine take_at (i := 16) (d := some 19) (v := ?_) rfl rfl (by kernel_rfl) (by kernel_rfl) (by kernel_rfl) (fun _ _ _ h => h) (Or.inl ⟨by rfl, ?_⟩) (by assumption) ?_
  rotate_left
  · intro w hSw; go_simp; try (with_reducible rfl)
  try simp only [Act.put, List.setIfInBounds_toArray, List.set_cons_zero, List.set_cons_succ]
  refine wpAnyH_ready (rs := [17]) (by kernel_rfl) (by simp) ?_
  refine AllReadyH.cons rfl (fun K hK => ?_) AllReadyH.nil
  go_simp
  go_wp2_with (go_at_call 131; ((with_reducible refine (C1.out _ (hF0.drew.trans hF1)).mono ?_); rintro e w2 ⟨rfl, hF2⟩; rw [HC.out]; have e0 := hF2.cell (o := 0) d0 (fun h => h); have e1 := hF2.cell (o := 1) d1 (fun h => h); have e2 := hF2.cell (o := 2) d2 (fun h => h)))
  refine hK.out _ _ ?_ (fun hHeld => ?_)
  · exact ⟨e0, e1, e2⟩
  clear hK K
  try simp only [Act.put, List.setIfInBounds_toArray, List.set_cons_zero, List.set_cons_succ]
  refine take_at (i := 18) (d := some 21) (v := ?_) rfl rfl (by kernel_rfl) (by kernel_rfl) (by kernel_rfl) (fun _ _ _ h => h) (Or.inl ⟨by rfl, ?_⟩) (by assumption) ?_
  rotate_left
  · intro w hSw; go_simp; try (with_reducible rfl)
  try simp only [Act.put, List.setIfInBounds_toArray, List.set_cons_zero, List.set_cons_succ]
  refine take_at (i := 19) (d := some 22) (v := ?_) rfl rfl (by kernel_rfl) (by kernel_rfl) (by kernel_rfl) (fun _ _ _ h => h) (Or.inl ⟨by rfl, ?_⟩) (by assumption) ?_
  rotate_left
  · intro w hSw; go_simp; try (with_reducible rfl)
  try simp only [Act.put, List.setIfInBounds_toArray, List.set_cons_zero, List.set_cons_succ]
  refine take_at (i := 20) (d := some 23) (v := ?_) rfl rfl (by kernel_rfl) (by kernel_rfl) (by kernel_rfl) (fun _ _ _ h => h) (Or.inl ⟨by rfl, ?_⟩) (by assumption) ?_
  rotate_left
  · intro w hSw; go_simp; try (with_reducible rfl)
  try simp only [Act.put, List.setIfInBounds_toArray, List.set_cons_zero, List.set_cons_succ]
  refine take_at (i := 21) (d := some 24) (v := ?_) rfl rfl (by kernel_rfl) (by kernel_rfl) (by kernel_rfl) (fun _ _ _ h => h) (Or.inl ⟨by rfl, ?_⟩) (by assumption) ?_
  rotate_left
  · intro w hSw; go_simp; try (with_reducible rfl)
  try simp only [Act.put, List.setIfInBounds_toArray, List.set_cons_zero, List.set_cons_succ]
  refine take_at (i := 22) (d := some 25) (v := ?_) rfl rfl (by kernel_rfl) (by kernel_rfl) (by kernel_rfl) (fun _ _ _ h => h) (Or.inl ⟨by rfl, ?_⟩) (by assumption) ?_
  rotate_left
  · intro w hSw; go_simp; try (with_reducible rfl)
  try simp only [Act.put, List.setIfInBounds_toArray, List.set_cons_zero, List.set_cons_succ]
  refine take_at (i := 24) (d := some 27) (v := ?_) rfl rfl (by kernel_rfl) (by kernel_rfl) (by kernel_rfl) (fun _ _ _ h => h) (Or.inl ⟨by rfl, ?_⟩) (by assumption) ?_
  rotate_left
  · intro w hSw; go_simp; try (with_reducible rfl)
  try simp only [Act.put, List.setIfInBounds_toArray, List.set_cons_zero, List.set_cons_succ]
  refine take_at (i := 25) (d := some 28) (v := ?_) rfl rfl (by kernel_rfl) (by kernel_rfl) (by kernel_rfl) (fun _ _ _ h => h) (Or.inl ⟨by rfl, ?_⟩) (by assumption) ?_
  rotate_left
  · intro w hSw; go_simp; try (with_reducible rfl)
  try simp only [Act.put, List.setIfInBounds_toArray, List.set_cons_zero, List.set_cons_succ]
  refine wpAnyH_ready (rs := [23]) (by kernel_rfl) (by simp) ?_
  refine AllReadyH.cons rfl (fun K hK => ?_) AllReadyH.nil
  go_simp
  go_wp2_with (go_at_call 116; ((with_reducible refine (C2.out _ ((hF0.drew.trans hF1).trans hF2)).mono ?_); rintro e w3 ⟨rfl, hF3⟩; have g0 := hF3.cell (o := 0) e0 (fun h => h); have g1 := hF3.cell (o := 1) e1 (fun h => h); have g2 := hF3.cell (o := 2) e2 (fun h => h)))
  refine hK.out _ _ ?_ (fun hHeld => ?_)
  · exact ⟨g0, g1, g2⟩
  clear hK K
  try simp only [Act.put, List.setIfInBounds_toArray, List.set_cons_zero, List.set_cons_succ]
  refine wpAnyH_ready (rs := [26]) (by kernel_rfl) (by simp) ?_
  refine AllReadyH.cons rfl (fun K hK => ?_) AllReadyH.nil
  go_simp
  go_wp2_with (go_at_call 117; ((with_reducible refine (C4.out _).mono ?_); rintro e w4 ⟨rfl, rfl⟩))
  refine hK.out _ _ ?_ (fun hHeld => ?_)
  · exact ⟨g0, g1, g2⟩
  clear hK K
  try simp only [Act.put, List.setIfInBounds_toArray, List.set_cons_zero, List.set_cons_succ]
  refine take_at (i := 27) (d := some 30) (v := ?_) rfl rfl (by kernel_rfl) (by kernel_rfl) (by kernel_rfl) (fun _ _ _ h => h) (Or.inl ⟨by rfl, ?_⟩) (by assumption) ?_
  rotate_left
  · intro w hSw; go_simp; try (with_reducible rfl)
  try simp only [Act.put, List.setIfInBounds_toArray, List.set_cons_zero, List.set_cons_succ]
  refine take_at (i := 28) (d := some 31) (v := ?_) rfl rfl (by kernel_rfl) (by kernel_rfl) (by kernel_rfl) (fun _ _ _ h => h) (Or.inl ⟨by rfl, ?_⟩) (by assumption) ?_
  rotate_left
  · intro w hSw; go_simp; try (with_reducible rfl)
  try simp only [Act.put, List.setIfInBounds_toArray, List.set_cons_zero, List.set_cons_succ]
  refine wpAnyH_done (by kernel_rfl) ?_ _
  go_wp2
  go_ret
  exact ⟨rfl, ((hF0.drew.trans hF1).trans hF2).trans hF3⟩

set_option maxHeartbeats 1000000 in
set_option maxRecDepth 1000000 in
theorem icheck_6 (s : ByteArray) (n : Int) (a : Option Addr) (cap : Nat) (xs : List (Int × Int)) (w : World) (C3 : RowKit.Hid (∀ w1, Calls Tryz.prog 50 #[.string s] w1 fun e w' => e = .returned (.bool (nameF s)) ∧ Fr No w1 w')) (C1 : RowKit.Hid (∀ w1, Fr No w w1 → Calls Tryz.prog 131 #[.slice a xs.length cap] w1 fun e w' => e = .returned (.int .i64 (checkN xs)) ∧ Fr No w1 w')) (C2 : RowKit.Hid (∀ w1, Fr No w w1 → Calls Tryz.prog 116 #[.slice a xs.length cap] w1 fun e w' => e = .returned (.int .i64 (listF xs).length) ∧ Fr No w1 w')) (C4 : RowKit.Hid (∀ w1, Calls Tryz.prog 117 #[.int .i64 n] w1 fun e w' => e = .returned (.int .i64 (needF n)) ∧ w1 = w')) (HN : RowKit.Hid (nameF s = true)) (HC : RowKit.Hid (checkN xs = 0)) (g0 : decide (n < 0) = false) (g1 : decide (1472 < n) = false) (hd : (((listF xs).length : Int) != needF n) = true) :
    Calls Tryz.prog 128 #[.agg #[.string s, .int .i64 n, .slice a xs.length cap]] w fun e w' => e = .returned (.int .i64 110) ∧ Fr No w w' := by
  go_enter Tryz.func128, Tryz.ntmps128
  go_wp2
  have hF0 : Fr No w (w.alloc (Obj.cells #[.string s, .int .i64 n, .slice a xs.length cap] 95)) := (Fr.refl _ _).alloc _
  have hb0 := heap_new w (Obj.cells #[.string s, .int .i64 n, .slice a xs.length cap] 95)
  generalize w.alloc _ = W at *
  have c0 := heap_cell (o := 0) hb0 rfl
  have c1 := heap_cell (o := 1) hb0 rfl
  have c2 := heap_cell (o := 2) hb0 rfl
  clear hb0
  refine wp_region_held_drew (S := (fun w' => w'.cell? ⟨w.heap.size, 0, none⟩ = some (.string s) ∧ w'.cell? ⟨w.heap.size, 1, none⟩ = some (.int .i64 n) ∧ w'.cell? ⟨w.heap.size, 2, none⟩ = some (.slice a xs.length cap))) (by kernel_rfl) ⟨c0, c1, c2⟩ (fun hS0 => ?_)
  refine take_at (i := 0) (d := some 3) (v := ?_) rfl rfl (by kernel_rfl) (by kernel_rfl) (by kernel_rfl) (fun _ _ _ h => h) (Or.inl ⟨by rfl, ?_⟩) (by assumption) ?_
  rotate_left
  · intro w hSw; go_simp; try (with_reducible rfl)
  try simp only [Act.put, List.setIfInBounds_toArray, List.set_cons_zero, List.set_cons_succ]
  refine take_at (i := 1) (d := some 4) (v := ?_) rfl rfl (by kernel_rfl) (by kernel_rfl) (by kernel_rfl) (fun _ _ _ h => h) (Or.inl ⟨by rfl, ?_⟩) (by assumption) ?_
  rotate_left
  · intro w hSw; go_simp; try (with_reducible rfl)
  try simp only [Act.put, List.setIfInBounds_toArray, List.set_cons_zero, List.set_cons_succ]
  refine wpAnyH_ready (rs := [2]) (by kernel_rfl) (by simp) ?_
  refine AllReadyH.cons rfl (fun K hK => ?_) AllReadyH.nil
  go_simp
  go_wp2_with (go_at_call 50; ((with_reducible refine (C3.out _).mono ?_); rintro e w1 ⟨rfl, hF1⟩; rw [HN.out]; have d0 := hF1.cell (o := 0) c0 (fun h => h); have d1 := hF1.cell (o := 1) c1 (fun h => h); have d2 := hF1.cell (o := 2) c2 (fun h => h)))
  refine hK.out _ _ ?_ (fun hHeld => ?_)
  · exact ⟨d0, d1, d2⟩
  clear hK K
  try simp only [Act.put, List.setIfInBounds_toArray, List.set_cons_zero, List.set_cons_succ]
  refine take_at (i := 3) (d := some 6) (v := ?_) rfl rfl (by kernel_rfl) (by kernel_rfl) (by kernel_rfl) (fun _ _ _ h => h) (Or.inl ⟨by rfl, ?_⟩) (by assumption) ?_
  rotate_left
  · intro w hSw; go_simp; try (with_reducible rfl)
  try simp only [Act.put, List.setIfInBounds_toArray, List.set_cons_zero, List.set_cons_succ]
  refine take_at (i := 4) (d := some 7) (v := ?_) rfl rfl (by kernel_rfl) (by kernel_rfl) (by kernel_rfl) (fun _ _ _ h => h) (Or.inl ⟨by rfl, ?_⟩) (by assumption) ?_
  rotate_left
  · intro w hSw; go_simp; try (with_reducible rfl)
  try simp only [Act.put, List.setIfInBounds_toArray, List.set_cons_zero, List.set_cons_succ]
  refine take_at (i := 5) (d := some 8) (v := ?_) rfl rfl (by kernel_rfl) (by kernel_rfl) (by kernel_rfl) (fun _ _ _ h => h) (Or.inl ⟨by rfl, ?_⟩) (by assumption) ?_
  rotate_left
  · intro w hSw; go_simp; try (with_reducible rfl)
  try simp only [Act.put, List.setIfInBounds_toArray, List.set_cons_zero, List.set_cons_succ]
  refine take_at (i := 6) (d := some 9) (v := ?_) rfl rfl (by kernel_rfl) (by kernel_rfl) (by kernel_rfl) (fun _ _ _ h => h) (Or.inl ⟨by rfl, ?_⟩) (by assumption) ?_
  rotate_left
  · intro w hSw; go_simp; try (with_reducible rfl)
  try simp only [Act.put, List.setIfInBounds_toArray, List.set_cons_zero, List.set_cons_succ]
  refine take_at (i := 7) (d := some 10) (v := ?_) rfl rfl (by kernel_rfl) (by kernel_rfl) (by kernel_rfl) (fun _ _ _ h => h) (Or.inl ⟨by rfl, ?_⟩) (by assumption) ?_
  rotate_left
  · intro w hSw; go_simp; try (with_reducible rfl)
  try simp only [Act.put, List.setIfInBounds_toArray, List.set_cons_zero, List.set_cons_succ]
  refine take_at (i := 8) (d := some 11) (v := ?_) rfl rfl (by kernel_rfl) (by kernel_rfl) (by kernel_rfl) (fun _ _ _ h => h) (Or.inl ⟨by rfl, ?_⟩) (by assumption) ?_
  rotate_left
  · intro w hSw; go_simp; try (with_reducible rfl)
  try simp only [Act.put, List.setIfInBounds_toArray, List.set_cons_zero, List.set_cons_succ]
  refine take_at (i := 9) (d := some 12) (v := ?_) rfl rfl (by kernel_rfl) (by kernel_rfl) (by kernel_rfl) (fun _ _ _ h => h) (Or.inl ⟨by rfl, ?_⟩) (by assumption) ?_
  rotate_left
  · intro w hSw; go_simp; try (with_reducible rfl)
  try simp only [Act.put, List.setIfInBounds_toArray, List.set_cons_zero, List.set_cons_succ]
  refine take_at (i := 10) (d := some 13) (v := ?_) rfl rfl (by kernel_rfl) (by kernel_rfl) (by kernel_rfl) (fun _ _ _ h => h) (Or.inl ⟨by rfl, ?_⟩) (by assumption) ?_
  rotate_left
  · intro w hSw; go_simp; try (with_reducible rfl)
  try simp only [Act.put, List.setIfInBounds_toArray, List.set_cons_zero, List.set_cons_succ]
  refine take_at (i := 11) (d := some 14) (v := ?_) rfl rfl (by kernel_rfl) (by kernel_rfl) (by kernel_rfl) (fun _ _ _ h => h) (Or.inl ⟨by rfl, ?_⟩) (by assumption) ?_
  rotate_left
  · intro w hSw; go_simp; try (with_reducible rfl)
  try simp only [Act.put, List.setIfInBounds_toArray, List.set_cons_zero, List.set_cons_succ]
  refine take_at (i := 12) (d := some 15) (v := ?_) rfl rfl (by kernel_rfl) (by kernel_rfl) (by kernel_rfl) (fun _ _ _ h => h) (Or.inl ⟨by rfl, ?_⟩) (by assumption) ?_
  rotate_left
  · intro w hSw; go_simp; try (with_reducible rfl)
  try simp only [Act.put, List.setIfInBounds_toArray, List.set_cons_zero, List.set_cons_succ]
  refine take_at (i := 13) (d := some 16) (v := ?_) rfl rfl (by kernel_rfl) (by kernel_rfl) (by kernel_rfl) (fun _ _ _ h => h) (Or.inl ⟨by rfl, ?_⟩) (by assumption) ?_
  rotate_left
  · intro w hSw; go_simp; try (with_reducible rfl)
  try simp only [Act.put, List.setIfInBounds_toArray, List.set_cons_zero, List.set_cons_succ]
  refine take_at (i := 14) (d := some 17) (v := ?_) rfl rfl (by kernel_rfl) (by kernel_rfl) (by kernel_rfl) (fun _ _ _ h => h) (Or.inl ⟨by rfl, ?_⟩) (by assumption) ?_
  rotate_left
  · intro w hSw; go_simp; try (with_reducible rfl)
  try simp only [Act.put, List.setIfInBounds_toArray, List.set_cons_zero, List.set_cons_succ]
  refine take_at (i := 15) (d := some 18) (v := ?_) rfl rfl (by kernel_rfl) (by kernel_rfl) (by kernel_rfl) (fun _ _ _ h => h) (Or.inl ⟨by rfl, ?_⟩) (by assumption) ?_
  rotate_left
  · intro w hSw; go_simp; try (with_reducible rfl)
  try simp only [Act.put, List.setIfInBounds_toArray, List.set_cons_zero, List.set_cons_succ]
  refine take_at (i := 16) (d := some 19) (v := ?_) rfl rfl (by kernel_rfl) (by kernel_rfl) (by kernel_rfl) (fun _ _ _ h => h) (Or.inl ⟨by rfl, ?_⟩) (by assumption) ?_
  rotate_left
  · intro w hSw; go_simp; try (with_reducible rfl)
  try simp only [Act.put, List.setIfInBounds_toArray, List.set_cons_zero, List.set_cons_succ]
  refine wpAnyH_ready (rs := [17]) (by kernel_rfl) (by simp) ?_
  refine AllReadyH.cons rfl (fun K hK => ?_) AllReadyH.nil
  go_simp
  go_wp2_with (go_at_call 131; ((with_reducible refine (C1.out _ (hF0.drew.trans hF1)).mono ?_); rintro e w2 ⟨rfl, hF2⟩; rw [HC.out]; have e0 := hF2.cell (o := 0) d0 (fun h => h); have e1 := hF2.cell (o := 1) d1 (fun h => h); have e2 := hF2.cell (o := 2) d2 (fun h => h)))
  refine hK.out _ _ ?_ (fun hHeld => ?_)
  · exact ⟨e0, e1, e2⟩
  clear hK K
  try simp only [Act.put, List.setIfInBounds_toArray, List.set_cons_zero, List.set_cons_succ]
  refine take_at (i := 18) (d := some 21) (v := ?_) rfl rfl (by kernel_rfl) (by kernel_rfl) (by kernel_rfl) (fun _ _ _ h => h) (Or.inl ⟨by rfl, ?_⟩) (by assumption) ?_
  rotate_left
  · intro w hSw; go_simp; try (with_reducible rfl)
  try simp only [Act.put, List.setIfInBounds_toArray, List.set_cons_zero, List.set_cons_succ]
  refine take_at (i := 19) (d := some 22) (v := ?_) rfl rfl (by kernel_rfl) (by kernel_rfl) (by kernel_rfl) (fun _ _ _ h => h) (Or.inl ⟨by rfl, ?_⟩) (by assumption) ?_
  rotate_left
  · intro w hSw; go_simp; try (with_reducible rfl)
  try simp only [Act.put, List.setIfInBounds_toArray, List.set_cons_zero, List.set_cons_succ]
  refine take_at (i := 20) (d := some 23) (v := ?_) rfl rfl (by kernel_rfl) (by kernel_rfl) (by kernel_rfl) (fun _ _ _ h => h) (Or.inl ⟨by rfl, ?_⟩) (by assumption) ?_
  rotate_left
  · intro w hSw; go_simp; try (with_reducible rfl)
  try simp only [Act.put, List.setIfInBounds_toArray, List.set_cons_zero, List.set_cons_succ]
  refine take_at (i := 21) (d := some 24) (v := ?_) rfl rfl (by kernel_rfl) (by kernel_rfl) (by kernel_rfl) (fun _ _ _ h => h) (Or.inl ⟨by rfl, ?_⟩) (by assumption) ?_
  rotate_left
  · intro w hSw; go_simp; try (with_reducible rfl)
  try simp only [Act.put, List.setIfInBounds_toArray, List.set_cons_zero, List.set_cons_succ]
  refine take_at (i := 22) (d := some 25) (v := ?_) rfl rfl (by kernel_rfl) (by kernel_rfl) (by kernel_rfl) (fun _ _ _ h => h) (Or.inl ⟨by rfl, ?_⟩) (by assumption) ?_
  rotate_left
  · intro w hSw; go_simp; try (with_reducible rfl)
  try simp only [Act.put, List.setIfInBounds_toArray, List.set_cons_zero, List.set_cons_succ]
  refine take_at (i := 24) (d := some 27) (v := ?_) rfl rfl (by kernel_rfl) (by kernel_rfl) (by kernel_rfl) (fun _ _ _ h => h) (Or.inl ⟨by rfl, ?_⟩) (by assumption) ?_
  rotate_left
  · intro w hSw; go_simp; try (with_reducible rfl)
  try simp only [Act.put, List.setIfInBounds_toArray, List.set_cons_zero, List.set_cons_succ]
  refine take_at (i := 25) (d := some 28) (v := ?_) rfl rfl (by kernel_rfl) (by kernel_rfl) (by kernel_rfl) (fun _ _ _ h => h) (Or.inl ⟨by rfl, ?_⟩) (by assumption) ?_
  rotate_left
  · intro w hSw; go_simp; try (with_reducible rfl)
  try simp only [Act.put, List.setIfInBounds_toArray, List.set_cons_zero, List.set_cons_succ]
  refine wpAnyH_ready (rs := [23]) (by kernel_rfl) (by simp) ?_
  refine AllReadyH.cons rfl (fun K hK => ?_) AllReadyH.nil
  go_simp
  go_wp2_with (go_at_call 116; ((with_reducible refine (C2.out _ ((hF0.drew.trans hF1).trans hF2)).mono ?_); rintro e w3 ⟨rfl, hF3⟩; have g0 := hF3.cell (o := 0) e0 (fun h => h); have g1 := hF3.cell (o := 1) e1 (fun h => h); have g2 := hF3.cell (o := 2) e2 (fun h => h)))
  refine hK.out _ _ ?_ (fun hHeld => ?_)
  · exact ⟨g0, g1, g2⟩
  clear hK K
  try simp only [Act.put, List.setIfInBounds_toArray, List.set_cons_zero, List.set_cons_succ]
  refine wpAnyH_ready (rs := [26]) (by kernel_rfl) (by simp) ?_
  refine AllReadyH.cons rfl (fun K hK => ?_) AllReadyH.nil
  go_simp
  go_wp2_with (go_at_call 117; ((with_reducible refine (C4.out _).mono ?_); rintro e w4 ⟨rfl, rfl⟩))
  refine hK.out _ _ ?_ (fun hHeld => ?_)
  · exact ⟨g0, g1, g2⟩
  clear hK K
  try simp only [Act.put, List.setIfInBounds_toArray, List.set_cons_zero, List.set_cons_succ]
  refine take_at (i := 27) (d := some 30) (v := ?_) rfl rfl (by kernel_rfl) (by kernel_rfl) (by kernel_rfl) (fun _ _ _ h => h) (Or.inl ⟨by rfl, ?_⟩) (by assumption) ?_
  rotate_left
  · intro w hSw; go_simp; try (with_reducible rfl)
  try simp only [Act.put, List.setIfInBounds_toArray, List.set_cons_zero, List.set_cons_succ]
  refine take_at (i := 28) (d := some 31) (v := ?_) rfl rfl (by kernel_rfl) (by kernel_rfl) (by kernel_rfl) (fun _ _ _ h => h) (Or.inl ⟨by rfl, ?_⟩) (by assumption) ?_
  rotate_left
  · intro w hSw; go_simp; try (with_reducible rfl)
  try simp only [Act.put, List.setIfInBounds_toArray, List.set_cons_zero, List.set_cons_succ]
  refine wpAnyH_done (by kernel_rfl) ?_ _
  go_wp2
  go_ret
  exact ⟨rfl, ((hF0.drew.trans hF1).trans hF2).trans hF3⟩

end Go.Proofs.YtoajnmbbgbpbgaaGreat
namespace Go.Proofs.YtoajnmbbgbpbgaaGreat
set_option linter.unusedVariables false
set_option linter.unusedSimpArgs false
open Go.RowKit Go.Shelf

set_option maxHeartbeats 1000000 in
set_option maxRecDepth 1000000 in
theorem rcheck_calls (s : ByteArray) (n : Int) (v : Value) (xs : List (Int × Int)) (w : World) (hs : s.size ≤ 140737488355328) (h1 : -9223372036854775808 ≤ n) (h2 : n ≤ 9223372036854775807) (hlen : xs.length ≤ 100) (hv : Sl w v xs.length (extCells xs)) :
    Calls Tryz.prog 111 #[.agg #[.string s, .int .i64 n, v]] w fun e w' => e = .returned (.int .i64 (inoN s n xs)) ∧ Fr No w w' := by
  obtain ⟨a, cap, rfl⟩ := hv.form
  have C1 := Lib.hid (fun w1 (h : Fr No w w1) => rblocks_calls _ xs w1 hlen (hv.fr0 h))
  have C3 := Lib.hid (fun w1 => rname_calls s w1 hs)
  have C4 := Lib.hid (fun w1 => rneed_calls n w1 h1 h2)
  have hll := listF_length xs
  clear hv
  have hcase : (blocksOk xs = false ∧ inoN s n xs = 110) ∨ (blocksOk xs = true ∧ nameF s = false ∧ inoN s n xs = 110) ∨ (blocksOk xs = true ∧ nameF s = true ∧ n < 0 ∧ inoN s n xs = 110) ∨ (blocksOk xs = true ∧ nameF s = true ∧ 0 ≤ n ∧ 1472 < n ∧ inoN s n xs = 110) ∨
      (blocksOk xs = true ∧ nameF s = true ∧ 0 ≤ n ∧ n ≤ 1472 ∧ ((((listF xs).length : Int) != needF n) = false ∧ inoN s n xs = 0 ∨ (((listF xs).length : Int) != needF n) = true ∧ inoN s n xs = 110)) := by
    rw [inoN, inoOk, blocksOk]
    cases okB (blkSeq (-1) xs)
    · simp
    · cases nameF s
      · simp
      · by_cases h0 : 0 ≤ n
        · by_cases h3 : n ≤ 1472
          · by_cases h4 : ((listF xs).length : Int) = needF n
            · simp [h0, h3, h4]
            · simp [h0, h3, h4]
          · simp [h0, h3]; omega
        · simp [h0]; omega
  clear h1 h2
  generalize inoN s n xs = R at *
  go_enter Tryz.func111, Tryz.ntmps111
  go_wp2_with fail
  have hF0 : Fr No w (w.alloc (Obj.cells #[.string s, .int .i64 n, .slice a xs.length cap] 95)) := (Fr.refl _ _).alloc _
  have hb0 := heap_new w (Obj.cells #[.string s, .int .i64 n, .slice a xs.length cap] 95)
  generalize w.alloc _ = W at *
  refine (C1.out _ hF0).mono ?_
  rintro e w1 ⟨hF1, r1, rfl, hr1⟩
  obtain ⟨a1, cap1, rfl⟩ := (Sl.of_owns hr1).form
  have c0 := hF1.cell (heap_cell (o := 0) hb0 rfl) (fun h => h)
  have c1 := hF1.cell (heap_cell (o := 1) hb0 rfl) (fun h => h)
  clear hr1 hb0
  rcases hcase with ⟨hb, rfl⟩ | ⟨hb, hn, rfl⟩ | ⟨hb, hn, h0, rfl⟩ | ⟨hb, hn, h0, h3, rfl⟩ | ⟨hb, hn, h0, h3, h4⟩
  · rw [hb]
    go_wp2
    go_ret
    exact ⟨rfl, hF0.trans hF1⟩
  · rw [hb]
    have HN := Lib.hid hn
    clear hn hb
    go_wp2_with (go_at_call 61; ((with_reducible refine (C3.out _).mono ?_); rintro e w2 ⟨rfl, rfl⟩; rw [HN.out]))
    go_ret
    exact ⟨rfl, hF0.trans hF1⟩
  · rw [hb]
    have HN := Lib.hid hn
    clear hn hb
    go_wp2_with (go_at_call 61; ((with_reducible refine (C3.out _).mono ?_); rintro e w2 ⟨rfl, rfl⟩; rw [HN.out]))
    go_ret
    exact ⟨rfl, hF0.trans hF1⟩
  · rw [hb]
    have HN := Lib.hid hn
    clear hn hb
    go_wp2_with (go_at_call 61; ((with_reducible refine (C3.out _).mono ?_); rintro e w2 ⟨rfl, rfl⟩; rw [HN.out]))
    go_ret
    exact ⟨rfl, hF0.trans hF1⟩
  · rw [hb]
    have HN := Lib.hid hn
    clear hn hb
    rcases h4 with ⟨h4, rfl⟩ | ⟨h4, rfl⟩
    all_goals
      go_wp2_with (first | (go_at_call 61; ((with_reducible refine (C3.out _).mono ?_); rintro e w2 ⟨rfl, rfl⟩; rw [HN.out])) | (go_at_call 100; ((with_reducible refine (C4.out _).mono ?_); rintro e w2 ⟨rfl, rfl⟩)))
      go_ret
      exact ⟨rfl, hF0.trans hF1⟩
end Go.Proofs.YtoajnmbbgbpbgaaGreat
namespace Go.Proofs.YtoajnmbbgbpbgaaGreat
set_option linter.unusedVariables false
set_option linter.unusedSimpArgs false
open Go.RowKit Go.Shelf

/-- An inode's bytes: length, name, size; then its extents. -/
def encHead (s : ByteArray) (n : Int) : List Int := spl ((spl (zs 64) 1 (bytesOf s)).set 0 s.size) 16 (putL (zs 2) 0 n 2)
def encN (l : List Int) (xs : List (Int × Int)) : Nat → List Int
  | 0 => l
  | k + 1 => ((encN l xs k).set (18 + 2 * k) ((xs.getD k (0, 0)).1 % 256)).set (19 + 2 * k) ((xs.getD k (0, 0)).2 % 256)
theorem encN_length (l : List Int) (xs : List (Int × Int)) (k : Nat) : (encN l xs k).length = l.length := by
  induction k with
  | zero => rfl
  | succ k ih => rw [encN, List.length_set, List.length_set, ih]
/-- An inode's bytes. -/
def encF (s : ByteArray) (n : Int) (xs : List (Int × Int)) : List Int := encN (encHead s n) xs xs.length
theorem encHead_length (s : ByteArray) (n : Int) (hs : s.size ≤ 15) : (encHead s n).length = 64 := by
  have h1 : ((spl (zs 64) 1 (bytesOf s)).set 0 s.size).length = 64 := by
    rw [List.length_set, spl_length _ _ _ (by rw [bytesOf_length, zs_length]; omega), zs_length]
  rw [encHead, spl_length _ _ _ (by rw [putL_length, zs_length, h1]; omega), h1]

set_option maxHeartbeats 1000000 in
set_option maxRecDepth 1000000 in
theorem enc_calls (s : ByteArray) (n : Int) (a : Option Addr) (cap : Nat) (xs : List (Int × Int)) (w : World) (hs : s.size ≤ 15) (hs0 : 1 ≤ s.size) (h1 : 0 ≤ n) (h2 : n ≤ 1472) (hlen : xs.length ≤ 23) (hv : Sl w (.slice a xs.length cap) xs.length (extCells xs))
    (CK : RowKit.Hid (∀ w1, Fr No w w1 → Calls Tryz.prog 128 #[.agg #[.string s, .int .i64 n, .slice a xs.length cap]] w1 fun e w' => e = .returned (.int .i64 0) ∧ Fr No w1 w')) :
    Calls Tryz.prog 110 #[.agg #[.string s, .int .i64 n, .slice a xs.length cap]] w fun e w' => ∃ b, e = .returned (.tuple #[.slice (some ⟨b, 0, none⟩) 64 64, .int .i64 0]) ∧ Fr No w w' ∧ Row w' b 155 (encF s n xs) ∧ w.heap.size ≤ b := by
  have hL := encHead_length s n hs
  have hmk : ∀ w : World, (Instr.makeSlice 22 (.int .i64 2) (.int .i64 2)).run Tryz.prog w = .ok (.slice (some ⟨w.heap.size, 0, none⟩) 2 2) (w.alloc (.cells (bys (zs 2)).toArray 5)) := fun w => mk_bytes w 2 (by omega)
  go_enter Tryz.func110, Tryz.ntmps110
  have hF0 : Fr No w (w.alloc (Obj.cells #[.string s, .int .i64 n, .slice a xs.length cap] 95)) := (Fr.refl _ _).alloc _
  have hb0 := heap_new w (Obj.cells #[.string s, .int .i64 n, .slice a xs.length cap] 95)
  go_wp2_with (go_at_call 128; ((with_reducible refine (CK.out _ hF0).mono ?_); rintro e w1 ⟨rfl, hF1⟩; have c0 := hF1.cell (heap_cell (o := 0) hb0 rfl) (fun h => h); have c1 := hF1.cell (heap_cell (o := 1) hb0 rfl) (fun h => h); have c2 := hF1.cell (heap_cell (o := 2) hb0 rfl) (fun h => h)))
  have hW := Row.new w1 155 (zs 64)
  have hF2 : Fr No w1 (w1.alloc (Obj.cells (bys (zs 64)).toArray 155)) := (Fr.refl _ _).alloc _
  have hw1 : w.heap.size < w1.heap.size := Nat.lt_of_lt_of_le (by simp) hF1.size
  change Code.wp _ _ _ _ (w1.alloc (Obj.cells (bys (zs 64)).toArray 155))
  have hF02 := (hF0.trans hF1).trans hF2
  generalize w1.alloc _ = W at *
  have d0 := hF2.cell c0 (fun h => h)
  have hW' : Row W.drew w1.heap.size 155 (zs 64) := hW
  obtain ⟨W2, hR2, hF3, hrun⟩ := hW'.copyStr s 1 17 63 (by omega) (by rw [zs_length]; omega)
  have hx0 : (spl (zs 64) 1 (bytesOf s)).length = 64 := by rw [spl_length _ _ _ (by rw [bytesOf_length, zs_length]; omega), zs_length]
  have k0 := hR2.cell (i := 0) (by omega)
  have k1 := hR2.frozen 0
  have hR3 := hR2.set 0 s.size
  have hs1 : (s.size : Int) ≤ 15 := by omega
  have hwr : IntKind.u8.wrap (s.size : Int) = s.size := by rw [IntKind.wrap_u8]; omega
  have hR3h := Lib.hid hR3
  clear hR3 hW hW' hR2
  go_region
  have hR3 := hR3h.out
  have hF4 : Fr (fun k => k = w1.heap.size) W (W2.setCell ⟨w1.heap.size, 0, none⟩ (.int .u8 s.size)) := ((Fr.refl _ W).drew.trans hF3).setCell (p := ⟨w1.heap.size, 0, none⟩) (fun _ => rfl) _
  generalize W2.setCell ⟨w1.heap.size, 0, none⟩ (.int .u8 s.size) = W3 at *
  have hwx : W.heap.size ≤ W3.heap.size := hF4.size
  have e1 := hF4.cell (hF2.cell c1 (fun h => h)) (by omega)
  have e2 := hF4.cell (hF2.cell c2 (fun h => h)) (by omega)
  have hu64 : IntKind.u64.wrap n = n := by rw [IntKind.wrap_u64]; omega
  clear hrun k0 k1 hR3h d0 c0 hF3
  have hx1 : ((spl (zs 64) 1 (bytesOf s)).set 0 s.size).length = 64 := by rw [List.length_set, hx0]
  generalize hl1 : (spl (zs 64) 1 (bytesOf s)).set 0 s.size = l1 at *
  go_wp2
  have hA : Fr No W3 ((W3.alloc (Obj.cells (bys (zs 2)).toArray 5)).drew) := ((Fr.refl No W3).alloc _).drew
  have eA := hA.cell e1 (fun h => h)
  have HSL : Sl ((W3.alloc (Obj.cells (bys (zs 2)).toArray 5)).drew) (.slice (some ⟨W3.heap.size, 0, none⟩) 2 2) (zs 2).length (bys (zs 2)) := (Row.new W3 5 (zs 2)).sl
  have hbl : w1.heap.size < W3.heap.size := hR3.lt
  have HP := (put_calls _ (zs 2) 0 2 n _ (by omega) (by rw [zs_length]; omega) (by rw [zs_length]; omega) (by omega) (by rw [zs_length]; omega) HSL)
  have HP2 : Calls Tryz.prog 90 #[.slice (some ⟨W3.heap.size, 0, none⟩) 2 2, .int .i64 0, .int .i64 2, .int .u64 n] ((W3.alloc (Obj.cells (bys (zs 2)).toArray 5)).drew) fun e w5 => ∃ g5 cap5 W6, e = .returned (.slice (some ⟨g5, 0, none⟩) 2 cap5) ∧ w5.cell? ⟨w.heap.size, 1, none⟩ = some (.int .i64 n) ∧
      Row W6 w1.heap.size 155 (spl l1 16 (putL (zs 2) 0 n 2)) ∧ Fr (fun k => k = w1.heap.size) W3 W6 ∧ W6.cell? ⟨w.heap.size, 1, none⟩ = some (.int .i64 n) ∧ ∀ ty, (Builtin.copy_ #[22, 22] ty #[.slice (some ⟨w1.heap.size, 16, none⟩) 2 48, .slice (some ⟨g5, 0, none⟩) 2 cap5]).run Tryz.prog w5 = .ok (.int .i64 2) W6 := by
    refine HP.mono ?_
    rintro e w5 ⟨r5, rfl, hF5, hr5⟩
    have hz2 : (zs 2).length = 2 := rfl
    rw [hz2] at hr5
    obtain ⟨g5, cap5, rfl, hg5, -⟩ := World.ownsRow.form hr5 (by omega)
    have e5 := hF5.cell eA (fun h => h)
    have hR5 := hR3.fr (hA.trans hF5) (fun h => h)
    have hl2 : (putL (zs 2) 0 n 2).length = 2 := by rw [putL_length]; rfl
    have hsl5 : Sl w5 (.slice (some ⟨g5, 0, none⟩) (putL (zs 2) 0 n 2).length cap5) (putL (zs 2) 0 n 2).length (bys (putL (zs 2) 0 n 2)) := by rw [hl2]; exact Sl.of_owns hr5
    obtain ⟨W6, hR6, hF6, hrun6⟩ := hR5.copySl (putL (zs 2) 0 n 2) (some ⟨g5, 0, none⟩) cap5 16 2 48 (by omega) hsl5 (by omega) (by omega)
    rw [hl2] at hrun6
    exact ⟨g5, cap5, W6, rfl, e5, hR6, (hA.trans hF5).no.trans hF6, hF6.cell e5 (by omega), hrun6⟩
  have HP3 := Lib.hid HP2
  clear HP HP2 HSL
  go_region_held3 (fun w' => w'.cell? ⟨w.heap.size, 1, none⟩ = some (.int .i64 n)) (first | exact e1 | exact eA | exact e5 | exact e6)
    (first | (go_at_call 90; ((with_reducible refine HP3.out.mono ?_); rintro e w5 ⟨g5, cap5, W6, rfl, e5, hR6, hF6, e6, hrun6⟩)))
  have hF6w : Fr No w W6 := hF02.trans' (hF4.trans hF6) (fun i hi e => by omega)
  have k2 := hF6.cell e2 (by omega)
  have hL2 : spl l1 16 (putL (zs 2) 0 n 2) = encHead s n := by rw [encHead, ← hl1]
  rw [hL2] at hR6
  clear hrun6 hl1 hL2 HP3 hF6 hF4 hR3 hmk e6 e1 e2 eA c1 c2 hA
  go_wp2
  go_loopw [29] (fun i wr => ∃ k : Nat, k ≤ xs.length ∧ i = .int .i64 k ∧ Row wr w1.heap.size 155 (encN (encHead s n) xs k) ∧ Fr No w wr) (fun i _ => xs.length - (intOf i).toNat)
  case atStart => exact ⟨0, Nat.zero_le _, rfl, hR6, hF6w⟩
  case round =>
    obtain ⟨k, hk, rfl, hR, hFr⟩ := hrel
    have hvr := hv.fr0 hFr
    by_cases hlt : k < xs.length
    · obtain ⟨y1, y2⟩ := extCells_get xs k hlt
      obtain ⟨b, off, rfl, hb, hc⟩ := hvr.at (by intro e; rw [e] at y1; cases y1)
      have hc1 := hc _ _ y1
      have hc2 := hc _ _ y2
      rw [← Nat.add_assoc] at hc2
      have hstep : encN (encHead s n) xs (k + 1) = ((encN (encHead s n) xs k).set (18 + 2 * k) (xs[k].1 % 256)).set (19 + 2 * k) (xs[k].2 % 256) := by rw [encN]; simp [List.getD, hlt]
      have hlk := encN_length (encHead s n) xs k
      revert hc1 hc2 hstep
      generalize xs[k] = x
      obtain ⟨x1, x2⟩ := x
      intro hc1 hc2 hstep
      have HSTEP := Lib.hid hstep
      clear hstep y1 y2 hc hv hvr
      rw [hL] at hlk
      go_wp2
      have hFA : Fr No wr (wr.alloc (Obj.cells #[.int .i64 x1, .int .i64 x2] 139)) := (Fr.refl _ _).alloc _
      have hn := heap_new wr (Obj.cells #[.int .i64 x1, .int .i64 x2] 139)
      have n0 := heap_cell (o := 0) hn rfl
      have n1 := heap_cell (o := 1) hn rfl
      have hRA := hR.fr hFA (fun h => h)
      have q1 := hRA.cell (i := 18 + 2 * k) (by omega)
      have q2 := hRA.cell (i := 18 + 2 * k + 1) (by omega)
      have r1 := hRA.frozen (18 + 2 * k)
      have r2 := hRA.frozen (18 + 2 * k + 1)
      have hS1 := (hRA.set (18 + 2 * k) (x1 % 256)).set (18 + 2 * k + 1) (x2 % 256)
      have hS2 := (hRA.set (18 + 2 * k + 1) (x2 % 256)).set (18 + 2 * k) (x1 % 256)
      have HS1 := Lib.hid hS1
      have HS2 := Lib.hid hS2
      have hFw := hFr.trans hFA
      have hBn : w1.heap.size < wr.heap.size := hR.lt
      clear hR hRA hn hS1 hS2
      revert q1 q2
      generalize (encN (encHead s n) xs k)[18 + 2 * k] = o1
      generalize (encN (encHead s n) xs k)[18 + 2 * k + 1] = o2
      intro q1 q2
      generalize wr.alloc _ = WA at *
      have hFS : ∀ W', Fr (fun c => c = w1.heap.size) WA W' → Fr No w W' := fun W' h => hFw.trans' h (fun i hi e => by omega)
      have HFS := Lib.hid hFS
      clear hFS
      go_region
      go_wp2
      refine ⟨⟨k + 1, by omega, by go_num, ?_, HFS.out _ (((Fr.refl (fun c => c = w1.heap.size) WA).setCell (p := ⟨w1.heap.size, 18 + 2 * k, none⟩) (fun _ => rfl) _).setCell (p := ⟨w1.heap.size, 18 + 2 * k + 1, none⟩) (fun _ => rfl) _).drew⟩, by simp [intOf]; omega⟩
      rw [HSTEP.out, show 19 + 2 * k = 18 + 2 * k + 1 by omega]
      exact HS1.out
    · go_wp2
      go_ret2
      exact ⟨_, rfl, hFr, by rw [encF, show xs.length = k by omega]; exact hR, by omega⟩
end Go.Proofs.YtoajnmbbgbpbgaaGreat
namespace Go.Proofs.YtoajnmbbgbpbgaaGreat
set_option linter.unusedVariables false
set_option linter.unusedSimpArgs false
open Go.RowKit Go.Shelf

theorem spl_set (l : List Int) (m : List Int) (v : Int) (h : 0 < l.length) : spl (l.set 0 v) 1 m = (spl l 1 m).set 0 v := by
  cases l with
  | nil => simp at h
  | cons x l => simp [spl, Nat.add_comm 1]
theorem put_spl (l : List Int) (n : Int) (h : l.length = 64) : putL l 16 n 2 = spl l 16 (putL (zs 2) 0 n 2) := by
  have h2 : putL (zs 2) 0 n 2 = [IntKind.u8.wrap (n / 2 ^ (8 * 0)), IntKind.u8.wrap (n / 2 ^ (8 * 1))] := rfl
  rw [h2]
  show (l.set 16 _).set 17 _ = _
  apply List.ext_getElem?
  intro i
  simp only [spl, List.getElem?_set, List.getElem?_append, List.getElem?_take, List.length_take, List.length_append, List.length_set, List.getElem?_drop, h, List.length_cons, List.length_nil]
  by_cases h1 : i = 16
  · subst h1; simp
  · by_cases h3 : i = 17
    · subst h3; simp
    · by_cases h4 : i < 16
      · simp [h4, Nat.lt_of_lt_of_le h4, show ¬ 16 = i by omega, show ¬ 17 = i by omega]
      · simp [h4, show ¬ 16 = i by omega, show ¬ 17 = i by omega, show ¬ i < 18 by omega, show 18 + (i - 18) = i by omega]

set_option maxHeartbeats 1000000 in
set_option maxRecDepth 1000000 in
theorem renc_calls (s : ByteArray) (n : Int) (a : Option Addr) (cap : Nat) (xs : List (Int × Int)) (w : World) (hs : s.size ≤ 15) (hs0 : 1 ≤ s.size) (h1 : 0 ≤ n) (h2 : n ≤ 1472) (hlen : xs.length ≤ 23) (hv : Sl w (.slice a xs.length cap) xs.length (extCells xs))
    (CK : RowKit.Hid (∀ w1, Fr No w w1 → Calls Tryz.prog 111 #[.agg #[.string s, .int .i64 n, .slice a xs.length cap]] w1 fun e w' => e = .returned (.int .i64 0) ∧ Fr No w1 w')) :
    Calls Tryz.prog 85 #[.agg #[.string s, .int .i64 n, .slice a xs.length cap]] w fun e w' => ∃ r, e = .returned (.tuple #[r, .int .i64 0]) ∧ Fr No w w' ∧ w'.ownsRow w.heap.size 5 1 r 64 (bys (encF s n xs)) := by
  have hL := encHead_length s n hs
  have hmk : ∀ w : World, (Instr.makeSlice 22 (.int .i64 64) (.int .i64 64)).run Tryz.prog w = .ok (.slice (some ⟨w.heap.size, 0, none⟩) 64 64) (w.alloc (.cells (bys (zs 64)).toArray 5)) := fun w => mk_bytes w 64 (by omega)
  have hl1 : ((zs 64).set 0 (s.size : Int)).length = 64 := by rw [List.length_set, zs_length]
  have hl2 : (spl ((zs 64).set 0 (s.size : Int)) 1 (bytesOf s)).length = 64 := by rw [spl_length _ _ _ (by rw [bytesOf_length, hl1]; omega), hl1]
  have hhead : putL (spl ((zs 64).set 0 (s.size : Int)) 1 (bytesOf s)) 16 n 2 = encHead s n := by rw [put_spl _ _ hl2, spl_set _ _ _ (by rw [zs_length]; omega), encHead]
  have hs1 : (s.size : Int) ≤ 15 := by omega
  have hwr : IntKind.u8.wrap (s.size : Int) = s.size := by rw [IntKind.wrap_u8]; omega
  have hu64 : IntKind.u64.wrap n = n := by rw [IntKind.wrap_u64]; omega
  go_enter Tryz.func85, Tryz.ntmps85
  have hF0 : Fr No w (w.alloc (Obj.cells #[.string s, .int .i64 n, .slice a xs.length cap] 95)) := (Fr.refl _ _).alloc _
  have hb0 := heap_new w (Obj.cells #[.string s, .int .i64 n, .slice a xs.length cap] 95)
  go_wp2_with (go_at_call 111; ((with_reducible refine (CK.out _ hF0).mono ?_); rintro e w1 ⟨rfl, hF1⟩; have c0 := hF1.cell (heap_cell (o := 0) hb0 rfl) (fun h => h); have c1 := hF1.cell (heap_cell (o := 1) hb0 rfl) (fun h => h); have c2 := hF1.cell (heap_cell (o := 2) hb0 rfl) (fun h => h); have hW := Row.new w1 5 (zs 64); have hF2 : Fr No w1 (w1.alloc (Obj.cells (bys (zs 64)).toArray 5)) := (Fr.refl _ _).alloc _; have d0 := hF2.cell c0 (fun h => h); have d1 := hF2.cell c1 (fun h => h); have d2 := hF2.cell c2 (fun h => h); have q0 := hW.cell (i := 0) (by rw [zs_length]; omega); have f0 := hW.frozen 0))
  rw [bys_set]
  clear hW hF2 d0 d1 d2 q0 f0
  have hW := Row.new w1 5 ((zs 64).set 0 (s.size : Int))
  have hF2 : Fr No w1 (w1.alloc (Obj.cells (bys ((zs 64).set 0 (s.size : Int))).toArray 5)) := (Fr.refl _ _).alloc _
  have hw1 : w.heap.size < w1.heap.size := Nat.lt_of_lt_of_le (by simp) hF1.size
  have hF02 := (hF0.trans hF1).trans hF2
  generalize (zs 64).set 0 (s.size : Int) = l1 at *
  generalize w1.alloc _ = W at *
  have d0 := hF2.cell c0 (fun h => h)
  have hW' : Row W.drew w1.heap.size 5 l1 := hW
  obtain ⟨W2, hR2, hF3, hrun⟩ := hW'.copyStr s 1 15 63 (by omega) (by omega)
  go_region
  have hF4 : Fr (fun k => k = w1.heap.size) W W2 := (Fr.refl _ W).drew.trans hF3
  have e1 := hF4.cell (hF2.cell c1 (fun h => h)) (by omega)
  have e2 := hF4.cell (hF2.cell c2 (fun h => h)) (by omega)
  have hsl : Sl W2 (.slice (some ⟨w1.heap.size, 0, none⟩) 64 64) (spl l1 1 (bytesOf s)).length (bys (spl l1 1 (bytesOf s))) := by have := hR2.sl; rw [hl2] at this; rw [hl2]; exact this
  have hp := rput_calls _ (spl l1 1 (bytesOf s)) 16 2 n W2 (by omega) (by omega) (by omega) (by omega) (by omega) hsl
  rw [hhead, hl2] at hp
  have hp2 : Calls Tryz.prog 92 #[.slice (some ⟨w1.heap.size, 0, none⟩) 64 64, .int .i64 16, .int .i64 2, .int .u64 n] W2 fun e w' => ∃ r, e = .returned r ∧ Fr No W2 w' ∧ w'.ownsRow W2.heap.size 5 1 r 64 (bys (encHead s n)) := hp
  have HP := Lib.hid hp2
  clear hp hp2
  clear hrun hmk c0 c1 c2 d0 hW hW' hsl
  go_wp2_with (go_at_call 92; ((with_reducible refine HP.out.mono ?_); rintro e w5 ⟨r5, rfl, hF5, hr5⟩; obtain ⟨g5, cap5, rfl, hg5, -⟩ := World.ownsRow.form hr5 (by omega); have k2 := hF5.cell e2 (fun h => h)))
  have hF5w : Fr No w w5 := (hF02.trans' hF4 (fun i hi e => by omega)).trans hF5
  have hws : w.heap.size ≤ W2.heap.size := Nat.le_trans hF02.size hF4.size
  replace hr5 := ownsRow_base hr5 hws
  clear e1 e2 HP hF5 hF4 hF3 hF2 hR2 hF02 k2
  go_loopw [33] (fun i wr => ∃ k : Nat, k ≤ xs.length ∧ i = .int .i64 k ∧ wr.ownsRow w.heap.size 5 1 (.slice (some ⟨g5, 0, none⟩) 64 cap5) 64 (bys (encN (encHead s n) xs k)) ∧ Fr No w wr) (fun i _ => xs.length - (intOf i).toNat)
  case atStart => exact ⟨0, Nat.zero_le _, rfl, hr5, hF5w⟩
  case round =>
    obtain ⟨k, hk, rfl, hR, hFr⟩ := hrel
    have hvr := hv.fr0 hFr
    by_cases hlt : k < xs.length
    · obtain ⟨y1, y2⟩ := extCells_get xs k hlt
      obtain ⟨b, off, rfl, hb, hc⟩ := hvr.at (by intro e; rw [e] at y1; cases y1)
      have hc1 := hc _ _ y1
      have hc2 := hc _ _ y2
      rw [← Nat.add_assoc] at hc2
      have hstep : encN (encHead s n) xs (k + 1) = ((encN (encHead s n) xs k).set (18 + 2 * k) (xs[k].1 % 256)).set (19 + 2 * k) (xs[k].2 % 256) := by rw [encN]; simp [List.getD, hlt]
      have hlk := encN_length (encHead s n) xs k
      revert hc1 hc2 hstep
      generalize xs[k] = x
      obtain ⟨x1, x2⟩ := x
      intro hc1 hc2 hstep
      have HSTEP := Lib.hid hstep
      clear hstep y1 y2 hc hv hvr
      rw [hL] at hlk
      go_wp2
      have hFA : Fr No wr (wr.alloc (Obj.cells #[.int .i64 x1, .int .i64 x2] 139)) := (Fr.refl _ _).alloc _
      have hn := heap_new wr (Obj.cells #[.int .i64 x1, .int .i64 x2] 139)
      have n0 := heap_cell (o := 0) hn rfl
      have n1 := heap_cell (o := 1) hn rfl
      have hRA := hR.alloc (Obj.cells #[.int .i64 x1, .int .i64 x2] 139)
      have q1 := (hRA.cellAt (18 + 2 * k) (by omega)).trans (bys_get _ (18 + 2 * k) (by omega))
      have q2 := (hRA.cellAt (19 + 2 * k) (by omega)).trans (bys_get _ (19 + 2 * k) (by omega))
      have r1 := hRA.frozenAt (18 + 2 * k)
      have r2 := hRA.frozenAt (19 + 2 * k)
      obtain ⟨hS1, hG1⟩ := hRA.stored (18 + 2 * k) (.int .u8 (x1 % 256))
      obtain ⟨hS2, hG2⟩ := hS1.stored (19 + 2 * k) (.int .u8 (x2 % 256))
      rw [bys_set, bys_set] at hS2
      have HS2 := Lib.hid hS2
      have hFS := ((hFr.trans hFA).grown hG1 (fun k e hk => by cases e; have := World.ownsRow.form hr5 (by omega); omega)).grown hG2 (fun k e hk => by cases e; omega)
      have HFS := Lib.hid hFS
      clear hR hRA hn hS1 hS2 hG1 hG2 hFS
      revert q1 q2
      generalize (encN (encHead s n) xs k)[18 + 2 * k] = o1
      generalize (encN (encHead s n) xs k)[19 + 2 * k] = o2
      intro q1 q2
      generalize wr.alloc _ = WA at *
      go_region
      go_wp2
      exact ⟨⟨k + 1, by omega, by go_num, by rw [HSTEP.out]; exact HS2.out.drew, HFS.out.drew⟩, by simp [intOf]; omega⟩
    · go_wp2
      go_ret2
      exact ⟨_, rfl, hFr, by rw [encF, show xs.length = k by omega]; exact hR⟩
end Go.Proofs.YtoajnmbbgbpbgaaGreat
namespace Go.Proofs.YtoajnmbbgbpbgaaGreat
set_option linter.unusedVariables false
set_option linter.unusedSimpArgs false
open Go.RowKit Go.Shelf

theorem icheck_calls (s : ByteArray) (n : Int) (v : Value) (xs : List (Int × Int)) (w : World) (hs : s.size ≤ 140737488355328) (h1 : -9223372036854775808 ≤ n) (h2 : n ≤ 9223372036854775807) (hlen : xs.length ≤ 100) (hv : Sl w v xs.length (extCells xs)) :
    Calls Tryz.prog 128 #[.agg #[.string s, .int .i64 n, v]] w fun e w' => e = .returned (.int .i64 (inoN s n xs)) ∧ Fr No w w' := by
  obtain ⟨a, cap, rfl⟩ := hv.form
  have C1 := Lib.hid (fun w1 (h : Fr No w w1) => check_calls _ xs w1 hlen (hv.fr0 h))
  have C2 := Lib.hid (fun w1 (h : Fr No w w1) => total_calls _ xs w1 hlen (hv.fr0 h))
  have C3 := Lib.hid (fun w1 => name_calls s w1 hs)
  have C4 := Lib.hid (fun w1 => need_calls n w1 h1 h2)
  cases hn : nameF s
  · rw [show inoN s n xs = 110 by rw [inoN, inoOk, hn]; rfl]
    exact icheck_1 s n a cap xs w C3 (Lib.hid hn)
  · by_cases h0 : n < 0
    · rw [show inoN s n xs = 110 by rw [inoN, inoOk, hn, decide_eq_false (show ¬ 0 ≤ n by omega)]; rfl]
      exact icheck_2 s n a cap xs w C3 (Lib.hid hn) h0
    · by_cases h3 : 1472 < n
      · rw [show inoN s n xs = 110 by rw [inoN, inoOk, hn, decide_eq_false (show ¬ n ≤ 1472 by omega)]; simp]
        exact icheck_3 s n a cap xs w C3 (Lib.hid hn) (decide_eq_false h0) h3
      · cases hc : okB (blkSeq (-1) xs)
        · rw [show inoN s n xs = 110 by rw [inoN, inoOk, hn, hc]; simp]
          exact icheck_4 s n a cap xs w C3 C1 (Lib.hid hn) (Lib.hid (by rw [checkN, hc]; rfl)) (decide_eq_false h0) (decide_eq_false h3)
        · cases hd : (((listF xs).length : Int) != needF n)
          · rw [show inoN s n xs = 0 by rw [inoN, inoOk, hn, hc, decide_eq_true (show 0 ≤ n by omega), decide_eq_true (show n ≤ 1472 by omega), decide_eq_true (show ((listF xs).length : Int) = needF n by simpa using hd)]; rfl]
            exact icheck_5 s n a cap xs w C3 C1 C2 C4 (Lib.hid hn) (Lib.hid (by rw [checkN, hc]; rfl)) (decide_eq_false h0) (decide_eq_false h3) hd
          · rw [show inoN s n xs = 110 by rw [inoN, inoOk, hn, hc, decide_eq_true (show 0 ≤ n by omega), decide_eq_true (show n ≤ 1472 by omega), decide_eq_false (show ¬ ((listF xs).length : Int) = needF n by simpa using hd)]; rfl]
            exact icheck_6 s n a cap xs w C3 C1 C2 C4 (Lib.hid hn) (Lib.hid (by rw [checkN, hc]; rfl)) (decide_eq_false h0) (decide_eq_false h3) hd

/-- An inode that may be: its parts' bounds. -/
theorem inoOk_small {s : ByteArray} {n : Int} {xs : List (Int × Int)} (h : inoOk s n xs = true) : 1 ≤ s.size ∧ s.size ≤ 15 ∧ 0 ≤ n ∧ n ≤ 1472 ∧ xs.length ≤ 23 := by
  simp only [inoOk, nameF, Bool.and_eq_true, decide_eq_true_eq] at h
  obtain ⟨⟨⟨⟨⟨⟨_, h1⟩, h2⟩, h3⟩, h4⟩, h5⟩, h6⟩ := h
  refine ⟨h1, by omega, h3, h4, ?_⟩
  have h7 : (listF xs).length ≤ 23 := by rw [h6 |> fun e => (by omega : (listF xs).length = (needF n).toNat)]; rw [needF]; split <;> omega
  have h8 : xs.length ≤ (listF xs).length := by
    rw [listF, if_pos h5]
    have hp := (of_decide_eq_true h5).1
    clear h5 h6 h7
    have key : ∀ (l : List (Int × Int)) (e : Int), (∀ b ∈ blkSeq e l, 0 ≤ b) → l.length ≤ (blkSeq e l).length := by
      intro l
      induction l with
      | nil => simp
      | cons x l ih =>
        intro e hb
        rw [blkSeq] at hb ⊢
        split at hb
        · have := hb (-1) (by simp); omega
        · rename_i hbad
          rw [if_neg hbad, List.length_append, List.length_cons]
          have := ih (x.1 + x.2) (fun b hb' => hb b (List.mem_append.2 (.inr hb')))
          have hx : 1 ≤ (run x).length := by
            simp only [Bool.not_eq_true, badX, Bool.or_eq_false_iff, decide_eq_false_iff_not] at hbad
            simp [run]; omega
          omega
    exact key xs (-1) hp
  omega

/-- What Encode comes to. -/
def EncPost (w : World) (s : ByteArray) (n : Int) (xs : List (Int × Int)) (e : Ending) (w' : World) : Prop :=
  Fr No w w' ∧ ((inoOk s n xs = true ∧ ∃ r, e = .returned (.tuple #[r, .int .i64 0]) ∧ Sn w.heap.size w' r 64 (bys (encF s n xs))) ∨ (inoOk s n xs = false ∧ e = .returned (.tuple #[.slice none 0 0, .int .i64 110])))

theorem encF_length (s : ByteArray) (n : Int) (xs : List (Int × Int)) (h : s.size ≤ 15) : (encF s n xs).length = 64 := by rw [encF, encN_length, encHead_length s n h]

set_option maxHeartbeats 1000000 in
set_option maxRecDepth 1000000 in
theorem encode_calls (s : ByteArray) (n : Int) (v : Value) (xs : List (Int × Int)) (w : World) (hs : s.size ≤ 140737488355328) (h1 : -9223372036854775808 ≤ n) (h2 : n ≤ 9223372036854775807) (hlen : xs.length ≤ 100) (hv : Sl w v xs.length (extCells xs)) :
    Calls Tryz.prog 110 #[.agg #[.string s, .int .i64 n, v]] w (EncPost w s n xs) := by
  obtain ⟨a, cap, rfl⟩ := hv.form
  have CK := fun w1 (h : Fr No w w1) => icheck_calls s n _ xs w1 hs h1 h2 hlen (hv.fr0 h)
  cases ho : inoOk s n xs
  · rw [show inoN s n xs = 110 by rw [inoN, ho]; rfl] at CK
    have CK' := Lib.hid CK
    clear CK hv h1 h2
    have hF0 : Fr No w (w.alloc (Obj.cells #[.string s, .int .i64 n, .slice a xs.length cap] 95)) := (Fr.refl _ _).alloc _
    go_enter Tryz.func110, Tryz.ntmps110
    go_wp2_with (go_at_call 128; ((with_reducible refine (CK'.out _ hF0).mono ?_); rintro e w1 ⟨rfl, hF1⟩))
    go_ret2
    exact ⟨hF0.trans hF1, .inr ⟨ho, rfl⟩⟩
  · obtain ⟨g1, g2, g3, g4, g5⟩ := inoOk_small ho
    rw [show inoN s n xs = 0 by rw [inoN, ho]; rfl] at CK
    refine (enc_calls s n a cap xs w g2 g1 g3 g4 g5 hv (Lib.hid CK)).mono ?_
    rintro e w' ⟨b, rfl, hF, hR, hb⟩
    have := hR.sl
    rw [encF_length s n xs g2] at this
    exact ⟨hF, .inl ⟨ho, _, rfl, this, fun k e _ => by cases e; exact hb⟩⟩

set_option maxHeartbeats 1000000 in
set_option maxRecDepth 1000000 in
theorem rencode_calls (s : ByteArray) (n : Int) (v : Value) (xs : List (Int × Int)) (w : World) (hs : s.size ≤ 140737488355328) (h1 : -9223372036854775808 ≤ n) (h2 : n ≤ 9223372036854775807) (hlen : xs.length ≤ 100) (hv : Sl w v xs.length (extCells xs)) :
    Calls Tryz.prog 85 #[.agg #[.string s, .int .i64 n, v]] w (EncPost w s n xs) := by
  obtain ⟨a, cap, rfl⟩ := hv.form
  have CK := fun w1 (h : Fr No w w1) => rcheck_calls s n _ xs w1 hs h1 h2 hlen (hv.fr0 h)
  cases ho : inoOk s n xs
  · rw [show inoN s n xs = 110 by rw [inoN, ho]; rfl] at CK
    have CK' := Lib.hid CK
    clear CK hv h1 h2
    have hF0 : Fr No w (w.alloc (Obj.cells #[.string s, .int .i64 n, .slice a xs.length cap] 95)) := (Fr.refl _ _).alloc _
    go_enter Tryz.func85, Tryz.ntmps85
    go_wp2_with (go_at_call 111; ((with_reducible refine (CK'.out _ hF0).mono ?_); rintro e w1 ⟨rfl, hF1⟩))
    go_ret2
    exact ⟨hF0.trans hF1, .inr ⟨ho, rfl⟩⟩
  · obtain ⟨g1, g2, g3, g4, g5⟩ := inoOk_small ho
    rw [show inoN s n xs = 0 by rw [inoN, ho]; rfl] at CK
    refine (renc_calls s n a cap xs w g2 g1 g3 g4 g5 hv (Lib.hid CK)).mono ?_
    rintro e w' ⟨r, rfl, hF, hR⟩
    exact ⟨hF, .inl ⟨ho, _, rfl, Sn.of_owns hR⟩⟩
end Go.Proofs.YtoajnmbbgbpbgaaGreat
namespace Go.Proofs.YtoajnmbbgbpbgaaGreat
set_option linter.unusedVariables false
set_option linter.unusedSimpArgs false
open Go.RowKit Go.Shelf

end Go.Proofs.YtoajnmbbgbpbgaaGreat
namespace Go.Proofs.YtoajnmbbgbpbgaaGreat
set_option linter.unusedVariables false
set_option linter.unusedSimpArgs false
open Go.RowKit Go.Shelf

theorem encF_range (s : ByteArray) (n : Int) (xs : List (Int × Int)) (hs : s.size ≤ 15) : ∀ b ∈ encF s n xs, 0 ≤ b ∧ b < 256 := by
  have hset : ∀ (l : List Int) (i : Nat) (x : Int), (∀ b ∈ l, 0 ≤ b ∧ b < 256) → (0 ≤ x ∧ x < 256) → ∀ b ∈ l.set i x, 0 ≤ b ∧ b < 256 := fun l i x h1 h2 b hb => by
    rcases List.mem_or_eq_of_mem_set hb with h | rfl
    · exact h1 b h
    · exact h2
  have hspl : ∀ (l m : List Int) (o : Nat), (∀ b ∈ l, 0 ≤ b ∧ b < 256) → (∀ b ∈ m, 0 ≤ b ∧ b < 256) → ∀ b ∈ spl l o m, 0 ≤ b ∧ b < 256 := fun l m o h1 h2 b hb => by
    simp only [spl, List.mem_append] at hb
    rcases hb with (h | h) | h
    · exact h1 b (List.mem_of_mem_take h)
    · exact h2 b h
    · exact h1 b (List.mem_of_mem_drop h)
  have hzs : ∀ k, ∀ b ∈ zs k, 0 ≤ b ∧ b < 256 := fun k b hb => by simp only [zs, List.mem_replicate] at hb; omega
  have hw : ∀ x : Int, 0 ≤ IntKind.u8.wrap x ∧ IntKind.u8.wrap x < 256 := fun x => by rw [IntKind.wrap_u8]; omega
  have hhead : ∀ b ∈ encHead s n, 0 ≤ b ∧ b < 256 := by
    refine hspl _ _ _ (hset _ _ _ (hspl _ _ _ (hzs 64) (bytesOf_range s)) (by omega)) ?_
    exact hset _ _ _ (hset _ _ _ (hzs 2) (hw _)) (hw _)
  have : ∀ k, ∀ b ∈ encN (encHead s n) xs k, 0 ≤ b ∧ b < 256 := fun k => by
    induction k with
    | zero => exact hhead
    | succ k ih => exact hset _ _ _ (hset _ _ _ ih (by omega)) (by omega)
  exact this xs.length

/-- What Encode comes to, said once for inodes that may be and that may not. -/
def encL (s : ByteArray) (n : Int) (xs : List (Int × Int)) : List Int := if inoOk s n xs = true then encF s n xs else []
theorem encL_range (s : ByteArray) (n : Int) (xs : List (Int × Int)) : ∀ b ∈ encL s n xs, 0 ≤ b ∧ b < 256 := by
  intro b hb
  rw [encL] at hb
  split at hb
  · rename_i h; exact encF_range s n xs (inoOk_small h).2.1 b hb
  · cases hb
theorem enc_uni {w w' : World} {s : ByteArray} {n : Int} {xs : List (Int × Int)} {e : Ending} (h : EncPost w s n xs e w') :
    Fr No w w' ∧ ∃ r, e = .returned (.tuple #[r, .int .i64 (inoN s n xs)]) ∧ Sl w' r (encL s n xs).length (bys (encL s n xs)) := by
  obtain ⟨hF, ⟨ho, r, rfl, hr⟩ | ⟨ho, rfl⟩⟩ := h
  · refine ⟨hF, r, by rw [inoN, if_pos ho], ?_⟩
    rw [encL, if_pos ho, encF_length s n xs (inoOk_small ho).2.1]; exact hr.1
  · refine ⟨hF, _, by rw [inoN, ho]; rfl, ?_⟩
    rw [encL, ho]; exact Sl.nil _

end Go.Proofs.YtoajnmbbgbpbgaaGreat
