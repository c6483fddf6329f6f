/-
  The reference's map of sectors; both maps with some held.
-/
import Derived.Test.YtpcikbloflpahaaDoorYG
import Derived.Test.YtpcikbloflpahaaDoorZPn7
namespace Go.Proofs.YtpcikbloflpahaaDoor
set_option linter.unusedVariables false
set_option linter.unusedSimpArgs false
open Go.RowKit Go.Shelf Go.Maps

structure RmG (w : World) (rb hb : Nat) (c : List Int) : Prop where
  box : w.heap[rb]? = some (.cells [.slice (some ⟨hb, 0, none⟩) c.length c.length].toArray 111 (0, 0))
  cnt : w.heap[hb]? = some (.cells (ints7 c).toArray 3 (0, 0))
  len : c.length ≤ 2000
  rng : ∀ x ∈ c, 0 ≤ x ∧ x ≤ 1000000
theorem RmG.fr {S : Nat → Prop} {w w' : World} {rb hb : Nat} {c : List Int} (h : RmG w rb hb c) (hF : Fr S w w') (h1 : ¬ S rb) (h2 : ¬ S hb) : RmG w' rb hb c := ⟨hF.heap h.box h1, hF.heap h.cnt h2, h.len, h.rng⟩
theorem RmG.fr0 {w w' : World} {rb hb : Nat} {c : List Int} (h : RmG w rb hb c) (hF : Fr No w w') : RmG w' rb hb c := h.fr hF (fun h => h) (fun h => h)
theorem RmG.ne {w : World} {rb hb : Nat} {c : List Int} (h : RmG w rb hb c) : rb ≠ hb :=
  fun e => by have a := h.box; have b := h.cnt; rw [e, b] at a; injection a with a; injection a with _ a; exact absurd a (by decide)
theorem RmG.lt {w : World} {rb hb : Nat} {c : List Int} (h : RmG w rb hb c) : rb < w.heap.size ∧ hb < w.heap.size := ⟨heap_lt7 h.box, heap_lt7 h.cnt⟩
set_option maxHeartbeats 1000000 in
set_option maxRecDepth 1000000 in
theorem rmnew_calls (N : Nat) (hN : N ≤ 2000) (w : World) : Calls Tryd.prog 43 #[.int .i64 (N : Int)] w fun e w' => ∃ rb hb, e = .returned (.pointer (some ⟨rb, 0, none⟩)) ∧ RmG w' rb hb (List.replicate N 0) ∧ Fr No w w' ∧ w.heap.size ≤ rb ∧ w.heap.size ≤ hb := by
  have hmk := fun w : World => mk_intn w N hN
  have d1 : decide ((N : Int) < 0) = false := decide_eq_false (by omega)
  have d2 : decide (2000 < (N : Int)) = false := decide_eq_false (by omega)
  have d3 : decide (0 < (N : Int)) = decide (0 < N) := by simp
  have HN := Lib.hid hN
  go_enter Tryd.func43, Tryd.ntmps43
  go_wp2_with fail
  go_ret
  refine ⟨w.heap.size + 1, w.heap.size, rfl, ⟨?_, ?_, by rw [List.length_replicate]; exact HN.out, fun x hx => ?_⟩, ((Fr.refl No w).alloc _).alloc _, by omega, by omega⟩
  · rw [List.length_replicate]; exact heap_new2_7 _ _ _
  · exact heap_alloc _ (heap_new _ _)
  · have := List.eq_of_mem_replicate hx
    omega
set_option maxHeartbeats 1000000 in
set_option maxRecDepth 1000000 in
theorem rmhas_calls {w : World} {rb hb : Nat} {c : List Int} (h : RmG w rb hb c) (n : Int) :
    Calls Tryd.prog 53 #[.pointer (some ⟨rb, 0, none⟩), .int .i64 n] w fun e w' => e = .returned (.bool (decide (2 ≤ n ∧ n < (c.length : Int)))) ∧ w' = w := by
  have k0 : w.cell? ⟨rb, 0, none⟩ = some (.slice (some ⟨hb, 0, none⟩) c.length c.length) := heap_cell (o := 0) h.box rfl
  clear h
  obtain ⟨r, hr⟩ : ∃ r, decide (2 ≤ n ∧ n < (c.length : Int)) = r := ⟨_, rfl⟩
  rw [hr]
  by_cases h1 : 2 ≤ n
  · have d1 : decide ((2 : Int) ≤ n) = true := decide_eq_true h1
    have hr2 : decide (n < (c.length : Int)) = r := by rw [← hr]; simp [h1]
    clear hr h1
    go_enter Tryd.func53, Tryd.ntmps53
    go_wp2_with fail
    go_ret
    exact ⟨rfl, rfl⟩
  · have d1 : decide ((2 : Int) ≤ n) = false := decide_eq_false h1
    obtain rfl : r = false := by rw [← hr]; simp [h1]
    clear hr h1
    go_enter Tryd.func53, Tryd.ntmps53
    go_wp2_with fail
    go_ret
    exact ⟨rfl, rfl⟩
set_option maxHeartbeats 1000000 in
set_option maxRecDepth 1000000 in
theorem rmhold_calls {w : World} {rb hb : Nat} {c : List Int} (h : RmG w rb hb c) (n : Int) (hx : ∀ x ∈ c, x < 1000000) :
    Calls Tryd.prog 45 #[.pointer (some ⟨rb, 0, none⟩), .int .i64 n] w fun e w' => (∃ r : Int, e = .returned (.int .i64 r)) ∧ RmG w' rb hb (holdC c n) ∧ Fr (fun k => k = hb) w w' := by
  have HH := Lib.hid (rmhas_calls h n)
  by_cases hin : 2 ≤ n ∧ n < (c.length : Int)
  · obtain ⟨m, rfl⟩ : ∃ m : Nat, n = (m : Int) := ⟨n.toNat, by omega⟩
    have hm : m < c.length := by omega
    have hne := h.ne
    have hlen := h.len
    have k0 : w.cell? ⟨rb, 0, none⟩ = some (.slice (some ⟨hb, 0, none⟩) c.length c.length) := heap_cell (o := 0) h.box rfl
    have kc : w.cell? ⟨hb, m, none⟩ = some (.int .i64 (c.getD m 0)) := heap_cell h.cnt (by rw [List.getElem?_toArray]; exact ints7_get c m hm)
    have fc := heap_frozen (o := m) h.cnt
    have hc0 : 0 ≤ c.getD m 0 ∧ c.getD m 0 < 1000000 := by
      rw [List.getD_eq_getElem?_getD, List.getElem?_eq_getElem hm]
      exact ⟨(h.rng _ (List.getElem_mem hm)).1, hx _ (List.getElem_mem hm)⟩
    rw [show holdC c (m : Int) = c.set m (c.getD m 0 + 1) from by unfold holdC; rw [if_pos hin, Int.toNat_natCast]]
    rw [decide_eq_true hin] at HH
    have H := Lib.hid h
    have HZ := Lib.hid (fun x (e : c.getD m 0 = x) => (ints7_set c m (x + 1)))
    generalize c.getD m 0 = x at *
    have hw : IntKind.i64.wrap (x + 1) = x + 1 := IntWalk.i64_in _ (by omega)
    clear h hx hin HZ
    go_enter Tryd.func45, Tryd.ntmps45
    go_wp2_with fail
    refine HH.out.mono ?_
    rintro e w1 ⟨rfl, rfl⟩
    go_wp2_with fail
    go_ret
    have hFs : Fr (fun k => k = hb) w1 (w1.setCell ⟨hb, m, none⟩ (.int .i64 (x + 1))) := (Fr.refl (fun k => k = hb) w1).setCell (p := ⟨hb, m, none⟩) (fun _ => rfl) _
    refine ⟨⟨0, rfl⟩, ⟨?_, ?_, by rw [List.length_set]; exact hlen, fun y hy => ?_⟩, hFs⟩
    · rw [List.length_set]; exact hFs.heap H.out.box hne
    · rw [← ints7_set]; exact heap_setAt7 H.out.cnt _ _
    · rcases List.mem_or_eq_of_mem_set hy with h | rfl
      · exact H.out.rng y h
      · omega
  · rw [show holdC c n = c from if_neg hin]
    rw [decide_eq_false hin] at HH
    have H := Lib.hid h
    clear h hx hin
    go_enter Tryd.func45, Tryd.ntmps45
    go_wp2_with fail
    refine HH.out.mono ?_
    rintro e w1 ⟨rfl, rfl⟩
    go_wp2_with fail
    go_ret
    exact ⟨⟨1, rfl⟩, H.out, Fr.refl _ _⟩
/-- Some are held. -/
def heldC (N : Nat) (l : List Int) : List Int := l.foldl holdC (List.replicate N 0)
theorem heldC_len (N : Nat) (l : List Int) : (heldC N l).length = N := by
  unfold heldC
  suffices ∀ c : List Int, (l.foldl holdC c).length = c.length by rw [this]; simp
  induction l with
  | nil => exact fun c => rfl
  | cons n l ih => exact fun c => by rw [List.foldl_cons, ih, holdC_len]
theorem heldC_snoc (N : Nat) (l : List Int) (n : Int) : heldC N (l ++ [n]) = holdC (heldC N l) n := by simp [heldC]
theorem holdC_le {c : List Int} {n B : Int} (h : ∀ x ∈ c, 0 ≤ x ∧ x ≤ B) : ∀ x ∈ holdC c n, 0 ≤ x ∧ x ≤ B + 1 := by
  intro x hx
  unfold holdC at hx
  split at hx
  · rename_i hin
    rcases List.mem_or_eq_of_mem_set hx with h1 | rfl
    · have := h x h1; omega
    · have hm : n.toNat < c.length := by omega
      have : c.getD n.toNat 0 ∈ c := by
        rw [List.getD_eq_getElem?_getD, List.getElem?_eq_getElem hm]
        exact List.getElem_mem hm
      have := h _ this
      omega
  · have := h x hx; omega
theorem heldC_le (N : Nat) (l : List Int) : ∀ x ∈ heldC N l, 0 ≤ x ∧ x ≤ (l.length : Int) := by
  suffices ∀ n ≤ l.length, ∀ x ∈ heldC N (l.take n), 0 ≤ x ∧ x ≤ (n : Int) by
    have := this l.length (Nat.le_refl _)
    rwa [List.take_length] at this
  intro n
  induction n with
  | zero => intro _ x hx; have : x = 0 := List.eq_of_mem_replicate (n := N) (by simpa [heldC] using hx); omega
  | succ n ih =>
    intro hn x hx
    rw [List.take_succ_eq_append_getElem (by omega), heldC_snoc] at hx
    have := holdC_le (B := (n : Int)) (ih (by omega)) x hx
    omega
set_option maxHeartbeats 4000000 in
set_option maxRecDepth 1000000 in
theorem held_calls {w : World} (N : Nat) (hN : N ≤ 2000) (v : Value) (l : List Int) (hl : l.length ≤ 100000) (hv : Sl w v l.length (ints7 l)) :
    Calls Tryd.prog 18 #[.int .i64 (N : Int), v] w fun e w' => ∃ mb cb fb rb hb, e = .returned (.tuple #[.pointer (some ⟨mb, 0, none⟩), .pointer (some ⟨rb, 0, none⟩)]) ∧ SpG w' mb cb fb (heldC N l) ∧ RmG w' rb hb (heldC N l) ∧ Fr No w w' ∧ w.heap.size ≤ mb ∧ w.heap.size ≤ cb ∧ w.heap.size ≤ fb ∧ w.heap.size ≤ rb ∧ w.heap.size ≤ hb ∧ (∀ k, SpB mb cb fb k → k ≠ rb ∧ k ≠ hb) := by
  have HV := Lib.hid hv
  have HN1 := Lib.hid (spnewg_calls N hN w)
  have HN2 := Lib.hid (fun w1 => rmnew_calls N hN w1)
  have HLE := Lib.hid (fun j => heldC_le N (l.take j))
  have HN := Lib.hid hN
  obtain ⟨av, cv, rfl⟩ := hv.form
  clear hv
  go_enter Tryd.func18, Tryd.ntmps18
  go_wp2_with fail
  refine HN1.out.mono ?_
  rintro e w1 ⟨mb, cb, fb, rfl, hS, hF1, g1, g2, g3⟩
  have HS := Lib.hid hS
  have HF1 := Lib.hid hF1
  clear hS hF1
  go_wp2_with fail
  refine (HN2.out w1).mono ?_
  rintro e w2 ⟨rb, hb, rfl, hR, hF2, g4, g5⟩
  have HR := Lib.hid hR
  have HS2 := Lib.hid (HS.out.fr0 hF2)
  have HF2 := Lib.hid (HF1.out.trans hF2)
  have hlo := HS.out.low
  have hsz := HF1.out.size
  have HNE : RowKit.Hid (∀ k, SpB mb cb fb k → k ≠ rb ∧ k ≠ hb) := Lib.hid (fun k hk => by have := hlo k hk; omega)
  have HG := Lib.hid (show w.heap.size ≤ mb ∧ w.heap.size ≤ cb ∧ w.heap.size ≤ fb ∧ w.heap.size ≤ rb ∧ w.heap.size ≤ hb by omega)
  clear hF2 hR hlo hsz g1 g2 g3 g4 g5
  go_wp2_with fail
  go_loopw [16] (fun i wr => ∃ j : Nat, j ≤ l.length ∧ i = .int .i64 (j : Int) ∧ SpG wr mb cb fb (heldC N (l.take j)) ∧ RmG wr rb hb (heldC N (l.take j)) ∧ Fr No w wr) (fun i _ => l.length - (intOf i).toNat)
  case atStart => exact ⟨0, by omega, rfl, HS2.out, HR.out, HF2.out⟩
  case round =>
    obtain ⟨j, hj, rfl, hS, hR, hF⟩ := hrel
    by_cases hlt : j < l.length
    · have dj : decide ((j : Int) < (l.length : Int)) = true := decide_eq_true (by omega)
      have hget : (ints7 l)[j]? = some (.int .i64 l[j]) := by simp [ints7, hlt]
      obtain ⟨g, o, rfl, -, hc⟩ := (HV.out.fr0 hF).at (fun e : ints7 l = [] => by rw [e] at hget; simp at hget)
      have x1 := hc _ _ hget
      have htk : heldC N (l.take (j + 1)) = holdC (heldC N (l.take j)) l[j] := by rw [List.take_succ_eq_append_getElem hlt, heldC_snoc]
      have HTK := Lib.hid htk
      have hle := HLE.out j
      have hlj : (l.take j).length ≤ l.length := by rw [List.length_take]; omega
      have hx6 : ∀ x ∈ heldC N (l.take j), x < 1000000 := fun x hx => by have := hle x hx; omega
      have HS := Lib.hid hS
      have HR := Lib.hid hR
      have HF := Lib.hid hF
      have HC1 := Lib.hid (shold_calls hS l[j] hx6)
      have HC2 := Lib.hid (fun w1 (h : RmG w1 rb hb (heldC N (l.take j))) => rmhold_calls h l[j] hx6)
      clear hS hR hF hc hget htk hle hlj hx6
      generalize l[j] = x at *
      generalize heldC N (l.take j) = c at *
      go_wp2_with fail
      refine HC1.out.mono ?_
      rintro e w3 ⟨⟨r, rfl⟩, hS3, hF3⟩
      have HS3 := Lib.hid hS3
      have HR3 := Lib.hid (HR.out.fr hF3 (fun e => by have := (HNE.out cb (.inr (.inl rfl))).1; have := (HNE.out fb (.inr (.inr rfl))).1; omega) (fun e => by have := (HNE.out cb (.inr (.inl rfl))).2; have := (HNE.out fb (.inr (.inr rfl))).2; omega))
      have HF3 := Lib.hid (HF.out.trans' hF3 (fun i hi e => by have := HG.out; omega))
      clear hS3 hF3
      go_wp2_with fail
      refine (HC2.out _ HR3.out).mono ?_
      rintro e w4 ⟨⟨r2, rfl⟩, hR4, hF4⟩
      have HS4 := Lib.hid (HS3.out.fr hF4 (fun k hk (e : k = hb) => (HNE.out k hk).2 e))
      have HR4 := Lib.hid hR4
      have HF4 := Lib.hid (HF3.out.trans' hF4 (fun i hi (e : i = _) => by have := HG.out; omega))
      clear hR4 hF4
      go_wp2_with fail
      refine ⟨⟨j + 1, by omega, by go_num, by rw [HTK.out]; exact HS4.out, by rw [HTK.out]; exact HR4.out, HF4.out⟩, by simp [intOf]; omega⟩
    · obtain rfl : j = l.length := by omega
      have dj : decide ((l.length : Int) < (l.length : Int)) = false := decide_eq_false (by omega)
      rw [List.take_length] at hS hR
      have HS := Lib.hid hS
      have HR := Lib.hid hR
      have HF := Lib.hid hF
      clear hS hR hF
      go_wp2_with fail
      go_ret2
      exact ⟨mb, cb, fb, rb, hb, rfl, HS.out, HR.out, HF.out, HG.out.1, HG.out.2.1, HG.out.2.2.1, HG.out.2.2.2.1, HG.out.2.2.2.2, HNE.out⟩
end Go.Proofs.YtpcikbloflpahaaDoor
namespace Go.Proofs.YtpcikbloflpahaaDoor
set_option linter.unusedVariables false
set_option linter.unusedSimpArgs false
open Go.RowKit Go.Shelf Go.Maps

set_option maxHeartbeats 1000000 in
set_option maxRecDepth 1000000 in
theorem rmcount_calls {w : World} {rb hb : Nat} {c : List Int} (h : RmG w rb hb c) (n : Nat) (h2 : 2 ≤ n) (hn : n < c.length) :
    Calls Tryd.prog 28 #[.pointer (some ⟨rb, 0, none⟩), .int .i64 (n : Int)] w fun e w' => e = .returned (.int .i64 (c.getD n 0)) ∧ w' = w := by
  have HH := Lib.hid (rmhas_calls h (n : Int))
  rw [decide_eq_true (show 2 ≤ (n : Int) ∧ (n : Int) < (c.length : Int) by omega)] at HH
  have k0 : w.cell? ⟨rb, 0, none⟩ = some (.slice (some ⟨hb, 0, none⟩) c.length c.length) := heap_cell (o := 0) h.box rfl
  have kc : w.cell? ⟨hb, n, none⟩ = some (.int .i64 (c.getD n 0)) := heap_cell h.cnt (by rw [List.getElem?_toArray]; exact ints7_get c n hn)
  generalize c.getD n 0 = x at *
  clear h
  go_enter Tryd.func28, Tryd.ntmps28
  go_wp2_with fail
  refine HH.out.mono ?_
  rintro e w1 ⟨rfl, rfl⟩
  go_wp2_with fail
  go_ret
  exact ⟨rfl, rfl⟩
/-- Those that are held. -/
def usedJ (c : List Int) (j : Nat) : List Int := ((List.range j).filter fun n => decide (2 ≤ n) && decide (0 < c.getD n 0)).map fun (n : Nat) => (n : Int)
theorem usedJ_succ (c : List Int) (j : Nat) (h2 : 2 ≤ j) : usedJ c (j + 1) = usedJ c j ++ (if 0 < c.getD j 0 then [(j : Int)] else []) := by
  unfold usedJ
  rw [List.range_succ, List.filter_append, List.map_append]
  congr 1
  by_cases h : 0 < c.getD j 0
  · rw [if_pos h, List.filter_cons_of_pos (by rw [decide_eq_true h2, decide_eq_true h]; rfl), List.filter_nil]; rfl
  · rw [if_neg h, List.filter_cons_of_neg (by rw [decide_eq_false h]; simp), List.filter_nil]; rfl
theorem usedJ_two (c : List Int) : usedJ c 2 = [] := by
  unfold usedJ
  have : (List.range 2).filter (fun n => decide (2 ≤ n) && decide (0 < c.getD n 0)) = [] := by
    rw [List.filter_eq_nil_iff]
    intro n hn
    have := List.mem_range.1 hn
    have h : ¬ 2 ≤ n := by omega
    simp [h]
  rw [this]; rfl
theorem usedJ_le (c : List Int) (j : Nat) : (usedJ c j).length ≤ j := by
  unfold usedJ
  rw [List.length_map]
  have := List.length_filter_le (fun n => decide (2 ≤ n) && decide (0 < c.getD n 0)) (List.range j)
  simpa using this
theorem used_mem {c : List Int} {j : Nat} {x : Int} : x ∈ usedJ c j ↔ ∃ n : Nat, x = (n : Int) ∧ n < j ∧ 2 ≤ n ∧ 0 < c.getD n 0 := by
  unfold usedJ
  rw [List.mem_map]
  constructor
  · rintro ⟨n, hn, rfl⟩
    rw [List.mem_filter] at hn
    simp only [Bool.and_eq_true, decide_eq_true_iff] at hn
    exact ⟨n, rfl, List.mem_range.1 hn.1, hn.2.1, hn.2.2⟩
  · rintro ⟨n, rfl, h1, h2, h3⟩
    refine ⟨n, ?_, rfl⟩
    rw [List.mem_filter]
    simp only [Bool.and_eq_true, decide_eq_true_iff]
    exact ⟨List.mem_range.2 h1, h2, h3⟩
theorem countP_one (p : Nat → Bool) (j : Nat) : [j].countP p = if p j = true then 1 else 0 := by
  rw [List.countP_cons, List.countP_nil]
  omega
/-- Held and free ones are all. -/
theorem used_free {c : List Int} (hr : ∀ x ∈ c, 0 ≤ x) (h2 : 2 ≤ c.length) : freeN c + (usedJ c c.length).length + 2 = c.length := by
  have gen : ∀ j, j + 2 ≤ c.length → (List.range (j + 2)).countP (freeQ c) + (usedJ c (j + 2)).length + 2 = j + 2 := by
    intro j
    induction j with
    | zero =>
      intro _
      rw [usedJ_two]
      have : (List.range (0 + 2)).countP (freeQ c) = 0 := by
        rw [List.countP_eq_zero]
        intro n hn
        have := List.mem_range.1 hn
        intro h
        have := (freeQ_iff.1 h).1
        omega
      rw [this]; rfl
    | succ j ih =>
      intro hj
      have hi := ih (by omega)
      have hlt : j + 2 < c.length := by omega
      have hge : 0 ≤ c.getD (j + 2) 0 := by
        rw [List.getD_eq_getElem?_getD, List.getElem?_eq_getElem hlt]
        exact hr _ (List.getElem_mem hlt)
      rw [show j + 1 + 2 = (j + 2) + 1 from by omega, List.range_succ, List.countP_append, usedJ_succ c (j + 2) (by omega), List.length_append, countP_one]
      by_cases h0 : 0 < c.getD (j + 2) 0
      · have hq : ¬ freeQ c (j + 2) = true := fun hq => by have := (freeQ_iff.1 hq).2.2; omega
        rw [if_pos h0, if_neg hq]
        simp only [List.length_cons, List.length_nil]
        omega
      · have hq : freeQ c (j + 2) = true := freeQ_iff.2 ⟨by omega, hlt, by omega⟩
        rw [if_neg h0, if_pos hq]
        simp only [List.length_nil]
        omega
  have := gen (c.length - 2) (by omega)
  rw [show c.length - 2 + 2 = c.length from by omega] at this
  exact this
theorem used_small {c : List Int} (h2 : c.length < 2) : freeN c = 0 ∧ usedJ c c.length = [] := by
  constructor
  · unfold freeN
    rw [List.countP_eq_zero]
    intro n hn h
    have := freeQ_iff.1 h
    omega
  · exact List.eq_nil_iff_forall_not_mem.2 fun x hx => by obtain ⟨n, -, h3, h4, -⟩ := used_mem.1 hx; omega
set_option maxHeartbeats 4000000 in
set_option maxRecDepth 1000000 in
theorem rmused_calls {w : World} {rb hb : Nat} {c : List Int} (h : RmG w rb hb c) :
    Calls Tryd.prog 25 #[.pointer (some ⟨rb, 0, none⟩)] w fun e w' => ∃ r, e = .returned r ∧ Fr No w w' ∧ w'.ownsRow w.heap.size 3 1 r (usedJ c c.length).length (ints7 (usedJ c c.length)) := by
  have H := Lib.hid h
  have hlen := h.len
  have k0 : w.cell? ⟨rb, 0, none⟩ = some (.slice (some ⟨hb, 0, none⟩) c.length c.length) := heap_cell (o := 0) h.box rfl
  have HU := Lib.hid (usedJ_two c)
  have HEND : RowKit.Hid (c.length < 2 → usedJ c c.length = []) := Lib.hid (fun hl => List.eq_nil_iff_forall_not_mem.2 fun x hx => by obtain ⟨n, -, h3, h4, -⟩ := used_mem.1 hx; omega)
  clear h
  go_enter Tryd.func25, Tryd.ntmps25
  go_wp2_with fail
  go_loopw [3, 4] (fun v i wr => ∃ j : Nat, 2 ≤ j ∧ (j ≤ c.length ∨ j = 2) ∧ i = .int .i64 (j : Int) ∧ wr.ownsRow w.heap.size 3 1 v (usedJ c j).length (ints7 (usedJ c j)) ∧ Fr No w wr) (fun _ i _ => c.length - (intOf i).toNat)
  case atStart => exact ⟨2, by omega, .inr rfl, rfl, by rw [HU.out]; exact World.ownsRow_nil _ _ _ _, Fr.refl _ _⟩
  case round =>
    obtain ⟨j, h2, hj, rfl, hown, hF⟩ := hrel
    obtain ⟨av, cv, rfl⟩ := (Sl.of_owns hown).form
    have k0 := hF.cell k0 (fun h => h)
    by_cases hlt : j < c.length
    · have dj : decide ((j : Int) < (c.length : Int)) = true := decide_eq_true (by omega)
      have kc : wr.cell? ⟨hb, j, none⟩ = some (.int .i64 (c.getD j 0)) := hF.cell (heap_cell H.out.cnt (by rw [List.getElem?_toArray]; exact ints7_get c j hlt)) (fun h => h)
      have hus := usedJ_succ c j h2
      have hul := usedJ_le c j
      generalize c.getD j 0 = x at *
      generalize hu : usedJ c j = u at *
      generalize hu2 : usedJ c (j + 1) = u2 at *
      have HU2 := Lib.hid hu2
      by_cases hx : 0 < x
      · have dx : decide (0 < x) = true := decide_eq_true hx
        rw [if_pos hx] at hus
        have HUS := Lib.hid hus
        have HO := Lib.hid (hown.alloc (Obj.cells #[.int .i64 (j : Int)] 3))
        have HS := Lib.hid (sl_new7 wr [.int .i64 (j : Int)] 3 1 (by simp) (by omega))
        have HF := Lib.hid hF
        have HOW := Lib.hid hown
        clear hus hown hF hu hu2
        go_wp2_with (first
          | (at_builtin; (refine append_at7 (m := 1) el_int7 rfl _ _ rfl w.heap.size (.slice av u.length cv) u.length (ints7 u) rfl HO.out rfl HS.out rfl (fun u hu => by simp at hu; rcases hu with rfl; rfl) (by unfold maxLen; omega) (by omega) (Nat.le_trans HF.out.size ((Fr.refl No wr).alloc _).size) ?_; intro a3 n3 c3 w3 hown3 hgrow3 hlie3))
          | fail "arm")
        refine ⟨⟨j + 1, by omega, .inl (by omega), by go_num, ?_, ?_⟩, by simp [intOf]; omega⟩
        · rw [HU2.out, HUS.out, List.length_append, show ints7 (u ++ [(j : Int)]) = ints7 u ++ [.int .i64 (j : Int)] from by simp [ints7]]
          exact hown3
        · exact (HF.out.alloc (Obj.cells #[.int .i64 (j : Int)] 3)).trans' (fr_grown7 hgrow3) (fun i hi e => by have := (HOW.out.lt i e).1; omega)
      · have dx : decide (0 < x) = false := decide_eq_false hx
        rw [if_neg hx, List.append_nil] at hus
        have HN := Lib.hid (show wr.ownsRow w.heap.size 3 1 (.slice av u.length cv) u2.length (ints7 u2) from by rw [hus]; exact hown)
        have HF := Lib.hid hF
        clear hus hown hF hu hu2
        go_wp2_with fail
        refine ⟨⟨j + 1, by omega, .inl (by omega), by go_num, by rw [HU2.out]; exact HN.out, HF.out⟩, by simp [intOf]; omega⟩
    · have dj : decide ((j : Int) < (c.length : Int)) = false := decide_eq_false (by omega)
      have he : usedJ c j = usedJ c c.length := by
        rcases hj with hj | rfl
        · rw [show j = c.length from by omega]
        · by_cases e : c.length = 2
          · rw [e]
          · rw [HU.out, HEND.out (by omega)]
      have HX := Lib.hid (And.intro hown hF)
      have HE := Lib.hid he
      clear hown hF he
      go_wp2_with fail
      go_ret
      refine ⟨_, rfl, HX.out.2, ?_⟩
      rw [← HE.out]
      exact HX.out.1
end Go.Proofs.YtpcikbloflpahaaDoor
namespace Go.Proofs.YtpcikbloflpahaaDoor
set_option linter.unusedVariables false
set_option linter.unusedSimpArgs false
open Go.RowKit Go.Shelf Go.Maps

attribute [local irreducible] usedJ freeN
set_option maxHeartbeats 4000000 in
set_option maxRecDepth 1000000 in
theorem rmfree_calls {w : World} {rb hb : Nat} {c : List Int} (h : RmG w rb hb c) :
    Calls Tryd.prog 23 #[.pointer (some ⟨rb, 0, none⟩)] w fun e w' => e = .returned (.int .i64 (freeN c : Int)) ∧ Fr No w w' := by
  have k0 : w.drew.cell? ⟨rb, 0, none⟩ = some (.slice (some ⟨hb, 0, none⟩) c.length c.length) := heap_cell (w := w) (o := 0) h.box rfl
  have HU := Lib.hid (rmused_calls (h.fr0 (Fr.refl No w).drew))
  have hlen := h.len
  have hfree : (c.length < 2 ∧ freeN c = 0 ∧ (usedJ c c.length).length = 0) ∨ (2 ≤ c.length ∧ freeN c + (usedJ c c.length).length + 2 = c.length) := by
    by_cases h2 : c.length < 2
    · obtain ⟨a, b⟩ := used_small h2
      exact .inl ⟨h2, a, by rw [b]; rfl⟩
    · exact .inr ⟨by omega, used_free (fun x hx => (h.rng x hx).1) (by omega)⟩
  obtain ⟨fc, hfc⟩ : ∃ fc, freeN c = fc := ⟨_, rfl⟩
  rw [hfc] at hfree ⊢
  generalize (usedJ c c.length).length = ul at *
  generalize c.length = N at *
  clear h hfc
  have hw1 : IntKind.i64.wrap ((N : Int) - 2) = (N : Int) - 2 := IntWalk.i64_in _ (by omega)
  rcases hfree with ⟨h2, rfl, rfl⟩ | ⟨h2, hs⟩
  · have d1 : decide ((N : Int) - 2 < 0) = true := decide_eq_true (by omega)
    have d2 : (N : Int) - 2 < 0 := by omega
    have d3 : decide (0 < (N : Int) - 2) = false := decide_eq_false (by omega)
    go_enter Tryd.func23, Tryd.ntmps23
    go_upto_region 1 with fail
    refine wp_region_held_drew (S := (fun w' => w'.cell? ⟨rb, 0, none⟩ = some (.slice (some ⟨hb, 0, none⟩) N N))) (by kernel_rfl) k0 (fun hS0 => ?_)
    refine take_at7 (i := 0) (d := some 3) (v := ?_) rfl rfl (by kernel_rfl) (by kernel_rfl) (by kernel_rfl) (fun _ _ _ h => h) (Or.inl ⟨by rfl, ?_⟩) (by assumption) ?_
    rotate_left
    · intro w hSw; go_simp; try (with_reducible rfl)
    try simp only [Act.put, List.setIfInBounds_toArray, List.set_cons_zero, List.set_cons_succ]
    refine take_at7 (i := 1) (d := some 4) (v := ?_) rfl rfl (by kernel_rfl) (by kernel_rfl) (by kernel_rfl) (fun _ _ _ h => h) (Or.inl ⟨by rfl, ?_⟩) (by assumption) ?_
    rotate_left
    · intro w hSw; go_simp; try (with_reducible rfl)
    try simp only [Act.put, List.setIfInBounds_toArray, List.set_cons_zero, List.set_cons_succ]
    refine take_at7 (i := 2) (d := some 5) (v := ?_) rfl rfl (by kernel_rfl) (by kernel_rfl) (by kernel_rfl) (fun _ _ _ h => h) (Or.inl ⟨by rfl, ?_⟩) (by assumption) ?_
    rotate_left
    · intro w hSw; go_simp; try (with_reducible rfl)
    try simp only [Act.put, List.setIfInBounds_toArray, List.set_cons_zero, List.set_cons_succ]
    refine take_at7 (i := 3) (d := some 6) (v := ?_) rfl rfl (by kernel_rfl) (by kernel_rfl) (by kernel_rfl) (fun _ _ _ h => h) (Or.inl ⟨by rfl, ?_⟩) (by assumption) ?_
    rotate_left
    · intro w hSw; go_simp; try (with_reducible rfl)
    try simp only [Act.put, List.setIfInBounds_toArray, List.set_cons_zero, List.set_cons_succ]
    refine take_at7 (i := 4) (d := some 7) (v := ?_) rfl rfl (by kernel_rfl) (by kernel_rfl) (by kernel_rfl) (fun _ _ _ h => h) (Or.inl ⟨by rfl, ?_⟩) (by assumption) ?_
    rotate_left
    · intro w hSw; go_simp; try (with_reducible rfl)
    try simp only [Act.put, List.setIfInBounds_toArray, List.set_cons_zero, List.set_cons_succ]
    refine take_at7 (i := 5) (d := some 8) (v := ?_) rfl rfl (by kernel_rfl) (by kernel_rfl) (by kernel_rfl) (fun _ _ _ h => h) (Or.inl ⟨by rfl, ?_⟩) (by assumption) ?_
    rotate_left
    · intro w hSw; go_simp; try (with_reducible rfl)
    try simp only [Act.put, List.setIfInBounds_toArray, List.set_cons_zero, List.set_cons_succ]
    refine take_at7 (i := 6) (d := some 9) (v := ?_) rfl rfl (by kernel_rfl) (by kernel_rfl) (by kernel_rfl) (fun _ _ _ h => h) (Or.inl ⟨by rfl, ?_⟩) (by assumption) ?_
    rotate_left
    · intro w hSw; go_simp; try (with_reducible rfl)
    try simp only [Act.put, List.setIfInBounds_toArray, List.set_cons_zero, List.set_cons_succ]
    refine take_at7 (i := 7) (d := some 10) (v := ?_) rfl rfl (by kernel_rfl) (by kernel_rfl) (by kernel_rfl) (fun _ _ _ h => h) (Or.inl ⟨by rfl, ?_⟩) (by assumption) ?_
    rotate_left
    · intro w hSw; go_simp; try (with_reducible rfl)
    try simp only [Act.put, List.setIfInBounds_toArray, List.set_cons_zero, List.set_cons_succ]
    refine one_H7 (i := 8) (d := some 11) rfl rfl rfl (by kernel_rfl) (fun K hK => ?_)
    go_simp
    (go_at_call 25; ((with_reducible refine (HU.out).mono ?_); rintro e w2 ⟨r, rfl, hF2, hown⟩))
    obtain ⟨ra, rc, rfl⟩ := (Sl.of_owns hown).form
    refine hK.out _ _ (hF2.cell k0 (fun h => h)) (fun hHeld => ?_)
    clear hK K
    try simp only [Act.put, List.setIfInBounds_toArray, List.set_cons_zero, List.set_cons_succ]
    refine take_at7 (i := 9) (d := some 12) (v := ?_) rfl rfl (by kernel_rfl) (by kernel_rfl) (by kernel_rfl) (fun _ _ _ h => h) (Or.inl ⟨by rfl, ?_⟩) (by assumption) ?_
    rotate_left
    · intro w hSw; go_simp; try (with_reducible rfl)
    try simp only [Act.put, List.setIfInBounds_toArray, List.set_cons_zero, List.set_cons_succ]
    refine take_at7 (i := 10) (d := some 13) (v := ?_) rfl rfl (by kernel_rfl) (by kernel_rfl) (by kernel_rfl) (fun _ _ _ h => h) (Or.inl ⟨by rfl, ?_⟩) (by assumption) ?_
    rotate_left
    · intro w hSw; go_simp; try (with_reducible rfl)
    try simp only [Act.put, List.setIfInBounds_toArray, List.set_cons_zero, List.set_cons_succ]
    refine take_at7 (i := 11) (d := some 2) (v := ?_) rfl rfl (by kernel_rfl) (by kernel_rfl) (by kernel_rfl) (fun _ _ _ h => h) (Or.inl ⟨by rfl, ?_⟩) (by assumption) ?_
    rotate_left
    · intro w hSw; go_simp; try (with_reducible rfl)
    try simp only [Act.put, List.setIfInBounds_toArray, List.set_cons_zero, List.set_cons_succ]
    refine wpAnyH_done (by kernel_rfl) ?_ _
    have HF := Lib.hid ((Fr.refl No w).drew.trans hF2)
    clear hF2 hown
    go_wp2_with fail
    go_ret
    exact ⟨rfl, HF.out⟩
  · have d1 : decide ((N : Int) - 2 < 0) = false := decide_eq_false (by omega)
    have d2 : ¬ (N : Int) - 2 < 0 := by omega
    have hw2 : IntKind.i64.wrap ((N : Int) - 2 - (ul : Int)) = (fc : Int) := by rw [IntWalk.i64_in _ (by omega)]; omega
    go_enter Tryd.func23, Tryd.ntmps23
    go_upto_region 1 with fail
    refine wp_region_held_drew (S := (fun w' => w'.cell? ⟨rb, 0, none⟩ = some (.slice (some ⟨hb, 0, none⟩) N N))) (by kernel_rfl) k0 (fun hS0 => ?_)
    refine take_at7 (i := 0) (d := some 3) (v := ?_) rfl rfl (by kernel_rfl) (by kernel_rfl) (by kernel_rfl) (fun _ _ _ h => h) (Or.inl ⟨by rfl, ?_⟩) (by assumption) ?_
    rotate_left
    · intro w hSw; go_simp; try (with_reducible rfl)
    try simp only [Act.put, List.setIfInBounds_toArray, List.set_cons_zero, List.set_cons_succ]
    refine take_at7 (i := 1) (d := some 4) (v := ?_) rfl rfl (by kernel_rfl) (by kernel_rfl) (by kernel_rfl) (fun _ _ _ h => h) (Or.inl ⟨by rfl, ?_⟩) (by assumption) ?_
    rotate_left
    · intro w hSw; go_simp; try (with_reducible rfl)
    try simp only [Act.put, List.setIfInBounds_toArray, List.set_cons_zero, List.set_cons_succ]
    refine take_at7 (i := 2) (d := some 5) (v := ?_) rfl rfl (by kernel_rfl) (by kernel_rfl) (by kernel_rfl) (fun _ _ _ h => h) (Or.inl ⟨by rfl, ?_⟩) (by assumption) ?_
    rotate_left
    · intro w hSw; go_simp; try (with_reducible rfl)
    try simp only [Act.put, List.setIfInBounds_toArray, List.set_cons_zero, List.set_cons_succ]
    refine take_at7 (i := 3) (d := some 6) (v := ?_) rfl rfl (by kernel_rfl) (by kernel_rfl) (by kernel_rfl) (fun _ _ _ h => h) (Or.inl ⟨by rfl, ?_⟩) (by assumption) ?_
    rotate_left
    · intro w hSw; go_simp; try (with_reducible rfl)
    try simp only [Act.put, List.setIfInBounds_toArray, List.set_cons_zero, List.set_cons_succ]
    refine take_at7 (i := 4) (d := some 7) (v := ?_) rfl rfl (by kernel_rfl) (by kernel_rfl) (by kernel_rfl) (fun _ _ _ h => h) (Or.inl ⟨by rfl, ?_⟩) (by assumption) ?_
    rotate_left
    · intro w hSw; go_simp; try (with_reducible rfl)
    try simp only [Act.put, List.setIfInBounds_toArray, List.set_cons_zero, List.set_cons_succ]
    refine take_at7 (i := 5) (d := some 8) (v := ?_) rfl rfl (by kernel_rfl) (by kernel_rfl) (by kernel_rfl) (fun _ _ _ h => h) (Or.inl ⟨by rfl, ?_⟩) (by assumption) ?_
    rotate_left
    · intro w hSw; go_simp; try (with_reducible rfl)
    try simp only [Act.put, List.setIfInBounds_toArray, List.set_cons_zero, List.set_cons_succ]
    refine take_at7 (i := 6) (d := some 9) (v := ?_) rfl rfl (by kernel_rfl) (by kernel_rfl) (by kernel_rfl) (fun _ _ _ h => h) (Or.inl ⟨by rfl, ?_⟩) (by assumption) ?_
    rotate_left
    · intro w hSw; go_simp; try (with_reducible rfl)
    try simp only [Act.put, List.setIfInBounds_toArray, List.set_cons_zero, List.set_cons_succ]
    refine take_at7 (i := 7) (d := some 10) (v := ?_) rfl rfl (by kernel_rfl) (by kernel_rfl) (by kernel_rfl) (fun _ _ _ h => h) (Or.inl ⟨by rfl, ?_⟩) (by assumption) ?_
    rotate_left
    · intro w hSw; go_simp; try (with_reducible rfl)
    try simp only [Act.put, List.setIfInBounds_toArray, List.set_cons_zero, List.set_cons_succ]
    refine one_H7 (i := 8) (d := some 11) rfl rfl rfl (by kernel_rfl) (fun K hK => ?_)
    go_simp
    (go_at_call 25; ((with_reducible refine (HU.out).mono ?_); rintro e w2 ⟨r, rfl, hF2, hown⟩))
    obtain ⟨ra, rc, rfl⟩ := (Sl.of_owns hown).form
    refine hK.out _ _ (hF2.cell k0 (fun h => h)) (fun hHeld => ?_)
    clear hK K
    try simp only [Act.put, List.setIfInBounds_toArray, List.set_cons_zero, List.set_cons_succ]
    refine take_at7 (i := 9) (d := some 12) (v := ?_) rfl rfl (by kernel_rfl) (by kernel_rfl) (by kernel_rfl) (fun _ _ _ h => h) (Or.inl ⟨by rfl, ?_⟩) (by assumption) ?_
    rotate_left
    · intro w hSw; go_simp; try (with_reducible rfl)
    try simp only [Act.put, List.setIfInBounds_toArray, List.set_cons_zero, List.set_cons_succ]
    refine take_at7 (i := 10) (d := some 13) (v := ?_) rfl rfl (by kernel_rfl) (by kernel_rfl) (by kernel_rfl) (fun _ _ _ h => h) (Or.inl ⟨by rfl, ?_⟩) (by assumption) ?_
    rotate_left
    · intro w hSw; go_simp; try (with_reducible rfl)
    try simp only [Act.put, List.setIfInBounds_toArray, List.set_cons_zero, List.set_cons_succ]
    refine take_at7 (i := 11) (d := some 2) (v := ?_) rfl rfl (by kernel_rfl) (by kernel_rfl) (by kernel_rfl) (fun _ _ _ h => h) (Or.inl ⟨by rfl, ?_⟩) (by assumption) ?_
    rotate_left
    · intro w hSw; go_simp; try (with_reducible rfl)
    try simp only [Act.put, List.setIfInBounds_toArray, List.set_cons_zero, List.set_cons_succ]
    refine wpAnyH_done (by kernel_rfl) ?_ _
    have HF := Lib.hid ((Fr.refl No w).drew.trans hF2)
    clear hF2 hown
    go_wp2_with fail
    go_ret
    exact ⟨rfl, HF.out⟩
end Go.Proofs.YtpcikbloflpahaaDoor
