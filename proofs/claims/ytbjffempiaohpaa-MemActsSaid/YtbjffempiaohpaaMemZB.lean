/-
  The memory of chapter 9: pages that differ, the program's.
-/
import Derived.Test.YtbjffempiaohpaaMemZA
import Derived.Maps.RangeWalk
import Derived.Test.YtbjffempiaohpaaDec1
import Derived.Test.YtbjffempiaohpaaIno2
namespace Go.Proofs.Ytbjffempiaohpaa
set_option linter.unusedVariables false
set_option linter.unusedSimpArgs false
open Go.RowKit Go.Shelf Go.Maps

/-- What has been found while some pages are left. -/
def Found (F B : List Int) (P : Nat → Option Nat) (left : Lit → Bool) (ds : List Int) : Prop :=
  ds.Nodup ∧ (∀ x ∈ ds, ∃ q : Nat, q < 128 ∧ x = q ∧ pg B q ≠ pg F q ∧ left (pkey q) = false) ∧ ∀ q, q < 128 → (P q).isSome = true → left (pkey q) = false → pg B q ≠ pg F q → (q : Int) ∈ ds
theorem dirtyN_mem (F B : List Int) (p : Nat) (x : Int) : x ∈ dirtyN F B p ↔ ∃ q : Nat, q < p ∧ x = q ∧ pg B q ≠ pg F q := by
  induction p with
  | zero => simp [dirtyN]
  | succ p ih =>
    rw [dirtyN]
    split
    · rename_i h
      rw [ih]
      constructor
      · rintro ⟨q, h1, h2, h3⟩; exact ⟨q, by omega, h2, h3⟩
      · rintro ⟨q, h1, h2, h3⟩
        exact ⟨q, by rcases Nat.lt_succ_iff_lt_or_eq.1 h1 with h4 | h4; exact h4; exact absurd (h4 ▸ h) h3, h2, h3⟩
    · rename_i h
      rw [List.mem_append, ih, List.mem_singleton]
      constructor
      · rintro (⟨q, h1, h2, h3⟩ | h1)
        · exact ⟨q, by omega, h2, h3⟩
        · exact ⟨p, by omega, h1, h⟩
      · rintro ⟨q, h1, h2, h3⟩
        rcases Nat.lt_succ_iff_lt_or_eq.1 h1 with h4 | h4
        · exact .inl ⟨q, h4, h2, h3⟩
        · subst h4; exact .inr h2
theorem dirtyN_sorted (F B : List Int) (p : Nat) : (dirtyN F B p).Pairwise (fun x y => x < y) := by
  induction p with
  | zero => simp [dirtyN]
  | succ p ih =>
    rw [dirtyN]
    split
    · exact ih
    · rw [List.pairwise_append]
      refine ⟨ih, by simp, fun x hx y hy => ?_⟩
      obtain ⟨q, h1, h2, -⟩ := (dirtyN_mem F B p x).1 hx
      simp at hy
      omega
theorem found_sorted {F B : List Int} {P : Nat → Option Nat} {left : Lit → Bool} {ds : List Int} (h : Found F B P left ds) (hn : ∀ q, q < 128 → P q = none → pg B q = pg F q) (hl : ∀ kl, left kl = false) : (ds.mergeSort fun x y => decide (x ≤ y)) = dirtyN F B 128 := by
  obtain ⟨h1, h2, h3⟩ := h
  have hs := dirtyN_sorted F B 128
  have hnd : (dirtyN F B 128).Nodup := hs.imp (fun {a b} h e => by omega)
  have hp : ds.Perm (dirtyN F B 128) := by
    rw [List.perm_ext_iff_of_nodup h1 hnd]
    intro x
    rw [dirtyN_mem]
    constructor
    · intro hx; obtain ⟨q, a1, a2, a3, -⟩ := h2 x hx; exact ⟨q, a1, a2, a3⟩
    · rintro ⟨q, a1, rfl, a3⟩
      refine h3 q a1 ?_ (hl _) a3
      cases hq : P q with
      | none => exact absurd (hn q a1 hq) a3
      | some b => rfl
  have hm := List.pairwise_mergeSort (le := fun x y : Int => decide (x ≤ y)) (fun a b c h1 h2 => by simp at *; omega) (fun a b => by simp; omega) ds
  have hm2 := (List.mergeSort_perm ds (fun x y : Int => decide (x ≤ y))).trans hp
  refine List.Perm.eq_of_pairwise (le := fun x y : Int => x ≤ y) (fun a b _ _ h1 h2 => by omega) ?_ ?_ hm2
  · exact hm.imp (fun {a b} h => by simpa using h)
  · exact hs.imp (fun {a b} h => by omega)
end Go.Proofs.Ytbjffempiaohpaa
namespace Go.Proofs.Ytbjffempiaohpaa
set_option linter.unusedVariables false
set_option linter.unusedSimpArgs false
open Go.RowKit Go.Shelf Go.Maps

theorem pkey_inj {p q : Nat} (h : pkey p = pkey q) : p = q := by simp [pkey] at h; omega
theorem same_pkey {p q : Nat} (h : (pkey p).sameKey (pkey q) = true) : p = q := by
  by_cases e : p = q
  · exact e
  · rw [sameKey_ne (fun e2 => e (pkey_inj e2))] at h; cases h
theorem found_start {F B : List Int} {P : Nat → Option Nat} {D : DataW Unit} (hh : ∀ p, p < 128 → Maps.has D (pkey p) = (P p).isSome) : Found F B P (Maps.has D) [] :=
  ⟨List.nodup_nil, by simp, fun q hq hP hl _ => by rw [hh q hq, hP] at hl; cases hl⟩
theorem found_skip {F B : List Int} {P : Nat → Option Nat} {left : Lit → Bool} {ds : List Int} (h : Found F B P left ds) (q : Nat) (he : pg B q = pg F q) : Found F B P (fun z => left z && !z.sameKey (pkey q)) ds := by
  obtain ⟨h1, h2, h3⟩ := h
  refine ⟨h1, fun x hx => ?_, fun r hr hP hl hne => ?_⟩
  · obtain ⟨r, a1, a2, a3, a4⟩ := h2 x hx
    exact ⟨r, a1, a2, a3, by simp [a4]⟩
  · cases hlr : left (pkey r) with
    | false => exact h3 r hr hP hlr hne
    | true =>
      have : (pkey r).sameKey (pkey q) = true := by simpa [hlr] using hl
      have := same_pkey this
      subst this
      exact absurd he hne
theorem found_add {F B : List Int} {P : Nat → Option Nat} {left : Lit → Bool} {ds : List Int} (h : Found F B P left ds) (q : Nat) (hq : q < 128) (hl : left (pkey q) = true) (he : pg B q ≠ pg F q) : Found F B P (fun z => left z && !z.sameKey (pkey q)) (ds ++ [(q : Int)]) := by
  obtain ⟨h1, h2, h3⟩ := h
  refine ⟨?_, fun x hx => ?_, fun r hr hP hlr hne => ?_⟩
  · rw [List.nodup_append]
    refine ⟨h1, by simp, fun x hx y hy e => ?_⟩
    simp at hy
    obtain ⟨r, a1, a2, a3, a4⟩ := h2 x hx
    have : r = q := by omega
    subst this
    rw [hl] at a4; cases a4
  · rcases List.mem_append.1 hx with hx | hx
    · obtain ⟨r, a1, a2, a3, a4⟩ := h2 x hx
      exact ⟨r, a1, a2, a3, by simp [a4]⟩
    · simp at hx
      have hk : (pkey q).sameKey (pkey q) = true := by simp [Lit.sameKey]
      exact ⟨q, hq, hx, he, by simp [hk]⟩
  · cases hl2 : left (pkey r) with
    | false => exact List.mem_append.2 (.inl (h3 r hr hP hl2 hne))
    | true =>
      have : (pkey r).sameKey (pkey q) = true := by simpa [hl2] using hlr
      have := same_pkey this
      subst this
      exact List.mem_append.2 (.inr (by simp))
theorem found_length {F B : List Int} {P : Nat → Option Nat} {left : Lit → Bool} {ds : List Int} (h : Found F B P left ds) : ds.length ≤ 128 := by
  obtain ⟨h1, h2, -⟩ := h
  have := h1.length_le_of_subset (l₂ := dirtyN F B 128) (fun x hx => by
    obtain ⟨r, a1, a2, a3, -⟩ := h2 x hx
    exact (dirtyN_mem F B 128 x).2 ⟨r, a1, a2, a3⟩)
  have := dirtyN_length F B 128
  omega
theorem eqA_page (w : World) (l m : List Int) (hl : l.length = 64) (hm : m.length = 64) (hlr : ∀ b ∈ l, 0 ≤ b ∧ b < 256) (hmr : ∀ b ∈ m, 0 ≤ b ∧ b < 256) :
    (Op.equalIn 10000 85 (.agg (bys l).toArray) (.agg (bys m).toArray)).run Try.prog w = .ok (decide (l = m)) w := by
  rw [bys_cells l hlr, bys_cells m hmr]
  rw [run_equalIn_bytes w 9998 85 5 64 (by kernel_rfl) Try.underlying5 size_u8 _ _ (by simpa using hl) (by simpa using hm)]
  congr 1
  rw [Bool.eq_iff_iff]
  simp only [beq_iff_eq, decide_eq_true_eq]
  exact ⟨u8s_inj hlr hmr, fun h => by rw [h]⟩

/-- How a page's pointer looks. -/
def mkPtr (c : Option Nat) : Value := match c with
  | none => .pointer none
  | some b => .pointer (some ⟨b, 0, none⟩)

set_option maxHeartbeats 1000000 in
set_option maxRecDepth 1000000 in
theorem dirty_calls {w : World} {mb : Nat} {A : Nat → Prop} {F B : List Int} (h : MemAt w mb A F B)
    (SORT : RowKit.Hid (∀ (zs : List Int) (v : Value) (base : Nat) (w1 : World), zs.length ≤ 128 → w1.ownsRow base 3 1 v zs.length (ints zs) → Calls Try.prog 56 #[v] w1 fun e w' => e = .returned (.tuple #[]) ∧ w'.ownsRow base 3 1 v zs.length (ints (zs.mergeSort fun x y => decide (x ≤ y))) ∧ Fr (fun k => v.ownBlock = some k) w1 w')) :
    Calls Try.prog 28 #[.pointer (some ⟨mb, 0, none⟩)] w fun e w' => ∃ r, e = .returned r ∧ Fr No w w' ∧ Sl w' r (dirtyN F B 128).length (ints (dirtyN F B 128)) := by
  have HI := Lib.hid (is_calls h)
  obtain ⟨fb, pm, n, D, P, h⟩ := h
  have c1 := heap_cell (o := 1) h.box rfl
  have HM := Lib.hid h
  have hmap := h.map
  clear h
  go_enter Try.func28, Try.ntmps28
  go_wp2_with (first | (go_at_call 46; ((with_reducible refine HI.out.mono ?_); rintro e w1 ⟨rfl, rfl⟩)) | (at_range; refine wpList_range_own w rfl _ _ rfl 3 88 intKey Try.underlying63 heldR pm n D rfl hmap ?_; intro w0 hrg0 hg0 hs0))
  go_frame
  have hF0 : Fr No w w0 := (Fr.refl _ _).grown hg0 (fun k e _ => by cases e)
  have HRG0 := Lib.hid hrg0
  have HF0 := Lib.hid hF0
  clear hmap c1 hrg0 hg0 hs0 hF0
  go_loopw [3] (fun o wr => ∃ left cnt ds, wr.ranges Try.prog 3 heldR pm w.heap.size n D left cnt ∧ (∀ kl, left kl = true → Maps.has D kl = true) ∧ wr.ownsRow (w.heap.size + 1) 3 1 o ds.length (ints ds) ∧ Found F B P left ds ∧ Fr No w wr)
    (fun _ wr => wr.rangeLeft pm w.heap.size)
  case atStart => exact ⟨_, _, [], HRG0.out, fun _ h => h, World.ownsRow_nil _ _ _ _, found_start HM.out.has, HF0.out⟩
  case round =>
    obtain ⟨left, cnt, ds, hrg, hlh, hrow, hfo, hF⟩ := hrel
    obtain ⟨ao, capo, rfl⟩ := (Sl.of_owns hrow).form
    have HLH := Lib.hid hlh
    have HROW := Lib.hid hrow
    have HFO := Lib.hid hfo
    have HF := Lib.hid hF
    clear hlh hrow hfo hF
    go_wp2_with (first
      | (at_next; refine wpList_next_ranges wr rfl _ rfl 3 intKey heldR (Value.int .i64) mkPtr (fun key kl hk => by obtain ⟨x, hx, _⟩ := Maps.keyOf_int_inv Try.underlying3 hk; exact ⟨x, hx⟩) (fun v y hv => by
          rcases heldR_inv (d := y.1) (ps := y.2) (by simpa using hv) with ⟨rfl, -⟩ | ⟨b, rfl, -⟩
          · exact ⟨none, rfl⟩
          · exact ⟨some b, rfl⟩) pm w.heap.size n D left cnt rfl hrg ?_ ?_)
      | go_in)
    · intro _ hl0
      have HS := Lib.hid (found_sorted HFO.out HM.out.none_ hl0)
      have HC := Lib.hid (SORT.out ds (.slice ao ds.length capo) (w.heap.size + 1) wr (found_length HFO.out) HROW.out)
      clear hl0 hrg
      go_wp2_with fail
      refine HC.out.mono ?_
      rintro e w2 ⟨rfl, hr, hF2⟩
      have HR2 := Lib.hid hr
      have HF2 := Lib.hid hF2
      clear hr hF2
      go_wp2
      go_ret
      refine ⟨_, rfl, HF.out.trans' HF2.out (fun i hi e => by have := (HROW.out.lt i e).1; omega), ?_⟩
      have h1 := HR2.out
      rw [HS.out] at h1
      have h2 : ds.length = (dirtyN F B 128).length := by rw [← HS.out, List.length_mergeSort]
      rw [← h2]
      exact Sl.of_owns h1
    · intro x c kl yd yp w1 cnt1 hkey hlk hv hat hrg1 hlt hg1 hs1 hen
      obtain ⟨x', ex, rfl, hwx⟩ := Maps.keyOf_int_inv Try.underlying3 hkey
      cases ex
      have hhas := HLH.out _ hlk
      obtain ⟨q, hq, eq⟩ := HM.out.only _ hhas
      obtain rfl : x = (q : Int) := by simp [pkey] at eq; exact eq
      have hPq := HM.out.has q hq
      rw [hhas] at hPq
      obtain ⟨b, hPb⟩ := Option.isSome_iff_exists.1 hPq.symm
      have hget := HM.out.get q b hq hPb
      rw [hat] at hget
      subst hget
      have hc : c = some b := by
        cases c with
        | none => simp [mkPtr, heldR] at hv
        | some b' => simp [mkPtr, heldR] at hv; exact congrArg some (by omega)
      subst hc
      have hF1 : Fr No w w1 := HF.out.grown hg1 (fun k e hk => by cases e; omega)
      have hRow := (HM.out.held q b hq hPb).2.fr hF1 (fun h => h)
      have hlB := pg_length B q HM.out.blen hq
      have hlF := pg_length F q HM.out.flen hq
      have hrF := pg_range F q HM.out.frange
      have hrB := pg_range B q HM.out.brange
      have hra : w1.rangeAt b 0 (bys (pg F q)) := fun j v hj => by
        rw [Nat.zero_add]
        refine heap_cell hRow ?_
        have hj' : j < (bys (pg F q)).length := (List.getElem?_eq_some_iff.1 hj).1
        simp only [bys, List.map_append, List.getElem?_toArray]
        rw [List.getElem?_append_left (by simpa [bys] using hj')]
        exact hj
      have hrb : w1.rangeAt b 64 (bys (pg B q)) := fun j v hj => by
        refine heap_cell hRow ?_
        simp only [bys, List.map_append, List.getElem?_toArray]
        rw [List.getElem?_append_right (by simp [hlF])]
        simpa [hlF, bys] using hj
      have HRA := Lib.hid hra
      have HRB := Lib.hid hrb
      have HRAd := Lib.hid (show w1.drew.rangeAt b 0 (bys (pg F q)) from hra)
      have HRBd := Lib.hid (show w1.drew.rangeAt b 64 (bys (pg B q)) from hrb)
      have HRG1 := Lib.hid hrg1
      have HRGO := Lib.hid hrg
      have HSZF := Lib.hid (show (Try.prog.info? 85).map (·.size) = some (bys (pg F q)).length from by rw [bys_len, hlF]; kernel_rfl)
      have HSZB := Lib.hid (show (Try.prog.info? 85).map (·.size) = some (bys (pg B q)).length from by rw [bys_len, hlB]; kernel_rfl)
      have HLK := Lib.hid hlk
      have HF1 := Lib.hid hF1
      have HEQ := Lib.hid (fun W => eqA_page W (pg B q) (pg F q) hlB hlF hrB hrF)
      have HS1 := Lib.hid hs1
      have HG1 := Lib.hid hg1
      have HLT := Lib.hid hlt
      have HROW1 := Lib.hid (HROW.out.kept hg1 (.inr (fun e => by have := (HROW.out.lt w.heap.size e).1; omega)))
      clear hkey hlk hv hat hrg1 hrg hlt hg1 hs1 hwx eq hhas hPq hF1 hRow hra hrb hrF hrB hlB hlF
      simp only [mkPtr] at hen ⊢
      go_wp2_with fail
      have hu : Try.prog.underlying 85 = some (.array 64 5) := by kernel_rfl
      have hszF := HSZF.out
      have hszB := HSZB.out
      have hlhz : ∀ kl, (left kl && !kl.sameKey (pkey q)) = true → Maps.has D kl = true := fun kl h => HLH.out kl (by simp at h; exact h.1)
      have HLHZ := Lib.hid hlhz
      have HU := Lib.hid hu
      by_cases he : pg B q = pg F q
      · have heq : ∀ W : World, (Op.equalIn 10000 85 (.agg (bys (pg B q)).toArray) (.agg (bys (pg F q)).toArray)).run Try.prog W = .ok true W := fun W => by rw [HEQ.out W, decide_eq_true he]
        have HFO1 := Lib.hid (found_skip HFO.out q he)
        clear he hen hlhz
        refine wp_region_held_drew (S := (fun w' => w'.rangeAt b 0 (bys (pg F q)) ∧ w'.rangeAt b 64 (bys (pg B q)))) (by kernel_rfl) ⟨HRAd.out, HRBd.out⟩ (fun hS0 => ?_)
        refine take_at (i := 0) (d := some 19) (v := ?_) rfl rfl (by kernel_rfl) (by kernel_rfl) (by kernel_rfl) (fun _ _ _ h => h) (Or.inl ⟨by rfl, ?_⟩) (by assumption) ?_
        rotate_left
        · intro w hSw; go_simp; try (with_reducible rfl)
        try simp only [Act.put, List.setIfInBounds_toArray, List.set_cons_zero, List.set_cons_succ]
        refine take_at (i := 1) (d := some 20) (v := ?_) rfl rfl (by kernel_rfl) (by kernel_rfl) (by kernel_rfl) (fun _ _ _ h => h) (Or.inl ⟨by rfl, ?_⟩) (by assumption) ?_
        rotate_left
        · intro w hSw; go_simp; try (with_reducible rfl)
        try simp only [Act.put, List.setIfInBounds_toArray, List.set_cons_zero, List.set_cons_succ]
        refine take_at (i := 2) (d := some 21) (v := ?_) rfl rfl (by kernel_rfl) (by kernel_rfl) (by kernel_rfl) (fun _ _ _ h => h) (Or.inl ⟨by rfl, ?_⟩) (by assumption) ?_
        rotate_left
        · intro w hSw; go_simp; try (with_reducible rfl)
        try simp only [Act.put, List.setIfInBounds_toArray, List.set_cons_zero, List.set_cons_succ]
        refine take_at (i := 4) (d := some 23) (v := ?_) rfl rfl (by kernel_rfl) (by kernel_rfl) (by kernel_rfl) (fun _ _ _ h => h) (Or.inl ⟨by rfl, ?_⟩) (by assumption) ?_
        rotate_left
        · intro w hSw; go_simp; try (with_reducible rfl)
        try simp only [Act.put, List.setIfInBounds_toArray, List.set_cons_zero, List.set_cons_succ]
        refine take_at (i := 5) (d := some 24) (v := ?_) rfl rfl (by kernel_rfl) (by kernel_rfl) (by kernel_rfl) (fun _ _ _ h => h) (Or.inl ⟨by rfl, ?_⟩) (by assumption) ?_
        rotate_left
        · intro w hSw; go_simp; try (with_reducible rfl)
        try simp only [Act.put, List.setIfInBounds_toArray, List.set_cons_zero, List.set_cons_succ]
        refine take_at (i := 6) (d := some 25) (v := ?_) rfl rfl (by kernel_rfl) (by kernel_rfl) (by kernel_rfl) (fun _ _ _ h => h) (Or.inl ⟨by rfl, ?_⟩) (by assumption) ?_
        rotate_left
        · intro w hSw; go_simp; try (with_reducible rfl)
        try simp only [Act.put, List.setIfInBounds_toArray, List.set_cons_zero, List.set_cons_succ]
        refine wpAnyH_ready (rs := [3, 7]) (by kernel_rfl) (by simp) ?_
        refine AllReadyH.cons rfl (fun K hK => ?_) (AllReadyH.cons rfl (fun K hK => ?_) AllReadyH.nil)
        · rw [if_pos (by rfl)]
          refine wp_load_mid _ _ rfl _ _ rfl (bys (pg B q)) (.array 64 5) HRBd.out HU.out rfl HSZB.out ?_
          simp only [List.getElem_toArray, List.getElem_cons_succ, List.getElem_cons_zero, Act.put, List.setIfInBounds_toArray, List.set_cons_zero, List.set_cons_succ]
          refine hK.out _ _ ⟨HRAd.out, HRBd.out⟩ (fun hHeld => ?_)
          clear hK K
          refine wpAnyH_ready (rs := [7]) (by kernel_rfl) (by simp) ?_
          refine AllReadyH.cons rfl (fun K hK => ?_) AllReadyH.nil
          rw [if_pos (by rfl)]
          refine wp_load_mid _ _ rfl _ _ rfl (bys (pg F q)) (.array 64 5) HRAd.out HU.out rfl HSZF.out ?_
          simp only [List.getElem_toArray, List.getElem_cons_succ, List.getElem_cons_zero, Act.put, List.setIfInBounds_toArray, List.set_cons_zero, List.set_cons_succ]
          refine hK.out _ _ ⟨HRAd.out, HRBd.out⟩ (fun hHeld => ?_)
          clear hK K
          refine take_at (i := 8) (d := some 27) (v := ?_) rfl rfl (by kernel_rfl) (by kernel_rfl) (by kernel_rfl) (fun _ _ _ h => h) (Or.inl ⟨by rfl, ?_⟩) (by assumption) ?_
          rotate_left
          · intro w hSw; go_simp; try (with_reducible rfl)
          try simp only [Act.put, List.setIfInBounds_toArray, List.set_cons_zero, List.set_cons_succ]
          refine wpAnyH_done (by kernel_rfl) ?_ _
          have hgd : w1.grownBy w1.drew none := ⟨rfl, rfl, rfl, Nat.le_refl _, fun _ _ _ => rfl⟩
          have hr1 := HRG1.out.kept hgd (by simp) (by simp)
          go_wp2
          refine ⟨⟨_, _, ds, hr1, HLHZ.out, HROW1.out.drew, HFO1.out, HF1.out.drew⟩, ?_⟩
          rw [hr1.left_eq, HRGO.out.left_eq]; exact HLT.out
        · rw [if_pos (by rfl)]
          refine wp_load_mid _ _ rfl _ _ rfl (bys (pg F q)) (.array 64 5) HRAd.out HU.out rfl HSZF.out ?_
          simp only [List.getElem_toArray, List.getElem_cons_succ, List.getElem_cons_zero, Act.put, List.setIfInBounds_toArray, List.set_cons_zero, List.set_cons_succ]
          refine hK.out _ _ ⟨HRAd.out, HRBd.out⟩ (fun hHeld => ?_)
          clear hK K
          refine wpAnyH_ready (rs := [3]) (by kernel_rfl) (by simp) ?_
          refine AllReadyH.cons rfl (fun K hK => ?_) AllReadyH.nil
          rw [if_pos (by rfl)]
          refine wp_load_mid _ _ rfl _ _ rfl (bys (pg B q)) (.array 64 5) HRBd.out HU.out rfl HSZB.out ?_
          simp only [List.getElem_toArray, List.getElem_cons_succ, List.getElem_cons_zero, Act.put, List.setIfInBounds_toArray, List.set_cons_zero, List.set_cons_succ]
          refine hK.out _ _ ⟨HRAd.out, HRBd.out⟩ (fun hHeld => ?_)
          clear hK K
          refine take_at (i := 8) (d := some 27) (v := ?_) rfl rfl (by kernel_rfl) (by kernel_rfl) (by kernel_rfl) (fun _ _ _ h => h) (Or.inl ⟨by rfl, ?_⟩) (by assumption) ?_
          rotate_left
          · intro w hSw; go_simp; try (with_reducible rfl)
          try simp only [Act.put, List.setIfInBounds_toArray, List.set_cons_zero, List.set_cons_succ]
          refine wpAnyH_done (by kernel_rfl) ?_ _
          have hgd : w1.grownBy w1.drew none := ⟨rfl, rfl, rfl, Nat.le_refl _, fun _ _ _ => rfl⟩
          have hr1 := HRG1.out.kept hgd (by simp) (by simp)
          go_wp2
          refine ⟨⟨_, _, ds, hr1, HLHZ.out, HROW1.out.drew, HFO1.out, HF1.out.drew⟩, ?_⟩
          rw [hr1.left_eq, HRGO.out.left_eq]; exact HLT.out
      · have heq : ∀ W : World, (Op.equalIn 10000 85 (.agg (bys (pg B q)).toArray) (.agg (bys (pg F q)).toArray)).run Try.prog W = .ok false W := fun W => by rw [HEQ.out W, decide_eq_false he]
        have HFO1 := Lib.hid (found_add HFO.out q hq HLK.out he)
        clear he hen hlhz
        refine wp_region_held_drew (S := (fun w' => w'.rangeAt b 0 (bys (pg F q)) ∧ w'.rangeAt b 64 (bys (pg B q)))) (by kernel_rfl) ⟨HRAd.out, HRBd.out⟩ (fun hS0 => ?_)
        refine take_at (i := 0) (d := some 19) (v := ?_) rfl rfl (by kernel_rfl) (by kernel_rfl) (by kernel_rfl) (fun _ _ _ h => h) (Or.inl ⟨by rfl, ?_⟩) (by assumption) ?_
        rotate_left
        · intro w hSw; go_simp; try (with_reducible rfl)
        try simp only [Act.put, List.setIfInBounds_toArray, List.set_cons_zero, List.set_cons_succ]
        refine take_at (i := 1) (d := some 20) (v := ?_) rfl rfl (by kernel_rfl) (by kernel_rfl) (by kernel_rfl) (fun _ _ _ h => h) (Or.inl ⟨by rfl, ?_⟩) (by assumption) ?_
        rotate_left
        · intro w hSw; go_simp; try (with_reducible rfl)
        try simp only [Act.put, List.setIfInBounds_toArray, List.set_cons_zero, List.set_cons_succ]
        refine take_at (i := 2) (d := some 21) (v := ?_) rfl rfl (by kernel_rfl) (by kernel_rfl) (by kernel_rfl) (fun _ _ _ h => h) (Or.inl ⟨by rfl, ?_⟩) (by assumption) ?_
        rotate_left
        · intro w hSw; go_simp; try (with_reducible rfl)
        try simp only [Act.put, List.setIfInBounds_toArray, List.set_cons_zero, List.set_cons_succ]
        refine take_at (i := 4) (d := some 23) (v := ?_) rfl rfl (by kernel_rfl) (by kernel_rfl) (by kernel_rfl) (fun _ _ _ h => h) (Or.inl ⟨by rfl, ?_⟩) (by assumption) ?_
        rotate_left
        · intro w hSw; go_simp; try (with_reducible rfl)
        try simp only [Act.put, List.setIfInBounds_toArray, List.set_cons_zero, List.set_cons_succ]
        refine take_at (i := 5) (d := some 24) (v := ?_) rfl rfl (by kernel_rfl) (by kernel_rfl) (by kernel_rfl) (fun _ _ _ h => h) (Or.inl ⟨by rfl, ?_⟩) (by assumption) ?_
        rotate_left
        · intro w hSw; go_simp; try (with_reducible rfl)
        try simp only [Act.put, List.setIfInBounds_toArray, List.set_cons_zero, List.set_cons_succ]
        refine take_at (i := 6) (d := some 25) (v := ?_) rfl rfl (by kernel_rfl) (by kernel_rfl) (by kernel_rfl) (fun _ _ _ h => h) (Or.inl ⟨by rfl, ?_⟩) (by assumption) ?_
        rotate_left
        · intro w hSw; go_simp; try (with_reducible rfl)
        try simp only [Act.put, List.setIfInBounds_toArray, List.set_cons_zero, List.set_cons_succ]
        refine wpAnyH_ready (rs := [3, 7]) (by kernel_rfl) (by simp) ?_
        refine AllReadyH.cons rfl (fun K hK => ?_) (AllReadyH.cons rfl (fun K hK => ?_) AllReadyH.nil)
        · rw [if_pos (by rfl)]
          refine wp_load_mid _ _ rfl _ _ rfl (bys (pg B q)) (.array 64 5) HRBd.out HU.out rfl HSZB.out ?_
          simp only [List.getElem_toArray, List.getElem_cons_succ, List.getElem_cons_zero, Act.put, List.setIfInBounds_toArray, List.set_cons_zero, List.set_cons_succ]
          refine hK.out _ _ ⟨HRAd.out, HRBd.out⟩ (fun hHeld => ?_)
          clear hK K
          refine wpAnyH_ready (rs := [7]) (by kernel_rfl) (by simp) ?_
          refine AllReadyH.cons rfl (fun K hK => ?_) AllReadyH.nil
          rw [if_pos (by rfl)]
          refine wp_load_mid _ _ rfl _ _ rfl (bys (pg F q)) (.array 64 5) HRAd.out HU.out rfl HSZF.out ?_
          simp only [List.getElem_toArray, List.getElem_cons_succ, List.getElem_cons_zero, Act.put, List.setIfInBounds_toArray, List.set_cons_zero, List.set_cons_succ]
          refine hK.out _ _ ⟨HRAd.out, HRBd.out⟩ (fun hHeld => ?_)
          clear hK K
          refine take_at (i := 8) (d := some 27) (v := ?_) rfl rfl (by kernel_rfl) (by kernel_rfl) (by kernel_rfl) (fun _ _ _ h => h) (Or.inl ⟨by rfl, ?_⟩) (by assumption) ?_
          rotate_left
          · intro w hSw; go_simp; try (with_reducible rfl)
          try simp only [Act.put, List.setIfInBounds_toArray, List.set_cons_zero, List.set_cons_succ]
          refine wpAnyH_done (by kernel_rfl) ?_ _
          have hdl := found_length HFO.out
          have hrl := HRG1.out.lt
          go_wp2_with (at_builtin; refine append_out el_int rfl _ _ rfl (w.heap.size + 1) (.slice ao ds.length capo) _ _ rfl (World.ownsRow.alloc (World.ownsRow.drew HROW1.out) _) ⟨w1.heap.size, 0, none⟩ 1 1 [.int .i64 (q : Int)] rfl rfl (cell_one_new _ _ _) (by simp [Value.oneCell']) (by unfold maxLen; omega) (by omega) (by simp; omega) ?_; intro v' w3 hown' hgrow _)
          have hg3 : w1.grownBy w3 (Value.slice ao ds.length capo).ownBlock := by
            have h1 : (w1.alloc (Obj.cells #[.int .i64 (q : Int)] 3)).grownBy w3 (Value.slice ao ds.length capo).ownBlock := ⟨hgrow.os, hgrow.tape, hgrow.output, hgrow.size, hgrow.block⟩
            exact grownBy_alloc h1
          have hpl := HM.out.map.lt
          have hr3 := HRG1.out.kept hg3 (fun e => by have := (HROW.out.lt pm e.symm).1; omega) (fun e => by have := (HROW.out.lt w.heap.size e.symm).1; omega)
          refine ⟨⟨_, _, ds ++ [(q : Int)], hr3, HLHZ.out, by rw [List.length_append, show ints (ds ++ [(q : Int)]) = ints ds ++ [.int .i64 (q : Int)] by simp [ints]]; exact hown', HFO1.out, HF1.out.grown hg3 (fun k e hk => by have := (HROW.out.lt k e).1; omega)⟩, ?_⟩
          rw [hr3.left_eq, HRGO.out.left_eq]; exact HLT.out
        · rw [if_pos (by rfl)]
          refine wp_load_mid _ _ rfl _ _ rfl (bys (pg F q)) (.array 64 5) HRAd.out HU.out rfl HSZF.out ?_
          simp only [List.getElem_toArray, List.getElem_cons_succ, List.getElem_cons_zero, Act.put, List.setIfInBounds_toArray, List.set_cons_zero, List.set_cons_succ]
          refine hK.out _ _ ⟨HRAd.out, HRBd.out⟩ (fun hHeld => ?_)
          clear hK K
          refine wpAnyH_ready (rs := [3]) (by kernel_rfl) (by simp) ?_
          refine AllReadyH.cons rfl (fun K hK => ?_) AllReadyH.nil
          rw [if_pos (by rfl)]
          refine wp_load_mid _ _ rfl _ _ rfl (bys (pg B q)) (.array 64 5) HRBd.out HU.out rfl HSZB.out ?_
          simp only [List.getElem_toArray, List.getElem_cons_succ, List.getElem_cons_zero, Act.put, List.setIfInBounds_toArray, List.set_cons_zero, List.set_cons_succ]
          refine hK.out _ _ ⟨HRAd.out, HRBd.out⟩ (fun hHeld => ?_)
          clear hK K
          refine take_at (i := 8) (d := some 27) (v := ?_) rfl rfl (by kernel_rfl) (by kernel_rfl) (by kernel_rfl) (fun _ _ _ h => h) (Or.inl ⟨by rfl, ?_⟩) (by assumption) ?_
          rotate_left
          · intro w hSw; go_simp; try (with_reducible rfl)
          try simp only [Act.put, List.setIfInBounds_toArray, List.set_cons_zero, List.set_cons_succ]
          refine wpAnyH_done (by kernel_rfl) ?_ _
          have hdl := found_length HFO.out
          have hrl := HRG1.out.lt
          go_wp2_with (at_builtin; refine append_out el_int rfl _ _ rfl (w.heap.size + 1) (.slice ao ds.length capo) _ _ rfl (World.ownsRow.alloc (World.ownsRow.drew HROW1.out) _) ⟨w1.heap.size, 0, none⟩ 1 1 [.int .i64 (q : Int)] rfl rfl (cell_one_new _ _ _) (by simp [Value.oneCell']) (by unfold maxLen; omega) (by omega) (by simp; omega) ?_; intro v' w3 hown' hgrow _)
          have hg3 : w1.grownBy w3 (Value.slice ao ds.length capo).ownBlock := by
            have h1 : (w1.alloc (Obj.cells #[.int .i64 (q : Int)] 3)).grownBy w3 (Value.slice ao ds.length capo).ownBlock := ⟨hgrow.os, hgrow.tape, hgrow.output, hgrow.size, hgrow.block⟩
            exact grownBy_alloc h1
          have hpl := HM.out.map.lt
          have hr3 := HRG1.out.kept hg3 (fun e => by have := (HROW.out.lt pm e.symm).1; omega) (fun e => by have := (HROW.out.lt w.heap.size e.symm).1; omega)
          refine ⟨⟨_, _, ds ++ [(q : Int)], hr3, HLHZ.out, by rw [List.length_append, show ints (ds ++ [(q : Int)]) = ints ds ++ [.int .i64 (q : Int)] by simp [ints]]; exact hown', HFO1.out, HF1.out.grown hg3 (fun k e hk => by have := (HROW.out.lt k e).1; omega)⟩, ?_⟩
          rw [hr3.left_eq, HRGO.out.left_eq]; exact HLT.out
end Go.Proofs.Ytbjffempiaohpaa
