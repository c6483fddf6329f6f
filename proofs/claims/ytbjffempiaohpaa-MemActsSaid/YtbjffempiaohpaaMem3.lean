/-
  The memory of chapter 9: bytes read.
-/
import Derived.Test.YtbjffempiaohpaaMem2
namespace Go.Proofs.Ytbjffempiaohpaa
set_option linter.unusedVariables false
set_option linter.unusedSimpArgs false
open Go.RowKit Go.Shelf Go.Maps

/-- What a call may have grown a memory's blocks by: new ones alone. -/
abbrev Gr (w : World) (A A' : Nat → Prop) : Prop := ∀ j, A' j → A j ∨ w.heap.size ≤ j
theorem Gr.refl (w : World) (A : Nat → Prop) : Gr w A A := fun _ h => .inl h
theorem Gr.trans {w w' : World} {A A' A'' : Nat → Prop} (h : Gr w A A') (k : Gr w' A' A'') (hs : w.heap.size ≤ w'.heap.size) : Gr w A A'' := fun j hj => by
  rcases k j hj with h1 | h1
  · exact h j h1
  · exact .inr (Nat.le_trans hs h1)
theorem Fr.thenG {w w' w'' : World} {A A' : Nat → Prop} (h : Fr A w w') (k : Fr A' w' w'') (g : Gr w A A') : Fr A w w'' := h.trans' k (fun i hi hs => by
  rcases g i hs with h1 | h1
  · exact h1
  · omega)
/-- A memory behind a call: its blocks A' are the old ones and new ones; of what lay in w nothing else has turned. -/
def Mp (w : World) (mb : Nat) (A : Nat → Prop) (F B : List Int) (w' : World) (A' : Nat → Prop) : Prop := MemAt w' mb A' F B ∧ Fr A w w' ∧ Gr w A A'
theorem Mp.refl {w : World} {mb : Nat} {A : Nat → Prop} {F B : List Int} (h : MemAt w mb A F B) : Mp w mb A F B w A := ⟨h, Fr.refl _ _, Gr.refl _ _⟩
theorem Mp.trans {w w' w'' : World} {mb : Nat} {A A' A'' : Nat → Prop} {F B B' : List Int} (h : Mp w mb A F B w' A') (k : Mp w' mb A' F B' w'' A'') : Mp w mb A F B' w'' A'' :=
  ⟨k.1, h.2.1.thenG k.2.1 h.2.2, h.2.2.trans k.2.2 h.2.1.size⟩
/-- .. and then something that leaves the memory's blocks. -/
theorem Mp.thenFr {w w' w'' : World} {mb : Nat} {A A' : Nat → Prop} {F B : List Int} (h : Mp w mb A F B w' A') (k : Fr No w' w'') : Mp w mb A F B w'' A' := ⟨h.1.fr0 k, h.2.1.trans k.no, h.2.2⟩

theorem MemAt.blen {w : World} {mb : Nat} {A : Nat → Prop} {F B : List Int} (h : MemAt w mb A F B) : B.length = 8192 := by obtain ⟨_, _, _, _, _, h⟩ := h; exact h.blen
theorem MemAt.brange {w : World} {mb : Nat} {A : Nat → Prop} {F B : List Int} (h : MemAt w mb A F B) : ∀ b ∈ B, 0 ≤ b ∧ b < 256 := by obtain ⟨_, _, _, _, _, h⟩ := h; exact h.brange
theorem MemAt.low {w : World} {mb : Nat} {A : Nat → Prop} {F B : List Int} (h : MemAt w mb A F B) : ∀ j, A j → j < w.heap.size := by obtain ⟨_, _, _, _, _, h⟩ := h; exact h.low
theorem MemAt.box {w : World} {mb : Nat} {A : Nat → Prop} {F B : List Int} (h : MemAt w mb A F B) : ∃ fb pm, w.heap[mb]? = some (.cells #[.pointer none, .map (some pm), .slice (some ⟨fb, 0, none⟩) 8192 8192] 65 (0, 0)) := by obtain ⟨_, _, _, _, _, h⟩ := h; exact ⟨_, _, h.box⟩

theorem at_post {w w' : World} {mb fb pm n : Nat} {D : DataW Unit} {P : Nat → Option Nat} {A : Nat → Prop} {F B : List Int} (h : MemIn w mb fb pm n D P A F B) {k p r b : Nat} (hp : p < 128) (hr : r < 64) (hk : k = 64 * p + r) (hb : P p = some b) :
    A b ∧ w.cell? ⟨b, 64 + r, none⟩ = some (.int .u8 (B.getD k 0)) ∧ w.frozen? ⟨b, 64 + r, none⟩ = false ∧ ∀ x, 0 ≤ x ∧ x < 256 → MemAt (w.setCell ⟨b, 64 + r, none⟩ (.int .u8 x)) mb A F (B.set k x) := by
  subst hk
  obtain ⟨hA, hR⟩ := h.held p b hp hb
  refine ⟨hA, ?_, hR.frozen _, fun x hx => ?_⟩
  · have hl : 64 + r < (pg F p ++ pg B p).length := by rw [List.length_append, pg_length _ _ h.flen hp, pg_length _ _ h.blen hp]; omega
    have h1 := hR.cell hl
    rw [List.getElem_append_right (by rw [pg_length _ _ h.flen hp]; omega)] at h1
    rw [h1]
    have h2 := pg_get B p r hr
    rw [← h2]
    have h3 : r < (pg B p).length := by rw [pg_length _ _ h.blen hp]; omega
    simp [List.getD, pg_length _ _ h.flen hp, h3]
  · exact ⟨fb, pm, n, D, P, h.store hp hr hb x hx⟩
theorem at_calls {w : World} {mb : Nat} {A : Nat → Prop} {F B : List Int} (h : MemAt w mb A F B) (k : Nat) (hk : k < 8192) :
    Calls Try.prog 47 #[.pointer (some ⟨mb, 0, none⟩), .int .i64 k] w fun e w' => ∃ b A', e = .returned (.pointer (some ⟨b, 0, none⟩)) ∧ Mp w mb A F B w' A' ∧ A' b ∧ (∀ j, A j → A' j) ∧
      w'.cell? ⟨b, 64 + k % 64, none⟩ = some (.int .u8 (B.getD k 0)) ∧ w'.frozen? ⟨b, 64 + k % 64, none⟩ = false ∧ ∀ x, 0 ≤ x ∧ x < 256 → MemAt (w'.setCell ⟨b, 64 + k % 64, none⟩ (.int .u8 x)) mb A' F (B.set k x) := by
  obtain ⟨fb, pm, n, D, P, h⟩ := h
  have hp : k / 64 < 128 := by omega
  have hr : k % 64 < 64 := by omega
  have hkk : k = 64 * (k / 64) + k % 64 := by omega
  cases hb : P (k / 64) with
  | some b =>
    refine (at_hit h hp hr hkk hb).mono ?_
    rintro e w' ⟨rfl, rfl⟩
    obtain ⟨h1, h2, h3, h4⟩ := at_post (w' := w') h hp hr hkk hb
    exact ⟨b, A, rfl, ⟨⟨fb, pm, n, D, P, h⟩, Fr.refl _ _, Gr.refl _ _⟩, h1, fun _ h => h, h2, h3, h4⟩
  | none =>
    refine (at_miss h hp hr hkk hb).mono ?_
    rintro e w' ⟨b, rfl, hM, hF, hbl⟩
    obtain ⟨h1, h2, h3, h4⟩ := at_post (w' := w') hM hp hr hkk (b := b) (by simp [putP])
    refine ⟨b, _, rfl, ⟨⟨fb, pm, _, _, _, hM⟩, hF.mono (fun i hi e => by subst e; exact h.apm), ?_⟩, h1, fun _ h => .inl h, h2, h3, h4⟩
    rintro j (hj | rfl)
    · exact .inl hj
    · exact .inr hbl

theorem neq_nilmap (w : World) (pm : Nat) : (binOp BinOp.neq 63 (.map (some pm)) (.map none)).run Try.prog w = .ok (.bool true) w := by
  kernel_rfl
set_option maxRecDepth 1000000 in
theorem is_calls {w : World} {mb : Nat} {A : Nat → Prop} {F B : List Int} (h : MemAt w mb A F B) :
    Calls Try.prog 46 #[.pointer (some ⟨mb, 0, none⟩)] w fun e w' => e = .returned (.bool true) ∧ w = w' := by
  obtain ⟨fb, pm, hb⟩ := h.box
  have c1 := heap_cell (o := 1) hb rfl
  clear hb h
  go_enter Try.func46, Try.ntmps46
  have hne := neq_nilmap w pm
  go_wp2
  go_ret
  exact ⟨rfl, rfl⟩

/-- The byte at a place; nought outside. -/
def byteAt (B : List Int) (x : Int) : Int := if 0 ≤ x ∧ x < 8192 then B.getD x.toNat 0 else 0
theorem byteAt_range (B : List Int) (h : ∀ b ∈ B, 0 ≤ b ∧ b < 256) (x : Int) : 0 ≤ byteAt B x ∧ byteAt B x < 256 := by
  rw [byteAt]; split
  · exact getD_range B h _
  · omega
/-- N bytes from a on, the first i of them read. -/
def outN (B : List Int) (a : Int) (N : Nat) : Nat → List Int
  | 0 => zs N
  | i + 1 => (outN B a N i).set i (byteAt B (a + i))
theorem outN_length (B : List Int) (a : Int) (N i : Nat) : (outN B a N i).length = N := by
  induction i with
  | zero => exact zs_length N
  | succ i ih => rw [outN, List.length_set, ih]
theorem outN_get (B : List Int) (a : Int) (N i : Nat) (hi : i ≤ N) (j : Nat) : (outN B a N i).getD j 0 = if j < i then byteAt B (a + j) else 0 := by
  induction i with
  | zero => rw [outN, zs_get]; simp
  | succ i ih =>
    rw [outN, set_get _ _ _ _ (by rw [outN_length]; omega)]
    by_cases e : j = i
    · subst e; rw [if_pos rfl, if_pos (by omega)]
    · rw [if_neg e, ih (by omega)]
      by_cases h1 : j < i
      · rw [if_pos h1, if_pos (by omega)]
      · rw [if_neg h1, if_neg (by omega)]
theorem set_same (l : List Int) (i : Nat) (x : Int) (h : l.getD i 0 = x) (hi : i < l.length) : l.set i x = l := by
  rw [List.getD_eq_getElem?_getD, List.getElem?_eq_getElem hi, Option.getD_some] at h
  rw [← h]; simp
theorem outN_skip (B : List Int) (a : Int) (N i : Nat) (hi : i < N) (h : byteAt B (a + i) = 0) : outN B a N (i + 1) = outN B a N i := by
  rw [outN, h]
  exact set_same _ _ _ (by rw [outN_get _ _ _ _ (by omega), if_neg (by omega)]) (by rw [outN_length]; exact hi)
/-- N bytes from a on. -/
def loadF (B : List Int) (a : Int) (N : Nat) : List Int := outN B a N N
theorem loadF_length (B : List Int) (a : Int) (N : Nat) : (loadF B a N).length = N := outN_length B a N N
theorem loadF_get (B : List Int) (a : Int) (N j : Nat) (hj : j < N) : (loadF B a N).getD j 0 = byteAt B (a + j) := by rw [loadF, outN_get _ _ _ _ (Nat.le_refl _), if_pos hj]
theorem outN_out (B : List Int) (a : Int) (N : Nat) (h : 8192 ≤ a) (i : Nat) (hi : i ≤ N) : outN B a N i = zs N := by
  induction i with
  | zero => rfl
  | succ i ih => rw [outN_skip _ _ _ _ (by omega) (by rw [byteAt, if_neg (by omega)]), ih (by omega)]
theorem loadF_range (B : List Int) (hB : ∀ b ∈ B, 0 ≤ b ∧ b < 256) (a : Int) (N : Nat) : ∀ b ∈ loadF B a N, 0 ≤ b ∧ b < 256 := by
  have : ∀ i, ∀ b ∈ outN B a N i, 0 ≤ b ∧ b < 256 := fun i => by
    induction i with
    | zero => intro b hb; simp only [outN, zs, List.mem_replicate] at hb; omega
    | succ i ih =>
      intro b hb
      rcases List.mem_or_eq_of_mem_set hb with h | h
      · exact ih b h
      · rw [h]; exact byteAt_range B hB _
  exact this N

set_option maxHeartbeats 1000000 in
set_option maxRecDepth 1000000 in
theorem load_calls {w : World} {mb : Nat} {A : Nat → Prop} {F B : List Int} (h : MemAt w mb A F B) (a n : Int) (N : Nat) (hN : min (max n 0) 8192 = (N : Int)) (ha : -9223372036854775808 ≤ a ∧ a ≤ 9223372036854775807) :
    Calls Try.prog 20 #[.pointer (some ⟨mb, 0, none⟩), .int .i64 a, .int .i64 n] w fun e w' => ∃ b A', e = .returned (.slice (some ⟨b, 0, none⟩) N N) ∧ Mp w mb A F B w' A' ∧ Row w' b 5 (loadF B a N) ∧ ¬ A' b ∧ w.heap.size ≤ b := by
  have hN2 : N ≤ 8192 := by omega
  have hR0 : Row (w.alloc (.cells (bys (zs N)).toArray 5)) w.heap.size 5 (zs N) := Row.new _ _ _
  have hF0 : Fr No w (w.alloc (.cells (bys (zs N)).toArray 5)) := (Fr.refl _ _).alloc _
  have HI := Lib.hid (is_calls (h.fr0 hF0))
  have hM0 := Lib.hid (h.fr0 hF0)
  have hlow := Lib.hid h.low
  have HN := Lib.hid hN
  obtain ⟨ha1, ha2⟩ := ha
  clear h hN
  go_enter Try.func20, Try.ntmps20
  go_upto_region 1 with fail
  go_cut [7] (fun s7 wx => s7 = .slice (some ⟨w.heap.size, 0, none⟩) N N ∧ wx = w.alloc (.cells (bys (zs N)).toArray 5))
  case first =>
    have hN := HN.out
    by_cases h1 : n < 0
    · obtain rfl : N = 0 := by omega
      have hmk : ∀ w : World, (Instr.makeSlice 22 (.int .i64 0) (.int .i64 0)).run Try.prog w = .ok (.slice (some ⟨w.heap.size, 0, none⟩) 0 0) (w.alloc (.cells (bys (zs 0)).toArray 5)) := fun w => mk_bytes w 0 (by omega)
      clear hN
      go_wp2_with fail
      go_meet
      exact ⟨rfl, rfl⟩
    · by_cases h2 : 8192 < n
      · obtain rfl : N = 8192 := by omega
        have hmk : ∀ w : World, (Instr.makeSlice 22 (.int .i64 8192) (.int .i64 8192)).run Try.prog w = .ok (.slice (some ⟨w.heap.size, 0, none⟩) 8192 8192) (w.alloc (.cells (bys (zs 8192)).toArray 5)) := fun w => mk_bytes w 8192 (by omega)
        generalize (bys (zs 8192)).toArray = cs at *
        clear hN
        go_wp2_with fail
        go_meet
        exact ⟨rfl, rfl⟩
      · obtain rfl : n = N := by omega
        have hmk : ∀ w : World, (Instr.makeSlice 22 (.int .i64 N) (.int .i64 N)).run Try.prog w = .ok (.slice (some ⟨w.heap.size, 0, none⟩) N N) (w.alloc (.cells (bys (zs N)).toArray 5)) := fun w => mk_bytes w N (by omega)
        generalize (bys (zs N)).toArray = cs at *
        clear hN
        go_wp2_with fail
        go_meet
        exact ⟨rfl, rfl⟩
  case rest =>
  obtain ⟨rfl, rfl⟩ := hcut
  generalize hW1 : w.alloc _ = W1 at *
  by_cases hbig : 8192 < a
  · have HL := Lib.hid (show loadF B a N = zs N from outN_out B a N (by omega) N (Nat.le_refl _))
    clear hW1
    go_wp2_with (go_at_call 46; ((with_reducible refine HI.out.mono ?_); rintro e w1 ⟨rfl, rfl⟩))
    go_ret
    exact ⟨_, A, rfl, ⟨hM0.out, hF0.no, Gr.refl _ _⟩, by rw [HL.out]; exact hR0, fun hA => Nat.lt_irrefl _ (hlow.out _ hA), Nat.le_refl _⟩
  · clear hW1
    go_wp2_with (go_at_call 46; ((with_reducible refine HI.out.mono ?_); rintro e w1 ⟨rfl, rfl⟩))
    go_loopw [24] (fun i wr => ∃ j : Nat, j ≤ N ∧ i = .int .i64 j ∧ ∃ A', Mp w mb A F B wr A' ∧ Row wr w.heap.size 5 (outN B a N j) ∧ ¬ A' w.heap.size) (fun i _ => N - (intOf i).toNat)
    case atStart => exact ⟨0, Nat.zero_le _, rfl, A, ⟨hM0.out, hF0.no, Gr.refl _ _⟩, hR0, fun hA => Nat.lt_irrefl _ (hlow.out _ hA)⟩
    case round =>
      obtain ⟨j, hj, rfl, A', hM, hR, hA⟩ := hrel
      by_cases hlt : j < N
      · have hw : IntKind.i64.wrap (a + (j : Int)) = a + j := IntWalk.i64_in _ (by omega)
        have hjl : j < (outN B a N j).length := by rw [outN_length]; exact hlt
        have HH := Lib.hid hM
        have HA := Lib.hid hA
        by_cases hin : 0 ≤ a + (j : Int) ∧ a + (j : Int) < 8192
        · obtain ⟨kk, hkk⟩ : ∃ kk : Nat, a + (j : Int) = kk := ⟨(a + (j : Int)).toNat, by omega⟩
          have hk : kk < 8192 := by omega
          have HC0 := at_calls hM.1 kk hk
          have hby : byteAt B (a + j) = B.getD kk 0 := by rw [byteAt, if_pos hin, hkk]; rfl
          obtain ⟨bv, hbv⟩ : ∃ bv, B.getD kk 0 = bv := ⟨_, rfl⟩
          have hbr := getD_range B hM.1.brange kk
          rw [hbv] at HC0 hby hbr
          have HBY := Lib.hid hby
          have HBV := Lib.hid hbv
          obtain ⟨r, hr⟩ : ∃ r, kk % 64 = r := ⟨_, rfl⟩
          rw [hr] at HC0
          have HC := Lib.hid HC0
          have hr1 : (kk : Int) % 64 = r := by omega
          have hr2 : Int.tmod (kk : Int) 64 = r := by rw [Int.tmod_eq_emod_of_nonneg (by omega)]; exact hr1
          have hr3 : r < 64 := by omega
          have HR := Lib.hid hR
          clear hM hby HC0 hr hin hA hR hbv
          rw [hkk] at hw
          go_wp2_with (go_at_call 47; ((with_reducible refine HC.out.mono ?_); rintro e w2 ⟨b, A2, rfl, hM2, hb2, hA2, hc, hf, hst⟩; have hR2 := HR.out.fr hM2.2.1 HA.out; have q1 := hR2.cell hjl; have q2 := hR2.frozen j; have HS := Lib.hid (hR2.set j bv); have HST := Lib.hid hst; clear hst hR2))
          go_roundw
          case rel =>
            have hFs : Fr (fun k => k = w.heap.size) w2 (w2.setCell ⟨w.heap.size, j, none⟩ (.int .u8 bv)) := (Fr.refl (fun k => k = w.heap.size) w2).setCell (p := ⟨w.heap.size, j, none⟩) (fun _ => rfl) _
            have hM3 := HH.out.trans hM2
            have hwl := HR.out.lt
            have hnA : ¬ A2 w.heap.size := fun h => by
              rcases hM2.2.2 _ h with h1 | h1
              · exact HA.out h1
              · omega
            refine ⟨j + 1, by omega, by go_num, A2, ⟨hM3.1.fr hFs (fun k e => by subst e; exact hnA), hM3.2.1.trans' hFs (fun i hi e => by omega), hM3.2.2⟩, ?_, hnA⟩
            rw [outN, HBY.out]; exact HS.out
          case measure => simp [intOf]; omega
        · have hsk := outN_skip B a N j hlt (by rw [byteAt, if_neg hin])
          have HSK := Lib.hid hsk
          have HR := Lib.hid hR
          by_cases h0 : 0 ≤ a + (j : Int)
          · have h1 : ¬ (a + (j : Int) < 8192) := fun h => hin ⟨h0, h⟩
            clear hin hsk hM hA hR
            go_wp2
            go_roundw
            case rel => exact ⟨j + 1, by omega, by go_num, A', HH.out, by rw [HSK.out]; exact HR.out, HA.out⟩
            case measure => simp [intOf]; omega
          · clear hin hsk hM hA hR
            go_wp2
            go_roundw
            case rel => exact ⟨j + 1, by omega, by go_num, A', HH.out, by rw [HSK.out]; exact HR.out, HA.out⟩
            case measure => simp [intOf]; omega
      · have HH := Lib.hid hM
        have HA := Lib.hid hA
        have HR := Lib.hid hR
        clear hM hA hR
        go_wp2
        go_ret
        exact ⟨_, A', rfl, HH.out, by rw [loadF, show N = j by omega]; rw [show N = j by omega] at HR; exact HR.out, HA.out, Nat.le_refl _⟩
end Go.Proofs.Ytbjffempiaohpaa
