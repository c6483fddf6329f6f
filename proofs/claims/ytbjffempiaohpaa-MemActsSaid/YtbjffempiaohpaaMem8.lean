/-
  The memory of chapter 9: the reference's Lay and Set; both memories side by side.
-/
import Derived.Test.YtbjffempiaohpaaMem7
namespace Go.Proofs.Ytbjffempiaohpaa
set_option linter.unusedVariables false
set_option linter.unusedSimpArgs false
open Go.RowKit Go.Shelf Go.Maps

structure RefIn (w : World) (rb g cap gw : Nat) (R : Nat → Prop) (F B : List Int) : Prop where
  box : w.heap[rb]? = some (.cells #[.slice (some ⟨g, 0, none⟩) 8192 cap, .slice (some ⟨gw, 0, none⟩) 8192 8192, .bool false] 46 (0, 0))
  row : w.ownsRow 0 5 1 (.slice (some ⟨g, 0, none⟩) 8192 cap) 8192 (bys B)
  was : Row w gw 5 F
  ne : g ≠ gw
  rrb : R rb
  rg : R g
  rgw : R gw
  low : ∀ j, R j → j < w.heap.size
  blen : B.length = 8192
  brange : ∀ b ∈ B, 0 ≤ b ∧ b < 256
theorem RefAt.inn {w : World} {rb : Nat} {R : Nat → Prop} {F B : List Int} (h : RefAt w rb R F B) : ∃ g cap gw, RefIn w rb g cap gw R F B := by
  obtain ⟨g, cap, gw, h1, h2, h3, h4, h5, h6, h7, h8, h9, h10⟩ := h
  exact ⟨g, cap, gw, h1, h2, h3, h4, h5, h6, h7, h8, h9, h10⟩
theorem RefIn.at {w : World} {rb g cap gw : Nat} {R : Nat → Prop} {F B : List Int} (h : RefIn w rb g cap gw R F B) : RefAt w rb R F B :=
  ⟨g, cap, gw, h.box, h.row, h.was, h.ne, h.rrb, h.rg, h.rgw, h.low, h.blen, h.brange⟩
theorem RefIn.rbg {w : World} {rb g cap gw : Nat} {R : Nat → Prop} {F B : List Int} (h : RefIn w rb g cap gw R F B) : rb ≠ g := fun e => by
  exact absurd e.symm (fun e2 => by
    have := not_row h.box (by decide) h.row
    exact this (by simp [Value.ownBlock, e2]))
theorem RefIn.fr {S : Nat → Prop} {w w' : World} {rb g cap gw : Nat} {R : Nat → Prop} {F B : List Int} (h : RefIn w rb g cap gw R F B) (hF : Fr S w w') (hn : ∀ k, S k → ¬ R k) : RefIn w' rb g cap gw R F B where
  box := hF.heap h.box (fun hs => hn _ hs h.rrb)
  row := hF.ownsRow h.row (fun k e hs => hn _ hs (by cases e; exact h.rg))
  was := h.was.fr hF (fun hs => hn _ hs h.rgw)
  ne := h.ne
  rrb := h.rrb
  rg := h.rg
  rgw := h.rgw
  low := fun j hj => Nat.lt_of_lt_of_le (h.low j hj) hF.size
  blen := h.blen
  brange := h.brange
theorem RefIn.store {w : World} {rb g cap gw : Nat} {R : Nat → Prop} {F B : List Int} (h : RefIn w rb g cap gw R F B) (k : Nat) (hk : k < 8192) (x : Int) (hx : 0 ≤ x ∧ x < 256) : RefIn (w.setCell ⟨g, k, none⟩ (.int .u8 x)) rb g cap gw R F (B.set k x) := by
  have hF : Fr (fun j => j = g) w (w.setCell ⟨g, k, none⟩ (.int .u8 x)) := (Fr.refl (fun j => j = g) w).setCell (p := ⟨g, k, none⟩) (fun _ => rfl) (.int .u8 x)
  have hst := h.row.stored k (.int .u8 x)
  rw [bys_set] at hst
  exact
  { box := hF.heap h.box h.rbg
    row := hst.1
    was := h.was.fr hF (fun e => h.ne e.symm)
    ne := h.ne
    rrb := h.rrb
    rg := h.rg
    rgw := h.rgw
    low := fun j hj => Nat.lt_of_lt_of_le (h.low j hj) hF.size
    blen := by rw [List.length_set]; exact h.blen
    brange := fun y hy => by
      rcases List.mem_or_eq_of_mem_set hy with h1 | h1
      · exact h.brange y h1
      · rw [h1]; exact hx }
/-- The reference behind a call. -/
def Rp (w : World) (rb : Nat) (R : Nat → Prop) (F B : List Int) (w' : World) (R' : Nat → Prop) : Prop := RefAt w' rb R' F B ∧ Fr R w w' ∧ Gr w R R'

set_option maxHeartbeats 1000000 in
set_option maxRecDepth 1000000 in
theorem rlay_calls {w : World} {rb : Nat} {R : Nat → Prop} {F B : List Int} (h : RefAt w rb R F B) (a : Int) (v : Value) (l : List Int) (hv : Sl w v l.length (bys l)) (hvR : ∀ k, v.ownBlock = some k → l ≠ [] → ¬ R k) (h0 : ∀ b ∈ l, 0 ≤ b ∧ b < 256) (hlen : l.length ≤ 9223372036854775807) (ha : -9223372036854775808 ≤ a ∧ a ≤ 9223372036854775807) :
    Calls Try.prog 19 #[.pointer (some ⟨rb, 0, none⟩), .int .i64 a, v] w fun e w' => e = .returned (.tuple #[]) ∧ Rp w rb R F (layF B a l) w' R := by
  obtain ⟨av, cap', rfl⟩ := hv.form
  obtain ⟨g, cap, gw, h⟩ := h.inn
  have HM := Lib.hid h
  obtain ⟨ha1, ha2⟩ := ha
  clear h
  go_enter Try.func19, Try.ntmps19
  go_wp2
  go_loopw [9] (fun i wr => ∃ j : Nat, j ≤ l.length ∧ i = .int .i64 j ∧ RefIn wr rb g cap gw R F (layN B a l j) ∧ Fr (fun k => k = g) w wr) (fun i _ => l.length - (intOf i).toNat)
  case atStart => exact ⟨0, Nat.zero_le _, rfl, HM.out, Fr.refl _ _⟩
  case round =>
    obtain ⟨j, hj, rfl, hM, hF⟩ := hrel
    by_cases hlt : j < l.length
    · obtain ⟨vb, off, rfl, hvb, hc⟩ := hv.at (bys_ne l j hlt)
      have hvg : vb ≠ g := fun e => hvR vb rfl (fun e2 => by rw [e2] at hlt; simp at hlt) (by rw [e]; exact HM.out.rg)
      have c1 := hF.cell (hc _ _ (bys_get _ _ hlt)) hvg
      have hxr := h0 _ (List.getElem_mem hlt)
      have hg : l.getD j 0 = l[j] := by simp [List.getD, hlt]
      revert c1 hxr hg
      generalize l[j] = x
      intro c1 hxr hg
      have HXR := Lib.hid hxr
      have HH := Lib.hid hM
      have HVR := Lib.hid hvR
      have hFH := Lib.hid hF
      by_cases hbig : a ≤ 8192
      · by_cases hov : 9223372036854775807 < a + (j : Int)
        · have hst : layN B a l (j + 1) = layN B a l j := by rw [layN, if_neg (by omega)]
          have HST0 := Lib.hid hst
          have hw : IntKind.i64.wrap (a + (j : Int)) = a + j - 18446744073709551616 := by rw [IntKind.wrap_i64]; omega
          have h1 : ¬ 0 ≤ a + (j : Int) - 18446744073709551616 := by omega
          clear hM hvR hg hxr hst hv hc h0 hF
          go_wp2
          go_roundw
          case rel => exact ⟨j + 1, by omega, by go_num, by rw [HST0.out]; exact HH.out, hFH.out⟩
          case measure => simp [intOf]; omega
        have hw : IntKind.i64.wrap (a + (j : Int)) = a + j := IntWalk.i64_in _ (by omega)
        by_cases hin : 0 ≤ a + (j : Int) ∧ a + (j : Int) < 8192
        · have hst : layN B a l (j + 1) = (layN B a l j).set (a + (j : Int)).toNat x := by rw [layN, if_pos hin, hg]
          obtain ⟨kk, hkk⟩ : ∃ kk : Nat, a + (j : Int) = kk := ⟨(a + (j : Int)).toNat, by omega⟩
          rw [hkk, Int.toNat_natCast] at hst
          have hk : kk < 8192 := by omega
          have HST0 := Lib.hid hst
          rw [hkk] at hw
          have c0 := heap_cell (o := 0) hM.box rfl
          have hkl : kk < (layN B a l j).length := by rw [hM.blen]; exact hk
          have q1 := (hM.row.cellAt kk (by omega)).trans (bys_get _ _ hkl)
          have q2 := hM.row.frozenAt kk
          revert q1
          generalize (layN B a l j)[kk] = y
          intro q1
          clear hM hin hvR hg hxr hst hv hc h0 hF hkl
          go_wp2
          go_region
          have hs := HH.out.store kk hk x HXR.out
          have hd : Fr No (wr.setCell ⟨g, kk, none⟩ (.int .u8 x)) (wr.setCell ⟨g, kk, none⟩ (.int .u8 x)).drew := (Fr.refl _ _).drew
          have hs2 := Lib.hid (hs.fr hd (fun _ h => h.elim))
          have hf2 := Lib.hid ((hFH.out.setCell (p := ⟨g, kk, none⟩) (fun _ => rfl) (.int .u8 x)).drew)
          clear hs hd
          generalize (wr.setCell _ _).drew = W9 at *
          go_wp2
          exact ⟨⟨j + 1, by omega, by go_num, by rw [HST0.out]; exact hs2.out, hf2.out⟩, by simp [intOf]; omega⟩
        · have hst : layN B a l (j + 1) = layN B a l j := by rw [layN, if_neg hin]
          have HST0 := Lib.hid hst
          by_cases h0' : 0 ≤ a + (j : Int)
          · have h1 : ¬ (a + (j : Int) < 8192) := fun h => hin ⟨h0', h⟩
            clear hin hM hvR hg hxr hst hv hc h0 hF
            go_wp2
            go_roundw
            case rel => exact ⟨j + 1, by omega, by go_num, by rw [HST0.out]; exact HH.out, hFH.out⟩
            case measure => simp [intOf]; omega
          · clear hin hM hvR hg hxr hst hv hc h0 hF
            go_wp2
            go_roundw
            case rel => exact ⟨j + 1, by omega, by go_num, by rw [HST0.out]; exact HH.out, hFH.out⟩
            case measure => simp [intOf]; omega
      · have hst : layN B a l (j + 1) = layN B a l j := by rw [layN, if_neg (by omega)]
        have HST0 := Lib.hid hst
        clear hM hvR hg hxr hst hv hc h0 hF
        go_wp2
        go_roundw
        case rel => exact ⟨j + 1, by omega, by go_num, by rw [HST0.out]; exact HH.out, hFH.out⟩
        case measure => simp [intOf]; omega
    · have HH := Lib.hid hM
      have hFH := Lib.hid hF
      clear hM hv hvR h0 hF
      go_wp2
      go_end0
      refine ⟨rfl, ?_, hFH.out.mono (fun i hi e => by subst e; exact HM.out.rg), Gr.refl _ _⟩
      rw [layF, show l.length = j by omega]; exact HH.out.at

/-- The reference's PutNum of eight bytes, at any place. -/
theorem layN_cell (B : List Int) (a : Int) (n : Int) (i : Nat) (hi : i < 8) (hn : 0 ≤ n ∧ n < 18446744073709551616) : layN B a (putL (zs 8) 0 n 8) (i + 1) = if 0 ≤ a + (i : Int) ∧ a + (i : Int) < 8192 then (layN B a (putL (zs 8) 0 n 8) i).set (a + (i : Int)).toNat (IntKind.u8.wrap (n / 2 ^ (8 * i))) else layN B a (putL (zs 8) 0 n 8) i := by
  rw [layN]
  have := putL_get (zs 8) 0 n 8 i hi (by rw [zs_length]; omega)
  rw [Nat.zero_add] at this
  rw [this, IntKind.wrap_u8]

set_option maxHeartbeats 1000000 in
set_option maxRecDepth 1000000 in
theorem rput8_calls (v : Value) (B : List Int) (a n : Int) (w : World) (hB : B.length = 8192) (hn : 0 ≤ n ∧ n < 18446744073709551616) (ha : -9223372036854775808 ≤ a ∧ a ≤ 9223372036854775807) (hv : Sl w v 8192 (bys B)) :
    Calls Try.prog 64 #[v, .int .i64 a, .int .i64 8, .int .u64 n] w fun e w' => ∃ r, e = .returned r ∧ Fr No w w' ∧ w'.ownsRow w.heap.size 5 1 r 8192 (bys (layN B a (putL (zs 8) 0 n 8) 8)) := by
  obtain ⟨av, cap, rfl⟩ := hv.form
  obtain ⟨ha1, ha2⟩ := ha
  go_enter Try.func64, Try.ntmps64
  go_wp2_with (at_builtin; refine append_sl el_u8 rfl _ _ rfl w.heap.size (.slice none 0 0) 0 [] rfl (World.ownsRow_nil _ _ _ _) rfl hv (by rw [bys_len, Nat.mul_one]; exact hB) (bys_one B) (by unfold maxLen; omega) (by omega) (by omega) ?_; intro v' w3 hown' hgrow)
  rw [Nat.zero_add, List.nil_append] at hown'
  have hF3 : Fr No w w3 := (Fr.refl _ _).grown hgrow (fun k e _ => by cases e)
  obtain ⟨g, cap', rfl, hg1, hg2⟩ := World.ownsRow.form hown' (by omega)
  clear hv
  go_loopw [10] (fun i wr => ∃ k : Nat, k ≤ 8 ∧ i = .int .i64 k ∧ wr.ownsRow w.heap.size 5 1 (.slice (some ⟨g, 0, none⟩) 8192 cap') 8192 (bys (layN B a (putL (zs 8) 0 n 8) k)) ∧ Fr No w wr) (fun i _ => 8 - (intOf i).toNat)
  case atStart => exact ⟨0, Nat.zero_le _, rfl, hown', hF3⟩
  case round =>
    obtain ⟨k, hk, rfl, hrow, hFr⟩ := hrel
    by_cases hlt : k < 8
    · have hst0 := layN_cell B a n k hlt hn
      have HR := Lib.hid hrow
      have hFH := Lib.hid hFr
      obtain ⟨hn1, hn2⟩ := hn
      by_cases hbig : a ≤ 8192
      · have hw : IntKind.i64.wrap (a + (k : Int)) = a + k := IntWalk.i64_in _ (by omega)
        by_cases hin : 0 ≤ a + (k : Int) ∧ a + (k : Int) < 8192
        · rw [if_pos hin] at hst0
          obtain ⟨kk, hkk⟩ : ∃ kk : Nat, a + (k : Int) = kk := ⟨(a + (k : Int)).toNat, by omega⟩
          rw [hkk, Int.toNat_natCast] at hst0
          rw [hkk] at hw
          have hkx : kk < 8192 := by omega
          have hkl : kk < (layN B a (putL (zs 8) 0 n 8) k).length := by rw [layN_length, hB]; exact hkx
          have hc1 := (hrow.cellAt kk (by omega)).trans (bys_get _ _ hkl)
          have f1 := hrow.frozenAt kk
          have hst := hrow.stored kk (.int .u8 (IntKind.u8.wrap (n / 2 ^ (8 * k))))
          rw [bys_set] at hst
          have HST := Lib.hid hst
          have HST0 := Lib.hid hst0
          revert hc1
          generalize (layN B a (putL (zs 8) 0 n 8) k)[kk] = y0
          intro hc1
          clear hst hrow hin hst0 hFr hown' hgrow hF3 hkl
          go_wp2
          go_roundw
          case rel =>
            obtain ⟨q1, q2⟩ := HST.out
            exact ⟨k + 1, by omega, by go_num, by rw [HST0.out]; exact q1, hFH.out.grown q2 (fun k e hk => by cases e; omega)⟩
          case measure => simp [intOf]; omega
        · rw [if_neg hin] at hst0
          have HST0 := Lib.hid hst0
          by_cases h0' : 0 ≤ a + (k : Int)
          · have h1 : ¬ (a + (k : Int) < 8192) := fun h => hin ⟨h0', h⟩
            clear hin hst0 hrow hFr hown' hgrow hF3
            go_wp2
            go_roundw
            case rel => exact ⟨k + 1, by omega, by go_num, by rw [HST0.out]; exact HR.out, hFH.out⟩
            case measure => simp [intOf]; omega
          · clear hin hst0 hrow hFr hown' hgrow hF3
            go_wp2
            go_roundw
            case rel => exact ⟨k + 1, by omega, by go_num, by rw [HST0.out]; exact HR.out, hFH.out⟩
            case measure => simp [intOf]; omega
      · rw [if_neg (by omega)] at hst0
        have HST0 := Lib.hid hst0
        clear hst0 hrow hFr hown' hgrow hF3
        go_wp2
        go_roundw
        case rel => exact ⟨k + 1, by omega, by go_num, by rw [HST0.out]; exact HR.out, hFH.out⟩
        case measure => simp [intOf]; omega
    · go_wp2
      go_ret
      exact ⟨_, rfl, hFr, by rw [show 8 = k by omega]; rw [show k = 8 by omega] at hrow ⊢; exact hrow⟩

set_option maxRecDepth 1000000 in
theorem rputcell_calls (v : Value) (B : List Int) (a n : Int) (w : World) (hB : B.length = 8192) (ha : -9223372036854775808 ≤ a ∧ a ≤ 9223372036854775807) (hv : Sl w v 8192 (bys B)) :
    Calls Try.prog 49 #[v, .int .i64 a, .int .i64 n] w fun e w' => ∃ r, e = .returned r ∧ Fr No w w' ∧ w'.ownsRow w.heap.size 5 1 r 8192 (bys (setF B a n)) := by
  have HC := Lib.hid (rput8_calls v B a (IntKind.u64.wrap n) w hB (u64_range n) ha hv)
  have hs : setF B a n = layN B a (putL (zs 8) 0 (IntKind.u64.wrap n) 8) 8 := by rw [setF, layF, cellF_length]; rfl
  rw [hs]
  obtain ⟨av, cap, rfl⟩ := hv.form
  clear hv hs
  go_enter Try.func49, Try.ntmps49
  go_wp2_with (go_at_call 64; ((with_reducible refine HC.out.mono ?_); rintro e w1 ⟨r, rfl, hF, hr⟩))
  go_ret
  exact ⟨r, rfl, hF, hr⟩
theorem layN_range (B : List Int) (a : Int) (l : List Int) (hB : ∀ b ∈ B, 0 ≤ b ∧ b < 256) (hl : ∀ b ∈ l, 0 ≤ b ∧ b < 256) (i : Nat) : ∀ b ∈ layN B a l i, 0 ≤ b ∧ b < 256 := by
  induction i with
  | zero => exact hB
  | succ i ih =>
    intro b hb
    rw [layN] at hb
    split at hb
    · rcases List.mem_or_eq_of_mem_set hb with h | h
      · exact ih b h
      · rw [h]; exact getD_range l hl i
    · exact ih b hb

set_option maxRecDepth 1000000 in
theorem rset_calls {w : World} {rb : Nat} {R : Nat → Prop} {F B : List Int} (h : RefAt w rb R F B) (a n : Int) (ha : -9223372036854775808 ≤ a ∧ a ≤ 9223372036854775807) :
    Calls Try.prog 24 #[.pointer (some ⟨rb, 0, none⟩), .int .i64 a, .int .i64 n] w fun e w' => ∃ R', e = .returned (.tuple #[]) ∧ Rp w rb R F (setF B a n) w' R' := by
  obtain ⟨g, cap, gw, h⟩ := h.inn
  have c0 := heap_cell (o := 0) h.box rfl
  have HC := Lib.hid (rputcell_calls (.slice (some ⟨g, 0, none⟩) 8192 cap) B a n w h.blen ha (Sl.of_owns h.row))
  have HM := Lib.hid h
  clear h
  go_enter Try.func24, Try.ntmps24
  go_wp2_with fail
  refine HC.out.mono ?_
  rintro e w1 ⟨r, rfl, hF, hr⟩
  have hM1 := HM.out.fr hF (fun _ h => h.elim)
  obtain ⟨g', cap', rfl, hg1, hg2⟩ := World.ownsRow.form hr (by omega)
  have d0 := heap_cell (o := 0) hM1.box rfl
  have f0 := heap_frozen (o := 0) hM1.box
  have HM1 := Lib.hid hM1
  have HRR := Lib.hid hr
  clear hM1 hr c0
  go_wp2
  have hFs : Fr (fun k => k = rb) w1 (w1.setCell ⟨rb, 0, none⟩ (.slice (some ⟨g', 0, none⟩) 8192 cap')) := (Fr.refl (fun k => k = rb) w1).setCell (p := ⟨rb, 0, none⟩) (fun _ => rfl) _
  have hrb := HM.out.low rb HM.out.rrb
  have hgwl := HM.out.low gw HM.out.rgw
  have hne2 : gw ≠ rb := fun e => by have h1 := HM1.out.was; rw [e] at h1; exact absurd (heap_ty HM1.out.box h1) (by decide)
  go_end0
  refine ⟨fun j => R j ∨ j = g', rfl, ⟨g', cap', gw, by simp [World.setCell, Array.getElem?_modify, HM1.out.box], hFs.ownsRow (ownsRow_base HRR.out (Nat.zero_le _)) (fun k e hk => by simp [Value.ownBlock] at e; omega), HM1.out.was.fr hFs hne2, by omega, .inl HM.out.rrb, .inr rfl, .inl HM.out.rgw, fun j hj => ?_, ?_, layN_range _ _ _ HM.out.brange (cellF_range n) _⟩, hF.no.trans' hFs (fun i hi e => by subst e; exact HM.out.rrb), fun j hj => ?_⟩
  · rcases hj with hj | rfl
    · have := HM.out.low j hj; have := hF.size; have := hFs.size; omega
    · have := hFs.size; omega
  · rw [setF, layF, layN_length]; exact HM.out.blen
  · rcases hj with hj | rfl
    · exact .inl hj
    · exact .inr hg1
end Go.Proofs.Ytbjffempiaohpaa
