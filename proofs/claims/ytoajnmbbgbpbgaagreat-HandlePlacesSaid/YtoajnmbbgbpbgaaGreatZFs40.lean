/-
  Chapter 12, the reference's table.
-/
import Derived.Test.YtoajnmbbgbpbgaaGreatZFs39
namespace Go.Proofs.YtoajnmbbgbpbgaaGreat
set_option linter.unusedVariables false
set_option linter.unusedSimpArgs false
open Go.RowKit Go.Shelf Go.Maps

/-- The rows that the loop grows, and what inodes hold: in blocks of their own. -/
structure RtJ (w : World) (B : List Int) (j : Nat) (lv av : Value) (wr : World) (T : List TE) (u : Nat) : Prop where
  i : RtI w B j lv av wr T u
  apart : ∀ p ∈ T, ∀ k, p.2.ownBlock = some k → p.1.ext ≠ [] → av.ownBlock ≠ some k ∧ lv.ownBlock ≠ some k
theorem RtJ.fr0 {w : World} {B : List Int} {j : Nat} {lv av : Value} {wr w' : World} {T : List TE} {u : Nat} (h : RtJ w B j lv av wr T u) (hF : Fr No wr w') : RtJ w B j lv av w' T u := ⟨h.i.fr0 hF, h.apart⟩

theorem set_nat (v : Value) (l : List Int) (w : World) (hl : l.length ≤ 1000) (h0 : ∀ b ∈ l, 0 ≤ b ∧ b < 32) (hv : Sl w v l.length (ints l)) :
    Calls Tryz.prog 107 #[v] w fun e w' => e = .returned (.int .u32 (maskN l : Int)) ∧ w = w' := by
  have := set_calls v l w hl h0 hv
  rw [(maskL_nat l (fun b hb => (h0 b hb).2)).1] at this
  exact this
theorem mask_bit (l : List Int) (h0 : ∀ b ∈ l, 0 ≤ b ∧ b < 32) (c : Nat) (hc : c < 32) : (bits .and .u32 ((maskN l : Int) / 2 ^ c) 1 == 1) = decide ((c : Int) ∈ l) ∧ maskN l < 2 ^ 32 := by
  have h1 := (maskL_nat l (fun b hb => (h0 b hb).2)).2
  exact ⟨by rw [shr_bit _ _ h1 hc, maskN_testBit l (fun b hb => (h0 b hb).1)], h1⟩

theorem RtI.node {w : World} {B : List Int} {j : Nat} {lv av : Value} {wr : World} {T : List TE} {u : Nat} (h : RtI w B j lv av wr T u) (k : Nat) (hk : k < j) :
    ∃ g c a n cc nm sz, ∃ hkT : k < T.length, lv = .slice (some ⟨g, 0, none⟩) j c ∧ T[k].1.name = nm ∧ wr.cell? ⟨g, k * 3, none⟩ = some (.string nm) ∧ wr.cell? ⟨g, k * 3 + 1, none⟩ = some (.int .i64 sz) ∧ wr.cell? ⟨g, k * 3 + 2, none⟩ = some (.slice a n cc) := by
  obtain ⟨g, c, rfl, -, -⟩ := World.ownsRow.form h.row (by omega)
  have hkT : k < T.length := by rw [h.len]; exact hk
  obtain ⟨q0, q1, q2⟩ := nodC_get T k hkT
  obtain ⟨a, cc, e⟩ := (h.ext _ (List.getElem_mem hkT)).1.form
  refine ⟨g, c, a, T[k].1.ext.length, cc, T[k].1.name, T[k].1.size, hkT, rfl, rfl, ?_, ?_, ?_⟩
  · rw [h.row.cellAt _ (by omega), q0]
  · rw [h.row.cellAt _ (by omega), q1]
  · rw [h.row.cellAt _ (by omega), q2, e]
theorem sl_three (w : World) (x y z : Value) (t : TypeId) : Sl (w.alloc (.cells #[x, y, z] t)) (.slice (some ⟨w.heap.size, 0, none⟩) 1 1) 1 [x, y, z] := by
  refine ⟨_, _, rfl, ⟨by simp, Nat.le_refl _⟩, fun _ => ⟨_, _, rfl⟩, ?_⟩
  rintro b off j u ⟨rfl, rfl⟩ hj
  rw [Nat.zero_add]
  exact heap_cell (heap_new _ _) (by simpa using hj)

/-- The state within an inode's blocks: k of them are taken. -/
structure RtK (w : World) (n : Nat) (lv ov : Value) (al0 own : List Int) (T : List TE) (k : Nat) (av : Value) (wx : World) : Prop where
  fr : Fr No w wx
  row : wx.ownsRow w.heap.size 95 3 lv n (nodC T)
  all : wx.ownsRow w.heap.size 3 1 av (al0.length + k) (ints (al0 ++ own.take k))
  ext : ∀ p ∈ T, Sn w.heap.size wx p.2 p.1.ext.length (extCells p.1.ext)
  apart : ∀ p ∈ T, ∀ q, p.2.ownBlock = some q → p.1.ext ≠ [] → av.ownBlock ≠ some q ∧ lv.ownBlock ≠ some q
  osl : Sl wx ov own.length (ints own)
  oap : ∀ q, ov.ownBlock = some q → own ≠ [] → av.ownBlock ≠ some q
  nov : ∀ c ∈ own.take k, c ∉ al0
theorem ints_ne' {l : List Int} (h : ints l ≠ []) : l ≠ [] := fun e => h (by rw [e]; rfl)
theorem RtK.step {w : World} {n : Nat} {lv ov : Value} {al0 own : List Int} {T : List TE} {k : Nat} {av av' : Value} {wx w' : World} {o : Obj} (h : RtK w n lv ov al0 own T k av wx) (hk : k < own.length) (hc : own[k] ∉ al0)
    (hr : w'.ownsRow w.heap.size 3 1 av' (al0.length + k + 1) (ints (al0 ++ own.take k) ++ [.int .i64 own[k]])) (hg : (wx.alloc o).grownBy w' av.ownBlock) (hl : av'.ownBlock = av.ownBlock ∨ av'.ownBlock = some (wx.alloc o).heap.size) : RtK w n lv ov al0 own T (k + 1) av' w' := by
  have hFa : Fr No wx (wx.alloc o) := (Fr.refl _ _).alloc _
  have hF : Fr (fun q => av.ownBlock = some q) (wx.alloc o) w' := (Fr.refl _ _).grown hg (fun q e _ => e)
  have hnew : ∀ q, q < wx.heap.size → av.ownBlock ≠ some q → av'.ownBlock ≠ some q := fun q hq hne e => by
    rcases hl with hl | hl
    · exact hne (hl ▸ e)
    · rw [hl] at e; cases e; simp at hq; omega
  refine ⟨(h.fr.trans hFa).trans' hF (fun i hi e => by have := (h.all.lt i e).1; omega), ?_, ?_, ?_, ?_, ?_, ?_, ?_⟩
  · exact ownsRow_fr (ownsRow_fr h.row hFa (fun _ _ h => h)) hF (fun q e e' => rows_apart h.all h.row (by decide) q e' e)
  · have e : ints (al0 ++ own.take (k + 1)) = ints (al0 ++ own.take k) ++ [.int .i64 own[k]] := by
      rw [List.take_succ_eq_append_getElem hk, ← List.append_assoc, ints, List.map_append]; rfl
    rw [e]; exact hr
  · intro p hp
    have h1 := (h.ext p hp).fr0 hFa
    exact ⟨h1.1.fr hF (fun q e hne e' => (h.apart p hp q e (extCells_ne hne)).1 e'), h1.2⟩
  · intro p hp q e hne
    obtain ⟨h1, h2⟩ := h.apart p hp q e hne
    exact ⟨hnew q ((h.ext p hp).1.lt e (ne_extCells hne)) h1, h2⟩
  · exact (h.osl.fr0 hFa).fr hF (fun q e hne e' => h.oap q e (ints_ne' hne) e')
  · intro q e hne
    exact hnew q (h.osl.lt e (fun e2 => hne (by cases own with | nil => rfl | cons => simp [ints] at e2))) (h.oap q e hne)
  · intro c hc'
    rw [List.take_succ_eq_append_getElem hk] at hc'
    rcases List.mem_append.1 hc' with h1 | h1
    · exact h.nov c h1
    · rw [List.mem_singleton.1 h1]; exact hc

set_option maxHeartbeats 4000000 in
set_option maxRecDepth 1000000 in
theorem rtable_calls {w : World} {rb : Nat} {R : Nat → Prop} {F B : List Int} (h : RefAt w rb R F B) :
    Calls Tryz.prog 98 #[.pointer (some ⟨rb, 0, none⟩)] w (RTab w B) := by
  obtain ⟨g, cap, gw, hI⟩ := id h.inn
  have c2 := heap_cell (o := 2) hI.box rfl
  have HM := Lib.hid h
  clear hI h
  go_enter Tryz.func98, Tryz.ntmps98
  go_wp2_with fail
  go_loopw [5, 6, 7] (fun lv av i wr => ∃ (j : Nat) (T : List TE) (u : Nat), j ≤ 8 ∧ i = .int .i64 j ∧ RtJ w B j lv av wr T u) (fun _ _ i _ => 8 - (intOf i).toNat)
  case atStart => exact ⟨0, [], 0, by omega, rfl, ⟨Fr.refl _ _, rfl, rfl, World.ownsRow_nil _ _ _ _, World.ownsRow_nil _ _ _ _, fun p hp => by simp at hp⟩, fun p hp => by simp at hp⟩
  case round =>
    obtain ⟨j, T, u, hj, rfl, hJ⟩ := hrel
    obtain ⟨al, cl, rfl⟩ := (Sl.of_owns hJ.i.row).form
    obtain ⟨aa, ca, rfl⟩ := (Sl.of_owns hJ.i.all).form
    by_cases hlt : j < 8
    · have hbk := rblock_calls (HM.out.fr0 hJ.i.fr) (j + 1) (by omega)
      rw [show ((j + 1 : Nat) : Int) = 1 + (j : Int) by omega] at hbk
      have HBK := Lib.hid hbk
      have HJ := Lib.hid hJ
      have hrb := HM.out.brange
      clear hbk hJ c2
      go_wp2_with fail
      refine HBK.out.mono ?_
      rintro e w2 ⟨b2, rfl, hF2, hR2, hb2⟩
      obtain ⟨l, hl⟩ : ∃ l, blk B (j + 1) = l := ⟨_, rfl⟩
      have hll : l.length = 64 := by rw [← hl, blk_length]
      have hlr : ∀ b ∈ l, 0 ≤ b ∧ b < 256 := by rw [← hl]; exact blk_range B hrb _
      rw [hl] at hR2
      have HST : RowKit.Hid (readT B (j + 1) = stepT (T.map Prod.fst) u l) := Lib.hid (by rw [readT, HJ.out.i.rd, Option.bind_some, hl])
      have HBAD : RowKit.Hid (stepT (T.map Prod.fst) u l = none → tableF B = none) := Lib.hid (fun h => read_bad HJ.out.i.rd hlt (by rw [hl]; exact h))
      have HDC := Lib.hid (rdecode_calls (.slice (some ⟨b2, 0, none⟩) 64 64) l w2 (by omega) hlr (by have := hR2.sl; rw [hll] at this ⊢; exact this))
      have HF2 := Lib.hid hF2
      clear hF2 hR2 hb2 hl hll hlr hrb
      go_wp2_with fail
      refine HDC.out.mono ?_
      intro e w3 hdec
      obtain ⟨hF3, r, rfl, hr3⟩ := dec_new hdec
      obtain ⟨ar, cr, rfl⟩ := hr3.1.form
      have HJ3 := Lib.hid (HJ.out.fr0 (HF2.out.trans hF3))
      have HR3 : RowKit.Hid (Sn w.heap.size w3 (.slice ar (decX l).length cr) (decX l).length (extCells (decX l))) := Lib.hid ⟨hr3.1, fun k e hne => Nat.le_trans (Nat.le_trans HJ.out.i.fr.size HF2.out.size) (hr3.2 k e hne)⟩
      have HXA : RowKit.Hid (∀ q, (Value.slice ar (decX l).length cr).ownBlock = some q → decX l ≠ [] → (Value.slice aa (allB (T.map Prod.fst)).length ca).ownBlock ≠ some q ∧ (Value.slice al j cl).ownBlock ≠ some q) := Lib.hid (fun q e hne => by
        have h1 := hr3.2 q e (ne_extCells hne)
        have h2 := HF2.out.size
        exact ⟨fun e' => by have := (HJ.out.i.all.lt q e').2; omega, fun e' => by have := (HJ.out.i.row.lt q e').2; omega⟩)
      have HLV : RowKit.Hid (∀ q, (Value.slice al j cl).ownBlock = some q → q < w3.heap.size) := Lib.hid (fun q e => by
        have := (HJ.out.i.row.lt q e).2; have := HF2.out.size; have := hF3.size; omega)
      have HXL := Lib.hid (decX_length l)
      have HF3 := Lib.hid (HF2.out.trans hF3)
      clear hdec hr3 hF3 HDC HBK
      rw [decE]
      by_cases h2 : decKind l = 2
      · rw [if_pos h2]
        have HN := Lib.hid (HBAD.out (by rw [stepT, if_pos (.inl h2)]))
        clear h2
        go_wp2
        go_ret3
        exact ⟨HJ3.out.i.fr.alloc _, .inl ⟨HN.out, rfl⟩⟩
      · rw [if_neg h2]
        have HFR : RowKit.Hid (decKind l = 0 → nd l = Nd.free) := Lib.hid nd_zero
        have HK : RowKit.Hid (decKind l = 0 ∨ decKind l = 1) := Lib.hid (by rcases decKind_cases l with h | h | h <;> omega)
        have HNM : RowKit.Hid (decKind l = 1 → (nd l).name ≠ noName) := Lib.hid nd_named
        have HGO : RowKit.Hid ((nd l).good) := Lib.hid (nd_good h2)
        have HSN : RowKit.Hid (decKind l = 1 → (T.map Prod.fst).any (fun y => decide (y.name = (nd l).name)) = true → stepT (T.map Prod.fst) u l = none) := Lib.hid (fun h1 h3 => step_names h1 h3)
        have HOV : RowKit.Hid (u &&& maskX (nd l) ≠ 0 → stepT (T.map Prod.fst) u l = none) := Lib.hid (fun h => by rw [stepT, if_pos (.inr h)])
        have HOK : RowKit.Hid (u &&& maskX (nd l) = 0 → ((nd l).name ≠ noName → ∀ y ∈ T.map Prod.fst, y.name ≠ (nd l).name) → stepT (T.map Prod.fst) u l = some (T.map Prod.fst ++ [nd l], u ||| maskX (nd l))) := Lib.hid (fun h h3 => by
          rw [stepT, if_neg (fun h' => h'.elim h2 (fun h' => h' h))]
          rcases HK.out with hk | hk
          · rw [if_pos hk, nd_zero hk, maskX_free, Nat.or_zero]
          · rw [if_neg (by omega), if_neg]
            intro ha
            obtain ⟨y, hy, e⟩ := List.any_eq_true.1 ha
            exact h3 (nd_named hk) y hy (of_decide_eq_true e))
        have hS : decS l = (nd l).name := rfl
        have hN : decN l = (nd l).size := rfl
        have hX : decX l = (nd l).ext := rfl
        rw [hX] at HR3 HXL HXA
        rw [hS, hN, hX]
        clear hS hN hX h2
        generalize stepT (T.map Prod.fst) u l = stp at *
        generalize nd l = x at *
        obtain ⟨s, sz, xs⟩ := x
        dsimp only at HR3 HXL HNM HSN HXA ⊢
        have hb8 := heap_new w3 (Obj.cells #[.string s, .int .i64 sz, .slice ar xs.length cr] 95)
        have hF8 : Fr No w3 (w3.alloc (Obj.cells #[.string s, .int .i64 sz, .slice ar xs.length cr] 95)) := (Fr.refl _ _).alloc _
        have HJ8 := Lib.hid (HJ3.out.fr0 hF8)
        have HR8 := Lib.hid (HR3.out.fr0 hF8)
        have HB8 := Lib.hid hb8
        have HS3 := Lib.hid (Nat.lt_succ_self w3.heap.size)
        clear hb8 hF8 HR3 HJ3 HF3 HF2
        go_wp2_with fail
        have hw8 : (w3.alloc (Obj.cells #[.string s, .int .i64 sz, .slice ar xs.length cr] 95)).heap.size = w3.heap.size + 1 := by simp
        generalize w3.alloc _ = W8 at *
        go_loopw [39] (fun i wx => ∃ k : Nat, k ≤ j ∧ i = .int .i64 k ∧ Fr No W8 wx ∧ ∀ q (hq : q < T.length), q < k → s ≠ noName → T[q].1.name ≠ s) (fun i _ => j - (intOf i).toNat)
        case atStart => exact ⟨0, Nat.zero_le _, rfl, Fr.refl _ _, fun q _ h => absurd h (Nat.not_lt_zero q)⟩
        case round =>
          obtain ⟨k, hk, rfl, hF, hne⟩ := hrel
          have HNE := Lib.hid hne
          have hbx := hF.heap HB8.out (fun h => h)
          have d0 := heap_cell (o := 0) hbx rfl
          clear hne
          by_cases hkt : k < j
          · obtain ⟨g1, c1, a1, n1, cc1, nm, sz1, hkT, e1, e2, x0, x1, x2⟩ := (HJ8.out.fr0 hF).i.node k hkt
            cases e1
            have HE2 := Lib.hid e2
            have d0' : (wr.alloc (Obj.cells #[.string nm, .int .i64 sz1, .slice a1 n1 cc1] 95)).cell? ⟨w3.heap.size, 0, none⟩ = some (.string s) := heap_cell (heap_alloc _ hbx) rfl
            clear e2
            by_cases hs : s = noName
            · have he := emp_true hs
              have HS := Lib.hid hs
              clear hs hbx
              go_wp2
              go_roundw
              case rel => exact ⟨k + 1, by omega, by go_num, hF.alloc _, fun q hq _ h => absurd HS.out h⟩
              case measure => simp [intOf]; omega
            · have he := emp_false hs
              have HS := Lib.hid hs
              have qe := eq_str nm s
              clear hs
              by_cases hnm : nm = s
              · rw [decide_eq_true hnm] at qe
                have HEQ := Lib.hid hnm
                have HK1 : RowKit.Hid (decKind l = 1) := Lib.hid (by
                  rcases HK.out with h | h
                  · exact absurd (by rw [show s = (⟨s, sz, xs⟩ : Nd).name from rfl, HFR.out h]; rfl) HS.out
                  · exact h)
                have HN := Lib.hid (HBAD.out (HSN.out HK1.out (List.any_eq_true.2 ⟨T[k].1, List.mem_map_of_mem (List.getElem_mem hkT), decide_eq_true (HE2.out.trans HEQ.out)⟩)))
                clear hnm
                go_wp2
                go_ret3
                exact ⟨HJ8.out.i.fr.trans (hF.alloc _), .inl ⟨HN.out, rfl⟩⟩
              · rw [decide_eq_false hnm] at qe
                have HEQ := Lib.hid hnm
                clear hnm hbx
                go_wp2
                go_roundw
                case rel =>
                  refine ⟨k + 1, by omega, by go_num, hF.alloc _, fun q hq hqk h => ?_⟩
                  by_cases e : q = k
                  · subst e; exact fun e => HEQ.out (HE2.out.symm.trans e)
                  · exact HNE.out q hq (by omega) h
                case measure => simp [intOf]; omega
          · obtain rfl : k = j := by omega
            have HNM2 : RowKit.Hid (s ≠ noName → ∀ y ∈ T.map Prod.fst, y.name ≠ s) := Lib.hid (fun h y hy => by
              obtain ⟨p, hp, rfl⟩ := List.mem_map.1 hy
              obtain ⟨q, hq, rfl⟩ := List.mem_iff_getElem.1 hp
              exact HNE.out q hq (by rw [← HJ8.out.i.len]; exact hq) h)
            have HJ9 := Lib.hid (HJ8.out.fr0 hF)
            have HR9 := Lib.hid (HR8.out.fr0 hF)
            have HBX := Lib.hid hbx
            have d1 := heap_cell (o := 1) hbx rfl
            have d2 := heap_cell (o := 2) hbx rfl
            have hsz : w.heap.size ≤ wr.heap.size := HJ9.out.i.fr.size
            have h23 := HJ9.out.i.all_len
            clear hbx hkt hk
            go_upto_region 18 with (at_builtin; refine append_lie el_ino rfl _ _ rfl w.heap.size (.slice al k cl) k (nodC T) rfl (HJ9.out.i.row.alloc _) rfl (sl_three _ _ _ _ _) rfl (by simp [Value.oneCell']) (by unfold maxLen; omega) (by omega) (by simp; omega) ?_; intro v5 w5 hown5 hgrow5 hlie5)
            have hF59 : Fr No wr (wr.alloc (Obj.cells #[.string s, .int .i64 sz, .slice ar xs.length cr] 95)) := (Fr.refl _ _).alloc _
            have hF5 : Fr (fun q => (Value.slice al k cl).ownBlock = some q) (wr.alloc (Obj.cells #[.string s, .int .i64 sz, .slice ar xs.length cr] 95)) w5 := (Fr.refl _ _).grown hgrow5 (fun q e _ => e)
            have hb5 := (hgrow5.block _ (heap_lt (heap_alloc _ HBX.out)) (fun e => by
              have h1 := HLV.out _ e.symm
              omega)).trans (heap_alloc _ HBX.out)
            have HK0 : RowKit.Hid (∀ ov w6, Fr No w5 w6 → w6.ownsRow w5.heap.size 3 1 ov (listF xs).length (ints (listF xs)) → RtK w (k + 1) v5 ov (allB (T.map Prod.fst)) (listF xs) (T ++ [(⟨s, sz, xs⟩, .slice ar xs.length cr)]) 0 (.slice aa (allB (T.map Prod.fst)).length ca) w6) := Lib.hid (by
              intro ov w6 hF6 ho
              have hav : w5.ownsRow w.heap.size 3 1 (.slice aa (allB (T.map Prod.fst)).length ca) (allB (T.map Prod.fst)).length (ints (allB (T.map Prod.fst))) :=
                ownsRow_fr (ownsRow_fr HJ9.out.i.all hF59 (fun _ _ h => h)) hF5 (fun q e e' => rows_apart HJ9.out.i.row HJ9.out.i.all (by decide) q e' e)
              have hF05 : Fr No w w5 := (HJ9.out.i.fr.trans hF59).trans' hF5 (fun i hi e => by have := (HJ9.out.i.row.lt i e).1; omega)
              have hxa : ∀ q, (Value.slice ar xs.length cr).ownBlock = some q → xs ≠ [] → (Value.slice aa (allB (T.map Prod.fst)).length ca).ownBlock ≠ some q ∧ (Value.slice al k cl).ownBlock ≠ some q ∧ q < wr.heap.size := fun q e hne => by
                obtain ⟨h1, h2⟩ := HXA.out q e hne
                exact ⟨h1, h2, HR9.out.1.lt e (ne_extCells hne)⟩
              have hv5 : ∀ q, q < wr.heap.size → (Value.slice al k cl).ownBlock ≠ some q → v5.ownBlock ≠ some q := fun q hq hne e => by
                rcases hlie5 with hl | hl
                · exact hne (hl ▸ e)
                · rw [hl] at e; cases e; simp at hq; omega
              refine ⟨hF05.trans hF6, ?_, ?_, ?_, ?_, Sl.of_owns ho, ?_, ?_⟩
              · rw [nodC_snoc]; exact ownsRow_fr hown5 hF6 (fun _ _ h => h)
              · rw [List.take_zero, List.append_nil, Nat.add_zero]; exact ownsRow_fr hav hF6 (fun _ _ h => h)
              · intro p hp
                rcases List.mem_append.1 hp with h | h
                · have h1 := (HJ9.out.i.ext p h).fr0 hF59
                  exact Sn.fr0 ⟨h1.1.fr hF5 (fun q e hne e' => (HJ9.out.apart p h q e (extCells_ne hne)).2 e'), h1.2⟩ hF6
                · obtain rfl := List.mem_singleton.1 h
                  have h1 := HR9.out.fr0 hF59
                  exact Sn.fr0 ⟨h1.1.fr hF5 (fun q e hne e' => (hxa q e (extCells_ne hne)).2.1 e'), h1.2⟩ hF6
              · intro p hp q e hne
                rcases List.mem_append.1 hp with h | h
                · obtain ⟨h1, h2⟩ := HJ9.out.apart p h q e hne
                  exact ⟨h1, hv5 q ((HJ9.out.i.ext p h).1.lt e (ne_extCells hne)) h2⟩
                · obtain rfl := List.mem_singleton.1 h
                  obtain ⟨h1, h2, h3⟩ := hxa q e hne
                  exact ⟨h1, hv5 q h3 h2⟩
              · intro q e hne e'
                have h1 := (ho.lt q e).1
                have h2 := (hav.lt q e').2
                omega
              · intro c hc; simp at hc)
            have hF05 : Fr No w w5 := (HJ9.out.i.fr.trans hF59).trans' hF5 (fun i hi e => by have := (HJ9.out.i.row.lt i e).1; omega)
            have HR5 : RowKit.Hid (Sl w5 (.slice ar xs.length cr) xs.length (extCells xs)) := Lib.hid ((HR9.out.1.fr0 hF59).fr hF5 (fun q e hne e' => (HXA.out q e (extCells_ne hne)).2 e'))
            have HF05 := Lib.hid hF05
            have d2 := heap_cell (o := 2) hb5 rfl
            clear hF59 hF5 hown5 hgrow5 hlie5 hb5 hF05 hw8 d0 d1
            have HRB := Lib.hid (rblocks_calls (.slice ar xs.length cr) xs w5 (by have := HXL.out; omega) HR5.out)
            have HOW : RowKit.Hid (usedN (T.map Prod.fst) &&& maskX ⟨s, sz, xs⟩ = 0 ↔ ∀ b ∈ listF xs, b ∉ allB (T.map Prod.fst)) := Lib.hid (mask_apart (T.map Prod.fst) ⟨s, sz, xs⟩)
            have HU := Lib.hid HJ9.out.i.u
            have HAR := Lib.hid (allB_range (T.map Prod.fst))
            have HLR := Lib.hid (listF_range xs)
            have HND := Lib.hid (listF_nodup xs)
            have hl33 := listF_length xs
            go_wp2_with fail
            refine HRB.out.mono ?_
            rintro e w6 ⟨hF6, ov, rfl, ho⟩
            have HK6 := Lib.hid (HK0.out ov w6 hF6 ho)
            obtain ⟨ao, co, rfl⟩ := (Sl.of_owns ho).form
            clear ho hF6 d2
            generalize hal : allB (T.map Prod.fst) = al0 at *
            generalize hown : listF xs = own at *
            have HAL := Lib.hid hal
            have HOWN := Lib.hid hown
            clear hal hown
            go_wp2_with fail
            go_loopw [6, 66] (fun av i wx => ∃ q : Nat, q ≤ own.length ∧ i = .int .i64 q ∧ RtK w (k + 1) v5 (.slice ao own.length co) al0 own (T ++ [(⟨s, sz, xs⟩, .slice ar xs.length cr)]) q av wx) (fun _ i _ => own.length - (intOf i).toNat)
            case atStart => exact ⟨0, Nat.zero_le _, rfl, HK6.out⟩
            case round =>
              obtain ⟨q, hq, rfl, hQ⟩ := hrel
              obtain ⟨a6, c6, rfl⟩ := (Sl.of_owns hQ.all).form
              by_cases hqt : q < own.length
              · obtain ⟨cn, hcn⟩ : ∃ cn : Nat, own[q] = (cn : Int) := ⟨(own[q]).toNat, by have := HLR.out _ (List.getElem_mem hqt); omega⟩
                have hc32 : cn < 32 := by have := HLR.out _ (List.getElem_mem hqt); omega
                obtain ⟨vb, off, e0, -, hc⟩ := hQ.osl.at (ints_ne own q hqt)
                cases e0
                have x1 : wr.cell? ⟨vb, off + q, none⟩ = some (.int .i64 (cn : Int)) := by rw [← hcn]; exact hc _ _ (ints_get own q hqt)
                have hL6 : ∀ b ∈ al0 ++ own.take q, 0 ≤ b ∧ b < 32 := fun b hb => by
                  rcases List.mem_append.1 hb with h | h
                  · exact HAR.out b h
                  · exact HLR.out b (List.mem_of_mem_take h)
                have hlen6 : (al0 ++ own.take q).length = al0.length + q := by rw [List.length_append, List.length_take]; omega
                have HSE := Lib.hid (by
                  have := set_nat (.slice a6 (al0.length + q) c6) (al0 ++ own.take q) wr (by omega) hL6 (by rw [hlen6]; exact Sl.of_owns hQ.all)
                  exact this)
                obtain ⟨hb1, hb2⟩ := mask_bit (al0 ++ own.take q) hL6 cn hc32
                have HQ := Lib.hid hQ
                have HCN := Lib.hid hcn
                have hws := hQ.fr.size
                have HNT : RowKit.Hid ((cn : Int) ∉ own.take q) := Lib.hid (by
                  rw [← hcn]
                  intro hm
                  obtain ⟨m, hm, e⟩ := List.mem_iff_getElem.1 hm
                  rw [List.length_take] at hm
                  rw [List.getElem_take] at e
                  have := (List.getElem_inj HND.out).1 e
                  omega)
                generalize maskN (al0 ++ own.take q) = mk at *
                by_cases hin : (cn : Int) ∈ al0 ++ own.take q
                · rw [decide_eq_true hin] at hb1
                  have HN := Lib.hid (HBAD.out (HOV.out (fun h0 => by
                    rw [HU.out] at h0
                    have h1 := HOW.out.1 h0 (cn : Int) (by rw [← HCN.out]; exact List.getElem_mem hqt)
                    rcases List.mem_append.1 hin with h | h
                    · exact h1 h
                    · exact HNT.out h)))
                  clear hin hc hL6 hcn hQ
                  go_wp2_with fail
                  refine HSE.out.mono ?_
                  rintro e w7 ⟨rfl, rfl⟩
                  go_wp2
                  go_ret3
                  exact ⟨HQ.out.fr, .inl ⟨HN.out, rfl⟩⟩
                · rw [decide_eq_false hin] at hb1
                  have HNI : RowKit.Hid (own[q] ∉ al0) := Lib.hid (fun h => hin (List.mem_append_left _ (by rw [← HCN.out]; exact h)))
                  have hl33' : q < 33 := by omega
                  clear hin hc hL6 hcn hQ hlen6
                  go_wp2_with fail
                  refine HSE.out.mono ?_
                  rintro e w7 ⟨rfl, rfl⟩
                  go_wp2_with (at_builtin; refine append_lie el_int rfl _ _ rfl w.heap.size (.slice a6 (al0.length + q) c6) (al0.length + q) (ints (al0 ++ own.take q)) rfl (HQ.out.all.alloc _) rfl (sl_new _ [.int .i64 (cn : Int)] _ (by simp)) rfl (by simp [Value.oneCell']) (by unfold maxLen; simp; omega) (by simp; omega) (by simp; omega) ?_; intro v8 w8 hown8 hgrow8 hlie8)
                  go_roundw
                  case rel => exact ⟨q + 1, by omega, by go_num, HQ.out.step hqt HNI.out (by rw [HCN.out]; exact hown8) hgrow8 hlie8⟩
                  case measure => simp [intOf]; omega
              · obtain rfl : q = own.length := by omega
                have hov : u &&& maskX ⟨s, sz, xs⟩ = 0 := by
                  rw [HU.out]
                  exact HOW.out.2 (fun b hb => hQ.nov b (by rw [List.take_length]; exact hb))
                have hst := HOK.out hov HNM2.out
                have hJn : RtJ w B (k + 1) v5 (.slice a6 (al0.length + own.length) c6) wr (T ++ [(⟨s, sz, xs⟩, .slice ar xs.length cr)]) (u ||| maskX ⟨s, sz, xs⟩) := by
                  have e1 : allB ((T ++ [((⟨s, sz, xs⟩ : Nd), Value.slice ar xs.length cr)]).map Prod.fst) = al0 ++ own := by
                    rw [List.map_append, List.map_cons, List.map_nil, allB_snoc, HAL.out, HOWN.out]
                  refine ⟨⟨hQ.fr, ?_, ?_, hQ.row, ?_, hQ.ext⟩, hQ.apart⟩
                  · rw [HST.out, hst, List.map_append]; rfl
                  · rw [List.length_append, HJ9.out.i.len]; rfl
                  · rw [e1, List.length_append]
                    have := hQ.all
                    rw [List.take_length] at this
                    exact this
                have HJN := Lib.hid hJn
                clear hQ hov hst hJn
                go_wp2
                go_roundw
                case rel => exact ⟨k + 1, _, _, by omega, by go_num, HJN.out⟩
                case measure => simp [intOf]; omega
    · obtain rfl : j = 8 := by omega
      have HJ := Lib.hid hJ
      have hu := hJ.i.u
      have hul : u < 2 ^ 32 := by rw [hu]; exact usedN_lt _
      have HSE := Lib.hid (by
        have h1 := hJ.i.all_len
        have := set_nat (.slice aa (allB (T.map Prod.fst)).length ca) (allB (T.map Prod.fst)) wr (by omega) (allB_range _) (Sl.of_owns hJ.i.all)
        rw [show ((maskN (allB (T.map Prod.fst)) : Nat) : Int) = (u : Int) by
          rw [hu, ← mask_all, (maskL_nat _ (fun b hb => (allB_range _ b hb).2)).1]] at this
        exact this)
      have HBK := Lib.hid (rblock_calls (HM.out.fr0 hJ.i.fr) 0 (by omega))
      have HH := Lib.hid (fun w1 => rhead_calls u hul w1)
      obtain ⟨bv, hbv⟩ : ∃ bv, decide (blk B 0 = headF u) = bv := ⟨_, rfl⟩
      have HEQ := Lib.hid (fun (w1 : World) (va vb : Value) (h1 : Sl w1 va 64 (bys (blk B 0))) (h2 : Sl w1 vb 64 (bys (headF u))) => (by
        have := same01_calls va vb (blk B 0) (headF u) w1 (blk_range B HM.out.brange 0) (headF_range u) (by rw [blk_length]; exact h1) (by rw [headF_length]; exact h2)
        rw [hbv] at this; exact this : Calls Tryz.prog 124 #[va, vb] w1 fun e w' => e = .returned (.bool bv) ∧ w1 = w'))
      have HNB : RowKit.Hid (bv = false → tableF B = none) := Lib.hid (fun e => by
        rw [tableF, hJ.i.rd, Option.bind_some, if_neg (of_decide_eq_false (hbv.trans e))])
      have HNG : RowKit.Hid (bv = true → tableF B = some (T.map Prod.fst, u)) := Lib.hid (fun e => by
        rw [tableF, hJ.i.rd, Option.bind_some, if_pos (of_decide_eq_true (hbv.trans e))])
      have HLB := Lib.hid (blk_length B 0)
      clear hJ hu hul hbv c2
      generalize headF u = hd at *
      generalize blk B 0 = bl0 at *
      go_wp2_with fail
      refine HSE.out.mono ?_
      rintro e w7 ⟨rfl, rfl⟩
      go_wp2_with fail
      refine HBK.out.mono ?_
      rintro e w2 ⟨b2, rfl, hF2, hR2, hb2⟩
      go_wp2_with fail
      refine (HH.out _).mono ?_
      rintro e w4 ⟨r4, rfl, hF4, hr4⟩
      obtain ⟨a4, c4, rfl⟩ := (Sl.of_owns hr4).form
      have hs1 : Sl w4 (.slice (some ⟨b2, 0, none⟩) 64 64) 64 (bys bl0) := by
        have := (hR2.fr hF4 (fun h => h)).sl
        rw [HLB.out] at this; exact this
      have HEQ4 := Lib.hid (HEQ.out w4 _ _ hs1 (Sl.of_owns hr4))
      have HF4 := Lib.hid (hF2.trans hF4)
      clear hF2 hR2 hb2 hF4 hr4 hs1
      go_wp2_with fail
      refine HEQ4.out.mono ?_
      rintro e w5 ⟨rfl, rfl⟩
      cases bv
      · have HN := Lib.hid (HNB.out rfl)
        go_wp2
        go_ret3
        exact ⟨HJ.out.i.fr.trans HF4.out, .inl ⟨HN.out, rfl⟩⟩
      · have HN := Lib.hid (HNG.out rfl)
        go_wp2
        go_ret3
        have h1 := HJ.out.fr0 HF4.out
        exact ⟨h1.i.fr, .inr ⟨_, u, T, _, HN.out, rfl, rfl, h1.i.row, h1.i.ext⟩⟩
end Go.Proofs.YtoajnmbbgbpbgaaGreat
