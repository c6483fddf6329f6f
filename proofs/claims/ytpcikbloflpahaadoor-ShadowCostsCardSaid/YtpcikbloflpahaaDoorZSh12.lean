/-
  Chapter 7: a sector written: write.
-/
import Derived.Test.YtpcikbloflpahaaDoorZSh11
namespace Go.Proofs.YtpcikbloflpahaaDoor
set_option linter.unusedVariables false
set_option linter.unusedSimpArgs false
open Go.RowKit Go.Shelf Go.Maps

/-- A writer: its disk, its map of sectors. -/
structure WrIn (w : World) (db mb cb fb wb : Nat) (A : Nat → Prop) (acts : Nat) (l : List Int) (x : Int) : Prop where
  dk : DkAt w db A acts
  sp : SpIn w mb cb fb l x
  tab : Tab7 w
  box : w.heap[wb]? = some (.cells [.pointer (some ⟨db, 0, none⟩), .pointer (some ⟨mb, 0, none⟩)].toArray 108 (0, 0))
  a1 : ¬ A mb
  a2 : ¬ A cb
  a3 : ¬ A fb
  a4 : ¬ A wb
  a5 : ¬ A 0
  b1 : cb ≠ 0
  b2 : fb ≠ 0
def WrS (A : Nat → Prop) (cb fb : Nat) : Nat → Prop := fun k => A k ∨ k = cb ∨ k = fb
theorem WrIn.fr {S : Nat → Prop} {w w' : World} {db mb cb fb wb : Nat} {A : Nat → Prop} {acts : Nat} {l : List Int} {x : Int} (h : WrIn w db mb cb fb wb A acts l x) (hF : Fr S w w') (hn : ∀ k, S k → ¬ A k ∧ k ≠ mb ∧ k ≠ cb ∧ k ≠ fb ∧ k ≠ wb ∧ k ≠ 0) : WrIn w' db mb cb fb wb A acts l x :=
  ⟨h.dk.fr hF (fun k hk hs => (hn k hs).1 hk), ⟨hF.heap h.sp.box (fun e => (hn _ e).2.1 rfl), hF.heap h.sp.cnt (fun e => (hn _ e).2.2.1 rfl), hF.heap h.sp.fre (fun e => (hn _ e).2.2.2.1 rfl), h.sp.len⟩, h.tab.fr hF (fun e => (hn _ e).2.2.2.2.2 rfl), hF.heap h.box (fun e => (hn _ e).2.2.2.2.1 rfl), h.a1, h.a2, h.a3, h.a4, h.a5, h.b1, h.b2⟩
theorem WrIn.fr0 {w w' : World} {db mb cb fb wb : Nat} {A : Nat → Prop} {acts : Nat} {l : List Int} {x : Int} (h : WrIn w db mb cb fb wb A acts l x) (hF : Fr No w w') : WrIn w' db mb cb fb wb A acts l x := h.fr hF (fun _ h => h.elim)
theorem WrIn.wc {w : World} {db mb cb fb wb : Nat} {A : Nat → Prop} {acts : Nat} {l : List Int} {x : Int} (h : WrIn w db mb cb fb wb A acts l x) : wb ≠ cb ∧ wb ≠ fb ∧ mb ≠ cb ∧ mb ≠ fb ∧ cb ≠ fb := by
  refine ⟨fun e => ?_, fun e => ?_, fun e => ?_, fun e => ?_, fun e => ?_⟩
  · have a := h.box; have b := h.sp.cnt; rw [e, b] at a; injection a with a; injection a with _ a; exact absurd a (by decide)
  · have a := h.box; have b := h.sp.fre; rw [e, b] at a; injection a with a; injection a with _ a; exact absurd a (by decide)
  · have a := h.sp.box; have b := h.sp.cnt; rw [e, b] at a; injection a with a; injection a with _ a; exact absurd a (by decide)
  · have a := h.sp.box; have b := h.sp.fre; rw [e, b] at a; injection a with a; injection a with _ a; exact absurd a (by decide)
  · have a := h.sp.cnt; have b := h.sp.fre; rw [e, b] at a; injection a with a; injection a with _ a; exact absurd a (by decide)
/-- A sector taken. -/
theorem WrIn.took {w w' : World} {db mb cb fb wb : Nat} {A : Nat → Prop} {acts : Nat} {l l' : List Int} {x x' : Int} (h : WrIn w db mb cb fb wb A acts l x) (h1 : SpIn w' mb cb fb l' x') (hF : Fr (fun k => k = cb ∨ k = fb) w w') : WrIn w' db mb cb fb wb A acts l' x' :=
  ⟨h.dk.fr hF (fun k hk hs => hs.elim (fun e => h.a2 (e ▸ hk)) (fun e => h.a3 (e ▸ hk))), h1, h.tab.fr hF (fun hs => hs.elim (fun e => h.b1 e.symm) (fun e => h.b2 e.symm)), hF.heap h.box (fun hs => hs.elim h.wc.1 h.wc.2.1), h.a1, h.a2, h.a3, h.a4, h.a5, h.b1, h.b2⟩
theorem heap_lt7 {w : World} {b : Nat} {o : Obj} (h : w.heap[b]? = some o) : b < w.heap.size := by
  by_cases hb : b < w.heap.size
  · exact hb
  · rw [Array.getElem?_eq_none (by omega)] at h; cases h
/-- A sector written. -/
theorem WrIn.wrote {w w' : World} {db mb cb fb wb : Nat} {A A' : Nat → Prop} {acts acts' : Nat} {l : List Int} {x : Int} (h : WrIn w db mb cb fb wb A acts l x) (h1 : DkAt w' db A' acts') (hF : Fr A w w') (hG : Gr7 w A A') : WrIn w' db mb cb fb wb A' acts' l x := by
  have hg : ∀ b, ¬ A b → b < w.heap.size → ¬ A' b := fun b h1 h2 h3 => (hG b h3).elim h1 (fun h => by omega)
  exact ⟨h1, ⟨hF.heap h.sp.box h.a1, hF.heap h.sp.cnt h.a2, hF.heap h.sp.fre h.a3, h.sp.len⟩, h.tab.fr hF h.a5, hF.heap h.box h.a4, hg _ h.a1 (heap_lt7 h.sp.box), hg _ h.a2 (heap_lt7 h.sp.cnt), hg _ h.a3 (heap_lt7 h.sp.fre), hg _ h.a4 (heap_lt7 h.box), hg _ h.a5 h.tab.pos, h.b1, h.b2⟩

set_option maxHeartbeats 1000000 in
set_option maxRecDepth 1000000 in
theorem enc1_calls (v : Value) (w : World) : Calls Tryd.prog 67 #[v] w fun e w' => e = .returned (.tuple #[v, .int .i64 0]) ∧ w = w' := by
  go_enter Tryd.func67, Tryd.ntmps67
  go_wp2
  go_ret2
  exact ⟨rfl, rfl⟩

set_option maxHeartbeats 2000000 in
set_option maxRecDepth 1000000 in
theorem writeb_calls {w : World} {db mb cb fb wb : Nat} {A : Nat → Prop} {acts : Nat} {l : List Int} {x : Int} (h : WrIn w db mb cb fb wb A acts l x) (ha : acts < 10) (n : Nat) (hn : n = 2 ∧ x = 1020 ∨ n = 3 ∧ x = 1016 ∨ n = 4 ∧ x = 1008) (hc : l[n]? = some 0) (b off cap : Nat) (bs : List Int) (hl : (bys bs).length = 64) (hsl : ∀ w', Fr (WrS A cb fb) w w' → w'.rangeAt b off (bys bs)) :
    Calls Tryd.prog 66 #[.pointer (some ⟨wb, 0, none⟩), .slice (some ⟨b, off, none⟩) 64 cap, .func (.func 67) #[] #[]] w fun e w' => e = .returned (.int .i64 (n : Int)) ∧ ∃ A', WrIn w' db mb cb fb wb A' (acts + 1) (l.set n 1) (x - (2 ^ n : Nat)) ∧ Fr (WrS A cb fb) w w' ∧ Gr7 w A A' := by
  have HE := Lib.hid enc1_calls
  have HM := Lib.hid must_calls
  have HT := Lib.hid (sptake_calls h.sp h.tab n hn hc)
  have HSL := Lib.hid hsl
  have HL := Lib.hid hl
  have H := Lib.hid h
  have k0 : w.cell? ⟨wb, 0, none⟩ = some (.pointer (some ⟨db, 0, none⟩)) := heap_cell (o := 0) h.box rfl
  have k1 : w.cell? ⟨wb, 1, none⟩ = some (.pointer (some ⟨mb, 0, none⟩)) := heap_cell (o := 1) h.box rfl
  have hn10 : n < 10 := by omega
  clear h hsl hl hn hc
  go_enter Tryd.func66, Tryd.ntmps66
  go_wp2_with fail
  refine (HE.out _ _).mono ?_
  rintro e w1 ⟨rfl, rfl⟩
  go_wp2_with fail
  refine (HM.out _).mono ?_
  rintro e w1 ⟨rfl, rfl⟩
  go_wp2_with fail
  refine HT.out.mono ?_
  rintro e w1 ⟨rfl, h1, hF1⟩
  have H1 := Lib.hid (H.out.took h1 hF1)
  have HF1 := Lib.hid (hF1.mono (T := WrS A cb fb) (fun k _ hk => .inr hk))
  have k0 : w1.cell? ⟨wb, 0, none⟩ = some (.pointer (some ⟨db, 0, none⟩)) := heap_cell (o := 0) H1.out.box rfl
  clear h1 hF1
  go_wp2_with fail
  refine (HM.out _).mono ?_
  rintro e w2 ⟨rfl, rfl⟩
  go_wp2_with fail
  refine (dwrite_calls H1.out.dk ha n hn10 b off cap bs HL.out (fun w' hF => HSL.out _ (HF1.out.trans (hF.mono (fun k _ hk => .inl hk))))).mono ?_
  rintro e w2 ⟨rfl, A', h2, hF2, hG2⟩
  have H2 := Lib.hid (H1.out.wrote h2 hF2 hG2)
  have HF2 := Lib.hid (HF1.out.trans (hF2.mono (fun k _ hk => .inl hk)))
  have HG2 : RowKit.Hid (Gr7 w A A') := Lib.hid (fun j hj => (hG2 j hj).imp id (fun h => Nat.le_trans HF1.out.size h))
  clear h2 hF2 hG2
  go_wp2_with fail
  refine (HM.out _).mono ?_
  rintro e w3 ⟨rfl, rfl⟩
  go_wp2_with fail
  go_ret
  exact ⟨rfl, A', H2.out, HF2.out, HG2.out⟩

theorem row_range7 {w : World} {B n : Nat} {r : Value} {cs : List Value} {t : TypeId} (h : w.ownsRow B t 1 r n cs) (hne : cs ≠ []) : ∃ b off cap, r = .slice (some ⟨b, off, none⟩) n cap ∧ B ≤ b ∧ b < w.heap.size ∧ w.rangeAt b off cs := by
  obtain ⟨a, c, h1, h2, h3, h4⟩ := Sl.of_owns h
  obtain ⟨b, off, rfl⟩ := h3 hne
  have := h.lt b (by rw [h1]; rfl)
  exact ⟨b, off, c, h1, this.1, this.2, fun j v hj => h4 b off j v rfl hj⟩
set_option maxHeartbeats 2000000 in
set_option maxRecDepth 1000000 in
theorem writen_calls {w : World} {db mb cb fb wb : Nat} {A : Nat → Prop} {acts : Nat} {l : List Int} {x : Int} (h : WrIn w db mb cb fb wb A acts l x) (ha : acts < 10) (n : Nat) (hn : n = 2 ∧ x = 1020 ∨ n = 3 ∧ x = 1016 ∨ n = 4 ∧ x = 1008) (hc : l[n]? = some 0) (nl : List Int) (hnl : nl.length = 32) (hnr : ∀ x ∈ nl, 0 ≤ x ∧ x ≤ 65535) :
    Calls Tryd.prog 68 #[.pointer (some ⟨wb, 0, none⟩), .agg (nds nl).toArray, .func (.func 69) #[] #[]] w fun e w' => e = .returned (.int .i64 (n : Int)) ∧ ∃ A', WrIn w' db mb cb fb wb A' (acts + 1) (l.set n 1) (x - (2 ^ n : Nat)) ∧ Fr (WrS A cb fb) w w' ∧ Gr7 w A A' := by
  have hFA : Fr No w (w.alloc (Obj.cells (nds nl).toArray 99)) := (Fr.refl No w).alloc _
  have HN := Lib.hid (heap_nd (heap_new w (Obj.cells (nds nl).toArray 99)) hnl)
  have HE := Lib.hid (nencode_calls nl hnl hnr (w.alloc (Obj.cells (nds nl).toArray 99)))
  have HM := Lib.hid must_calls
  have HT := Lib.hid (fun (w1 : World) (hF : Fr No w w1) => sptake_calls (h.fr0 hF).sp (h.fr0 hF).tab n hn hc)
  have H := Lib.hid h
  have HFA := Lib.hid hFA
  have hn10 : n < 10 := by omega
  clear h hn hc hnl hnr hFA
  go_enter Tryd.func68, Tryd.ntmps68
  go_wp2_with (first
    | (refine load_nd rfl _ rfl w.heap.size 0 nl rfl HN.out ?_)
    | fail "arm")
  refine HE.out.mono ?_
  rintro e w1 ⟨r, bs, rfl, hF1, hlen, -, hown⟩
  obtain ⟨b, off, cap, rfl, hb1, hb2, hr⟩ := row_range7 hown (by intro e; have := congrArg List.length e; simp [bys, hlen] at this)
  have hF01 := HFA.out.trans hF1
  have HF01 := Lib.hid hF01
  have HR := Lib.hid hr
  have HL : RowKit.Hid ((bys bs).length = 64) := Lib.hid (by simp [bys, hlen])
  have hbw : w.heap.size ≤ b := Nat.le_trans HFA.out.size hb1
  have HBW := Lib.hid hbw
  have H1 := Lib.hid (H.out.fr0 hF01)
  have k0 : w1.cell? ⟨wb, 0, none⟩ = some (.pointer (some ⟨db, 0, none⟩)) := heap_cell (o := 0) H1.out.box rfl
  have k1 : w1.cell? ⟨wb, 1, none⟩ = some (.pointer (some ⟨mb, 0, none⟩)) := heap_cell (o := 1) H1.out.box rfl
  clear hF1 hlen hown hr hF01 hbw hb1
  go_wp2_with fail
  refine (HM.out _).mono ?_
  rintro e w2 ⟨rfl, rfl⟩
  go_wp2_with fail
  refine (HT.out w1 HF01.out).mono ?_
  rintro e w2 ⟨rfl, h1, hF1⟩
  have H2 := Lib.hid (H1.out.took h1 hF1)
  have HF12 := Lib.hid (hF1.mono (T := WrS A cb fb) (fun k _ hk => .inr hk))
  have k0 : w2.cell? ⟨wb, 0, none⟩ = some (.pointer (some ⟨db, 0, none⟩)) := heap_cell (o := 0) H2.out.box rfl
  clear h1 hF1 k1
  go_wp2_with fail
  refine (HM.out _).mono ?_
  rintro e w3 ⟨rfl, rfl⟩
  go_wp2_with fail
  refine (dwrite_calls H2.out.dk ha n hn10 b off cap bs HL.out (fun w' hF => ?_)).mono ?_
  · have hFt := HF12.out.trans (hF.mono (fun k _ hk => .inl hk))
    refine fun j v hj => hFt.cell (HR.out j v hj) (fun e => ?_)
    have := HBW.out
    have s1 := heap_lt7 H.out.sp.cnt
    have s2 := heap_lt7 H.out.sp.fre
    rcases e with e | e | e
    · have := H.out.dk.low _ e; omega
    · omega
    · omega
  rintro e w3 ⟨rfl, A', h2, hF2, hG2⟩
  have H3 := Lib.hid (H2.out.wrote h2 hF2 hG2)
  have HF2 := Lib.hid (HF01.out.no.trans (HF12.out.trans (hF2.mono (fun k _ hk => .inl hk))))
  have HG2 : RowKit.Hid (Gr7 w A A') := Lib.hid (fun j hj => (hG2 j hj).imp id (fun h => Nat.le_trans (Nat.le_trans HF01.out.size HF12.out.size) h))
  clear h2 hF2 hG2
  go_wp2_with fail
  refine (HM.out _).mono ?_
  rintro e w4 ⟨rfl, rfl⟩
  go_wp2_with fail
  go_ret
  exact ⟨rfl, A', H3.out, HF2.out, HG2.out⟩
end Go.Proofs.YtpcikbloflpahaaDoor
