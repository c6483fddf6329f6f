/-
  Chapter 12: a file made longer or shorter, in the table.
-/
import Derived.Test.YtoajnmbbgbpbgaaGreatZH
namespace Go.Proofs.YtoajnmbbgbpbgaaGreat
set_option linter.unusedVariables false
set_option linter.unusedSimpArgs false
open Go.RowKit Go.Shelf Go.Maps

theorem total_calls' (v : Value) (xs : List (Int × Int)) (w : World) (hlen : xs.length ≤ 100) (hv : Sl w v xs.length (extCells xs)) {n : Nat} (hn : (listF xs).length = n) :
    Calls Tryz.prog 116 #[v] w fun e w' => e = .returned (.int .i64 (n : Int)) ∧ Fr No w w' := by
  have := total_calls v xs w hlen hv; rw [hn] at this; exact this
/-- The table with an inode's extents and the blocks turned. -/
def RzI (w : World) (mb : Nat) (A : Nat → Prop) (F B : List Int) (b : Nat) (L : List Nd) (k : Nat) (x : Nd) (ys : List (Int × Int)) (u' : Nat) (A' : Nat → Prop) (wx : World) : Prop :=
  ∃ T1, Has w mb A F B b T1 u' wx A' ∧ T1.map Prod.fst = L.set k ⟨x.name, x.size, ys⟩
/-- New extents and a new set of blocks stored. -/
theorem rz_store {w w' w3 : World} {mb b : Nat} {A A' : Nat → Prop} {F B : List Int} {T : List TE} {u : Nat} (h : Has w mb A F B b T u w' A') (hF : Fr No w' w3) {k : Nat} (hk : k < T.length) {r : Value} {ys : List (Int × Int)} (hr : Sl w3 r ys.length (extCells ys)) (hb : ∀ j, r.ownBlock = some j → w'.heap.size ≤ j) (u' : Nat) {L : List Nd} (hT : T.map Prod.fst = L) {x : Nd} (hx : T[k].1 = x) :
    RzI w mb A F B b L k x ys u' A' ((w3.setCell ⟨b, k * 3 + 2, none⟩ r).setCell ⟨b, 24, none⟩ (.int .u32 (u' : Int))) ∧ RzI w mb A F B b L k x ys u' A' ((w3.setCell ⟨b, 24, none⟩ (.int .u32 (u' : Int))).setCell ⟨b, k * 3 + 2, none⟩ r) := by
  have h3 := h.fr hF
  have hnot : ∀ j, r.ownBlock = some j → ys ≠ [] → ¬ (j < w.heap.size ∨ A' j ∨ j = b) := fun j e _ hX => by
    have h1 := hb j e
    rcases hX with hX | hX | hX
    · have := h.mp.2.1.size; omega
    · have := h.mp.1.low j hX; omega
    · have := h.tb.lt; omega
  have hm : (T.set k (⟨T[k].1.name, T[k].1.size, ys⟩, r)).map Prod.fst = L.set k ⟨x.name, x.size, ys⟩ := by rw [map_set, hT, hx]
  have hF1 : Fr (fun j => j = b) w3 (w3.setCell ⟨b, k * 3 + 2, none⟩ r) := (Fr.refl (fun j => j = b) w3).setCell (p := ⟨b, k * 3 + 2, none⟩) (fun _ => rfl) _
  have hF2 : Fr (fun j => j = b) w3 (w3.setCell ⟨b, 24, none⟩ (.int .u32 (u' : Int))) := (Fr.refl (fun j => j = b) w3).setCell (p := ⟨b, 24, none⟩) (fun _ => rfl) _
  constructor
  · have a1 := h3.store hF1 (h3.tb.setExt k hk ys r) (h3.tv.set k ⟨T[k].1.name, T[k].1.size, ys⟩ r hr hnot)
    exact ⟨_, a1.store ((Fr.refl (fun j => j = b) _).setCell (p := ⟨b, 24, none⟩) (fun _ => rfl) _) (a1.tb.setUsed u') a1.tv, hm⟩
  · have a1 := h3.store hF2 (h3.tb.setUsed u') h3.tv
    refine ⟨_, a1.store ((Fr.refl (fun j => j = b) _).setCell (p := ⟨b, k * 3 + 2, none⟩) (fun _ => rfl) _) (a1.tb.setExt k hk ys r) (a1.tv.set k ⟨T[k].1.name, T[k].1.size, ys⟩ r ?_ hnot), hm⟩
    exact hr.fr hF2 (fun j e hne hs => by subst hs; exact hnot j e (extCells_ne hne) (.inr (.inr rfl)))

/-- What a resize of the table comes to. -/
def RzPost (w : World) (mb : Nat) (A : Nat → Prop) (F B : List Int) (b : Nat) (T : List TE) (u : Nat) (L : List Nd) (k : Nat) (m : Int) (e : Ending) (w2 : World) : Prop :=
  match resizeT (L.getD k Nd.free) u m with
  | none => e = .returned (.int .i64 125) ∧ ∃ A2, Has w mb A F B b T u w2 A2
  | some (x', u') => e = .returned (.int .i64 0) ∧ ∃ A2 T', Has w mb A F (resizeB B L k x' u' (listF (L.getD k Nd.free).ext).length) b T' u' w2 A2 ∧ T'.map Prod.fst = L.set k x'

set_option maxHeartbeats 400000 in
set_option maxRecDepth 1000000 in
theorem tresize_none {w w' : World} {mb b : Nat} {A A' : Nat → Prop} {F B : List Int} {T : List TE} {u : Nat} (h : Has w mb A F B b T u w' A') {L : List Nd} (hT : T.map Prod.fst = L) (ht : tableF B = some (L, u)) {k : Nat} (hk : k < 8) {m : Int} (h0 : 0 ≤ m) (h1 : m ≤ 1472) (hr : resizeT (L.getD k Nd.free) u m = none) :
    Calls Tryz.prog 94 #[.pointer (some ⟨b, 0, none⟩), .pointer (some ⟨mb, 0, none⟩), .int .i64 (k : Int), .int .i64 m] w' fun e w2 => e = .returned (.int .i64 125) ∧ ∃ A2, Has w mb A F B b T u w2 A2 := by
  obtain ⟨f1, f2, f3, f4, f5, -⟩ := tab_facts ht hk
  obtain ⟨c0, c1, hkT, c2, hex⟩ := tb_cell h.tb hk
  rw [hT] at c0 c1 hex
  obtain ⟨x, hx⟩ : ∃ x, L.getD k Nd.free = x := ⟨_, rfl⟩
  rw [hx] at f1 f2 f3 f4 f5 c0 c1 hex hr
  obtain ⟨nm, sz, xs⟩ := x
  dsimp only at f1 f2 f3 f4 f5 c0 c1
  obtain ⟨hsl, hsb⟩ := h.tv _ (List.getElem_mem hkT)
  rw [hex] at hsl hsb
  obtain ⟨av, cv, ev⟩ := hsl.form
  rw [ev] at hsl hsb c2
  dsimp only at hsl hsb c2
  obtain ⟨hv, hhv⟩ : ∃ hv, (listF xs).length = hv := ⟨_, rfl⟩
  have hnb := needF_bounds h0 h1
  obtain ⟨nd, hnd⟩ : ∃ nd : Nat, needF m = nd := ⟨(needF m).toNat, by omega⟩
  rw [resizeT] at hr
  dsimp only at hr
  rw [hhv, hnd] at hr
  have hge : ¬ ((nd : Int) < hv) := by
    intro hlt
    rw [if_pos hlt, shrink_res _ _ _ (tableF_u ht) f1 (by omega) (by rw [hhv]; omega)] at hr
    simp at hr
  rw [if_neg hge] at hr
  have hg : growF xs u (nd - hv) = none := by
    cases hq : growF xs u ((nd : Int) - hv) with
    | none => rfl
    | some p => rw [hq] at hr; simp at hr
  have HTO := Lib.hid (fun w1 (h1 : Fr No w' w1) => total_calls' (.slice av xs.length cv) xs w1 (by omega) (hsl.fr0 h1) hhv)
  have HND := Lib.hid (fun w1 => (by have := need_calls m w1 (by omega) (by omega); rw [hnd] at this; exact this : Calls Tryz.prog 117 #[.int .i64 m] w1 fun e w' => e = .returned (.int .i64 (nd : Int)) ∧ w1 = w'))
  have HGR := Lib.hid (fun w1 (h1 : Fr No w' w1) => (by
    have := grow_ok (.slice av xs.length cv) xs u ((nd : Int) - hv) w1 (by omega) (tableF_u ht) (hsl.fr0 h1) f1 (by omega) (by omega)
    rw [hg] at this; exact this : Calls Tryz.prog 119 #[.slice av xs.length cv, .int .u32 (u : Int), .int .i64 ((nd : Int) - hv)] w1 (GrowPost w1 none)))
  have HH := Lib.hid h
  have hc24 := h.tb.used
  have hki0 : (0 : Int) ≤ (k : Int) := by omega
  have hki1 : (k : Int) < 8 := by omega
  have hge2 : (hv : Int) ≤ (nd : Int) := by omega
  have hvb : hv ≤ 1000 := by rw [f2] at hhv; have := needF_bounds f3 f4; omega
  have hnb2 : nd ≤ 1000 := by omega
  clear f1 f2 f3 f4 f5 hsl hsb hr hg hhv hnd hT ht h hex ev hx hnb h0 h1 hge
  go_enter Tryz.func94, Tryz.ntmps94
  go_upto_if 35 with (first
    | (go_at_call 116; ((with_reducible refine (HTO.out _ (Fr.refl _ _)).mono ?_); rintro e w1 ⟨rfl, hF1⟩; have HH1 := Lib.hid (HH.out.fr hF1)))
    | (go_at_call 117; ((with_reducible refine (HND.out _).mono ?_); rintro e w2 ⟨rfl, rfl⟩))
    | fail "arm")
  have d24 := HH1.out.tb.used
  have d2 := hF1.cell c2 (fun h => h)
  have HF1 := Lib.hid hF1
  have HSS := Lib.hid (fun (w3 : World) (h : Fr No w1 w3) => (⟨h.cell d24 (fun h => h), h.cell d2 (fun h => h)⟩ : w3.cell? ⟨b, 24, none⟩ = some (.int .u32 (u : Int)) ∧ w3.cell? ⟨b, k * 3 + 2, none⟩ = some (.slice av xs.length cv)))
  clear hF1 c0 c1 c2 hc24
  go_upto_region 5 with fail
  have hwr : IntKind.i64.wrap ((nd : Int) - hv) = nd - hv := IntWalk.i64_in _ (by omega)
  have hge3 : (0 : Int) ≤ (nd : Int) - hv := by omega
  go_region_held3 (fun w3 => w3.cell? ⟨b, 24, none⟩ = some (.int .u32 (u : Int)) ∧ w3.cell? ⟨b, k * 3 + 2, none⟩ = some (.slice av xs.length cv)) (first | exact HSS.out _ (Fr.refl _ _).drew | exact HSS.out _ ((Fr.refl _ _).drew.trans hF4)) (first
    | (go_at_call 119; ((with_reducible refine (HGR.out _ (HF1.out.drew)).mono ?_); rintro e w4 ⟨hF4, rfl⟩))
    | fail "arm")
  have HH4 := Lib.hid (HH1.out.fr ((Fr.refl _ _).drew.trans hF4))
  clear d24 d2 hwr hge3 hF4
  go_wp2_with fail
  go_ret
  exact ⟨rfl, A', HH4.out⟩
end Go.Proofs.YtoajnmbbgbpbgaaGreat
namespace Go.Proofs.YtoajnmbbgbpbgaaGreat
set_option linter.unusedVariables false
set_option linter.unusedSimpArgs false
open Go.RowKit Go.Shelf Go.Maps

/-- The memory turned: the table's block stays. -/
theorem Has.mem {w w' w2 : World} {mb b : Nat} {A A' A2 : Nat → Prop} {F B B2 : List Int} {T : List TE} {u : Nat} (h : Has w mb A F B b T u w' A') (hp : Mp w' mb A' F B2 w2 A2) : Has w mb A F B2 b T u w2 A2 := by
  refine ⟨h.mp.trans hp, h.tb.fr hp.2.1 h.out, h.low, fun hb => ?_, ?_⟩
  · rcases hp.2.2 b hb with h1 | h1
    · exact h.out h1
    · have := h.tb.lt; omega
  · refine (h.tv.up.fr hp.2.1 (fun k _ hk => .inl (.inr (.inl hk)))).mono (fun k _ hk => ?_)
    rcases hk with hk | hk | hk
    · exact .inl (.inl hk)
    · rcases hp.2.2 k hk with h1 | h1
      · exact .inl (.inr (.inl h1))
      · exact .inr h1
    · exact .inl (.inr (.inr hk))
theorem Has.lay' {w w' : World} {mb b : Nat} {A A' : Nat → Prop} {F B : List Int} {T : List TE} {u : Nat} (h : Has w mb A F B b T u w' A') (n : Nat) (hn : n < 8) (hg : ((T.map Prod.fst).getD n Nd.free).good) (hu : u < 2 ^ 32) :
    Calls Tryz.prog 83 #[.pointer (some ⟨b, 0, none⟩), .pointer (some ⟨mb, 0, none⟩), .int .i64 n] w' fun e w2 => ∃ A2, e = .returned (.tuple #[]) ∧ Has w mb A F (layT B n (T.map Prod.fst) u) b T u w2 A2 := by
  have hnT : n < T.length := by rw [h.tb.2]; exact hn
  have e : T[n].1 = (T.map Prod.fst).getD n Nd.free := by rw [getD_get (by simpa using hnT), List.getElem_map]
  refine (tlay_calls h.mp.1 h.tb h.out h.tv n hnT (by rw [e]; exact hg) hu).mono ?_
  rintro e w2 ⟨A2, rfl, hp⟩
  exact ⟨A2, rfl, h.mem hp⟩
theorem getD_set {L : List Nd} {k : Nat} (h : k < L.length) (x : Nd) : (L.set k x).getD k Nd.free = x := by rw [getD_get (by simpa using h), List.getElem_set_self]
theorem zeroN_nil (B : List Int) : zeroN B [] = B := rfl
theorem take_snocI (l : List Int) (h i : Nat) (hi : h ≤ i) (hl : i < l.length) : (l.drop h).take (i + 1 - h) = (l.drop h).take (i - h) ++ [l.getD i 0] := by
  rw [show i + 1 - h = (i - h) + 1 by omega, List.take_succ_eq_append_getElem (by rw [List.length_drop]; omega)]
  congr 2
  rw [List.getElem_drop, List.getD_eq_getElem?_getD, List.getElem?_eq_getElem hl, Option.getD_some]
  congr 1; omega

/-- The extents' value and the table of a Has. -/
theorem has_at {w w' : World} {mb b : Nat} {A A' : Nat → Prop} {F B : List Int} {T : List TE} {u : Nat} (h : Has w mb A F B b T u w' A') {L : List Nd} (hT : T.map Prod.fst = L) {k : Nat} (hk : k < 8) {nm : ByteArray} {sz : Int} {xs : List (Int × Int)} (hx : L.getD k Nd.free = ⟨nm, sz, xs⟩) :
    w'.cell? ⟨b, k * 3 + 1, none⟩ = some (.int .i64 sz) ∧ ∃ hkT : k < T.length, T[k].1 = ⟨nm, sz, xs⟩ ∧ ∃ av cv, T[k].2 = .slice av xs.length cv ∧ w'.cell? ⟨b, k * 3 + 2, none⟩ = some (.slice av xs.length cv) ∧ Sl w' (.slice av xs.length cv) xs.length (extCells xs) ∧ ∀ j, (Value.slice av xs.length cv).ownBlock = some j → xs ≠ [] → ¬ (j < w.heap.size ∨ A' j ∨ j = b) := by
  obtain ⟨c0, c1, hkT, c2, hex⟩ := tb_cell h.tb hk
  rw [hT, hx] at c0 c1 hex
  obtain ⟨hsl, hsb⟩ := h.tv _ (List.getElem_mem hkT)
  rw [hex] at hsl hsb
  obtain ⟨av, cv, ev⟩ := hsl.form
  rw [ev] at hsl hsb c2
  exact ⟨c1, hkT, hex, av, cv, ev, c2, hsl, hsb⟩

/-- The loop's state: blocks up to i made nought. -/
def RlI (w : World) (mb : Nat) (A : Nat → Prop) (F B : List Int) (b : Nat) (T2 : List TE) (u' : Nat) (ys : List (Int × Int)) (hv nd i : Nat) (wr : World) : Prop :=
  (i ≤ nd ∨ i = hv) ∧ ∃ A2, Has w mb A F (zeroN B (((listF ys).drop hv).take (i - hv))) b T2 u' wr A2

set_option maxHeartbeats 8000000 in
set_option maxRecDepth 1000000 in
theorem tresize_some {w w' : World} {mb b : Nat} {A A' : Nat → Prop} {F B : List Int} {T : List TE} {u : Nat} (h : Has w mb A F B b T u w' A') {L : List Nd} (hT : T.map Prod.fst = L) (ht : tableF B = some (L, u)) {k : Nat} (hk : k < 8) (hnm : (L.getD k Nd.free).name ≠ noName) {m : Int} (h0 : 0 ≤ m) (h1 : m ≤ 1472) {x' : Nd} {u' : Nat} (hr : resizeT (L.getD k Nd.free) u m = some (x', u')) :
    Calls Tryz.prog 94 #[.pointer (some ⟨b, 0, none⟩), .pointer (some ⟨mb, 0, none⟩), .int .i64 (k : Int), .int .i64 m] w' fun e w2 => e = .returned (.int .i64 0) ∧ ∃ A2 T', Has w mb A F (resizeB B L k x' u' (listF (L.getD k Nd.free).ext).length) b T' u' w2 A2 ∧ T'.map Prod.fst = L.set k x' := by
  have hB := h.mp.1.blen
  have hlen := tableF_len ht
  obtain ⟨hRz, -⟩ := resize_tab hB ((tableF_iff B L u).1 ht) hk rfl hnm h0 h1 hr
  have hu' : u' < 2 ^ 32 := by rw [hRz.used]; exact usedN_lt _
  obtain ⟨f1, f2, f3, f4, f5, -⟩ := tab_facts ht hk
  obtain ⟨x, hx⟩ : ∃ x, L.getD k Nd.free = x := ⟨_, rfl⟩
  rw [hx] at f1 f2 f3 f4 f5 hr hRz ⊢
  obtain ⟨nm, sz, xs⟩ := x
  dsimp only at f1 f2 f3 f4 f5
  obtain ⟨c1, hkT, hex, av, cv, ev, c2, hsl, hsb⟩ := has_at h hT hk hx
  obtain ⟨hv, hhv⟩ : ∃ hv, (listF xs).length = hv := ⟨_, rfl⟩
  have hnb := needF_bounds h0 h1
  obtain ⟨nd, hnd⟩ : ∃ nd : Nat, needF m = nd := ⟨(needF m).toNat, by omega⟩
  obtain ⟨ys, rfl⟩ : ∃ ys, x' = ⟨nm, m, ys⟩ := ⟨x'.ext, by
    have e1 := hRz.name; have e2 := hRz.size
    obtain ⟨a, b, c⟩ := x'
    dsimp only at e1 e2 ⊢
    rw [e1, e2]⟩
  have hyl : (listF ys).length = nd := by have := hRz.len; dsimp only at this; rw [this]; omega
  have hyl23 : ys.length ≤ 23 := (inoOk_small hRz.ok).2.2.2.2
  rw [resizeT] at hr
  dsimp only at hr
  rw [hhv, hnd] at hr
  have hcase : ((nd : Int) < hv ∧ shrinkF xs u nd = some (ys, u')) ∨ ((hv : Int) ≤ nd ∧ growF xs u ((nd : Int) - hv) = some (ys, u')) := by
    by_cases hlt : (nd : Int) < hv
    · rw [if_pos hlt] at hr
      left; refine ⟨hlt, ?_⟩
      cases hq : shrinkF xs u nd with
      | none => rw [hq] at hr; simp at hr
      | some p => rw [hq] at hr; simp at hr; obtain ⟨h1, h2⟩ := hr; rw [← h1, ← h2]
    · rw [if_neg hlt] at hr
      right; refine ⟨by omega, ?_⟩
      cases hq : growF xs u ((nd : Int) - hv) with
      | none => rw [hq] at hr; simp at hr
      | some p => rw [hq] at hr; simp at hr; obtain ⟨h1, h2⟩ := hr; rw [← h1, ← h2]
  have HTO := Lib.hid (fun w1 (h1 : Fr No w' w1) => total_calls' (.slice av xs.length cv) xs w1 (by omega) (hsl.fr0 h1) hhv)
  have HND := Lib.hid (fun w1 => (by have := need_calls m w1 (by omega) (by omega); rw [hnd] at this; exact this : Calls Tryz.prog 117 #[.int .i64 m] w1 fun e w' => e = .returned (.int .i64 (nd : Int)) ∧ w1 = w'))
  have HH := Lib.hid h
  have hc24 := h.tb.used
  have hki0 : (0 : Int) ≤ (k : Int) := by omega
  have hki1 : (k : Int) < 8 := by omega
  have hvb : hv ≤ 23 := by rw [f2] at hhv; have := needF_bounds f3 f4; omega
  have hnb2 : nd ≤ 23 := by omega
  have HGS := Lib.hid (fun w1 (h1 : Fr No w' w1) (hg : growF xs u ((nd : Int) - hv) = some (ys, u')) (hle : (hv : Int) ≤ nd) => (by
    have := grow_ok (.slice av xs.length cv) xs u ((nd : Int) - hv) w1 (by omega) (tableF_u ht) (hsl.fr0 h1) f1 (by omega) (by omega)
    rw [hg] at this; exact this : Calls Tryz.prog 119 #[.slice av xs.length cv, .int .u32 (u : Int), .int .i64 ((nd : Int) - hv)] w1 (GrowPost w1 (some (ys, u')))))
  have HSS' := Lib.hid (fun w1 (h1 : Fr No w' w1) (hg : shrinkF xs u nd = some (ys, u')) => (by
    have := shrink_calls (.slice av xs.length cv) xs u (nd : Int) w1 (by omega) (tableF_u ht) (hsl.fr0 h1) (by omega) (by omega)
    rw [hg] at this; exact this : Calls Tryz.prog 118 #[.slice av xs.length cv, .int .u32 (u : Int), .int .i64 (nd : Int)] w1 (ShrinkPost w1 (some (ys, u')))))
  have HKT := Lib.hid hkT
  have HEX := Lib.hid hex
  have HT := Lib.hid hT
  have HL := Lib.hid hlen
  have HOK := Lib.hid hRz.ok
  have HU := Lib.hid hu'
  have HHV := Lib.hid hhv
  have HYL := Lib.hid hyl
  have HBL := Lib.hid hB
  have HND2 := Lib.hid hnd
  clear f1 f2 f3 f4 f5 hsl hsb hr hhv hnd hT ht h ev hx hnb hnm hRz hu' hyl hB hlen
  go_enter Tryz.func94, Tryz.ntmps94
  go_upto_if 35 with (first
    | (go_at_call 116; ((with_reducible refine (HTO.out _ (Fr.refl _ _)).mono ?_); rintro e w1 ⟨rfl, hF1⟩; have HH1 := Lib.hid (HH.out.fr hF1)))
    | (go_at_call 117; ((with_reducible refine (HND.out _).mono ?_); rintro e w2 ⟨rfl, rfl⟩))
    | fail "arm")
  have d24 := HH1.out.tb.used
  have d2 := hF1.cell c2 (fun h => h)
  have f24 := HH1.out.tb.frozen 24
  have f2 := HH1.out.tb.frozen (k * 3 + 2)
  have HF1 := Lib.hid hF1
  have HSS := Lib.hid (fun (w3 : World) (h : Fr No w1 w3) => (⟨h.cell d24 (fun h => h), h.cell d2 (fun h => h)⟩ : w3.cell? ⟨b, 24, none⟩ = some (.int .u32 (u : Int)) ∧ w3.cell? ⟨b, k * 3 + 2, none⟩ = some (.slice av xs.length cv)))
  have HRS := Lib.hid (fun (w4 : World) (r : Value) (h4 : Fr No w1 w4) (hr : Sl w4 r ys.length (extCells ys)) (hb : ∀ j, r.ownBlock = some j → w1.heap.size ≤ j) => rz_store HH1.out h4 HKT.out hr hb u' HT.out HEX.out)
  have HCS := Lib.hid hcase
  clear hF1 c1 c2 hc24 hcase
  go_cut [12] (fun s12 wx => RzI w mb A F B b L k ⟨nm, sz, xs⟩ ys u' A' wx)
  case first =>
    rcases HCS.out with ⟨hlt, hsh⟩ | ⟨hle, hgr⟩
    · have HSH := Lib.hid hsh
      clear hsh
      go_upto_region 4 with fail
      go_region_with (first
        | (go_at_call 118; ((with_reducible refine (HSS'.out _ HF1.out.drew HSH.out).mono ?_); rintro e w4 ⟨hF4, r, rfl, hown4⟩; obtain ⟨ar, cr, rfl⟩ := (Sl.of_owns hown4).form; have hF14 := (Fr.refl No w1).drew.trans hF4; have HR4 := Lib.hid (HRS.out w4 _ hF14 (Sl.of_owns hown4) (fun j e => (hown4.lt j e).1)); have e24 := (HH1.out.fr hF14).tb.frozen 24; have e2 := (HH1.out.fr hF14).tb.frozen (k * 3 + 2); obtain ⟨g24, g2⟩ := HSS.out _ hF14; clear hown4 hF4))
        | fail "arm")
      all_goals (
        go_wp2_with fail
        go_meet
        first | exact HR4.out.1 | exact HR4.out.2)
    · have HGR := Lib.hid hgr
      clear hgr
      go_upto_region 5 with fail
      have hwr : IntKind.i64.wrap ((nd : Int) - hv) = nd - hv := IntWalk.i64_in _ (by omega)
      have hge3 : (0 : Int) ≤ (nd : Int) - hv := by omega
      go_region_held3 (fun w3 => w3.cell? ⟨b, 24, none⟩ = some (.int .u32 (u : Int)) ∧ w3.cell? ⟨b, k * 3 + 2, none⟩ = some (.slice av xs.length cv)) (first | exact HSS.out _ (Fr.refl _ _).drew | exact HSS.out _ ((Fr.refl _ _).drew.trans hF4)) (first
        | (go_at_call 119; ((with_reducible refine (HGS.out _ HF1.out.drew HGR.out hle).mono ?_); rintro e w4 ⟨hF4, r, rfl, hown4⟩; obtain ⟨ar, cr, rfl⟩ := (Sl.of_owns hown4).form))
        | fail "arm")
      have hF14 := (Fr.refl No w1).drew.trans hF4
      have HR4 := Lib.hid (HRS.out w4 _ hF14 (Sl.of_owns hown4) (fun j e => (hown4.lt j e).1))
      have e24 := (HH1.out.fr hF14).tb.frozen 24
      have e2 := (HH1.out.fr hF14).tb.frozen (k * 3 + 2)
      obtain ⟨g24, g2⟩ := HSS.out _ hF14
      clear hown4 hF4 hwr hge3 d24 d2
      go_wp2_with fail
      go_meet
      exact HR4.out.1
  case rest =>
    obtain ⟨T1, h1, hm1⟩ := hcut
    have hx1 : (L.set k ⟨nm, sz, ys⟩).getD k Nd.free = ⟨nm, sz, ys⟩ := getD_set (by have := HL.out; omega) _
    obtain ⟨c1, hk1, hex1, a1, v1, ev1, c2, hsl1, hsb1⟩ := has_at h1 hm1 hk hx1
    have hfz := h1.tb.frozen (k * 3 + 1)
    have hst := h1.tb.setSize k hk1 m
    have hms : (T1.set k (⟨T1[k].1.name, m, T1[k].1.ext⟩, T1[k].2)).map Prod.fst = L.set k ⟨nm, m, ys⟩ := by
      rw [map_set, hm1, hex1, List.set_set]
    have H2 := Lib.hid (h1.store ((Fr.refl (fun j => j = b) wc).setCell (p := ⟨b, k * 3 + 1, none⟩) (fun _ => rfl) (.int .i64 m)) hst (h1.tv.set k _ _ (by rw [hex1]; dsimp only; rw [ev1]; exact hsl1) (by rw [hex1]; dsimp only; rw [ev1]; exact hsb1)))
    have HMS := Lib.hid hms
    generalize T1.set k (⟨T1[k].1.name, m, T1[k].1.ext⟩, T1[k].2) = T2 at *
    clear hst hms hsl1 hsb1 c2 ev1 hex1 hk1 h1 hm1 hx1 d24 d2 f24 f2 HSS HRS HGS HSS'
    go_upto_region 10 with fail
    generalize World.setCell _ _ _ = W3 at *
    clear c1 hfz
    have HX2 : RowKit.Hid ((L.set k ⟨nm, m, ys⟩).getD k Nd.free = ⟨nm, m, ys⟩) := Lib.hid (getD_set (by have := HL.out; omega) _)
    have hmk : ∀ w : World, (Instr.makeSlice 22 (.int .i64 64) (.int .i64 64)).run Tryz.prog w = .ok (.slice (some ⟨w.heap.size, 0, none⟩) 64 64) (w.alloc (.cells (bys (zs 64)).toArray 5)) := fun w => mk_bytes w 64 (by omega)
    have HR5 := Lib.hid (fun (w1 : World) => (by have := (Row.new w1 5 (zs 64)).sl; rw [zs_length 64] at this; exact this : Sl (w1.alloc (.cells (bys (zs 64)).toArray 5)) (.slice (some ⟨w1.heap.size, 0, none⟩) 64 64) 64 (bys (zs 64))))
    have HRG := Lib.hid (zs_range 64)
    have HZL := Lib.hid (zs_length 64)
    obtain ⟨cs, hcs⟩ : ∃ cs, (bys (zs 64)).toArray = cs := ⟨_, rfl⟩
    rw [hcs] at HR5 hmk
    clear hcs HCS HH1 HF1 HTO HND HH hex
    go_wp2_with fail
    go_loopw [15] (fun s15 wr => ∃ i : Nat, hv ≤ i ∧ i ≤ 50 ∧ s15 = .int .i64 (i : Int) ∧ RlI w mb A F B b T2 u' ys hv nd i wr) (fun s15 _ => nd - (intOf s15).toNat)
    case atStart => exact ⟨hv, Nat.le_refl _, by omega, rfl, .inr rfl, A', by rw [Nat.sub_self, List.take_zero, zeroN_nil]; exact H2.out⟩
    case round =>
      obtain ⟨i, hi1, hi2, rfl, hi3, A2, h2⟩ := hrel
      by_cases hlt : i < nd
      · obtain ⟨-, hk2, -, a2, v2, -, c2, hsl2, hsb2⟩ := has_at h2 HMS.out hk HX2.out
        have hil : i < (listF ys).length := by have := HYL.out; omega
        have hb9 := listF_nine _ (getD_mem hil)
        have HBK := Lib.hid (by
          have := block_calls (.slice a2 ys.length v2) ys (i : Int) wr (by omega) hsl2
          rw [if_pos ⟨by omega, by omega⟩, Int.toNat_natCast] at this
          exact this)
        have HSN := Lib.hid (take_snocI (listF ys) hv i hi1 hil)
        obtain ⟨bi, hbi⟩ : ∃ bi, (listF ys).getD i 0 = bi := ⟨_, rfl⟩
        rw [hbi] at HBK HSN hb9
        obtain ⟨hb91, hb92⟩ := hb9
        have H2' := Lib.hid h2
        clear hsl2 hsb2 hil hbi h2 hk2 hi3
        go_upto_region 14 with (go_at_call 96; ((with_reducible refine HBK.out.mono ?_); rintro e w3 ⟨rfl, hF3⟩))
        have H3 := Lib.hid (H2'.out.fr hF3)
        have HLY := Lib.hid (fun (w4 : World) (b4 : Nat) (hF : Fr No w3 w4) (hb : w3.heap.size ≤ b4) (hr : Sl w4 (.slice (some ⟨b4, 0, none⟩) 64 64) 64 (bys (zs 64))) => lay_calls (H3.out.mp.1.fr0 hF) (6144 + bi * 64) (.slice (some ⟨b4, 0, none⟩) 64 64) (zs 64) (by rw [HZL.out]; exact hr) (fun j e _ hA => by cases e; exact Nat.lt_irrefl _ (Nat.lt_of_lt_of_le (H3.out.mp.1.low _ hA) hb)) HRG.out (by rw [HZL.out]; omega) (by omega))
        clear hF3 c2
        go_region_with (first
          | (go_at_call 42; ((with_reducible refine (place_calls _ _ (by omega) (by omega)).mono ?_); rintro e w4 ⟨rfl, rfl⟩))
          | (go_at_call 41; ((with_reducible refine (HLY.out _ _ ((Fr.refl _ _).alloc _).drew (Nat.le_refl _) ((HR5.out _).fr0 (Fr.refl _ _).drew)).mono ?_); rintro e w5 ⟨A5, rfl, hp5⟩))
          | fail "arm")
        all_goals (
          have H5 := Lib.hid ((H3.out.fr ((Fr.refl No w3).alloc _).drew).mem hp5)
          clear hp5
          go_wp2_with fail
          go_roundw
          case rel =>
            refine ⟨i + 1, by omega, by omega, by go_num, .inl (by omega), A5, ?_⟩
            rw [HSN.out, zeroN_snoc, show 6144 + 64 * bi = 6144 + bi * 64 by omega]
            exact H5.out
          case measure => simp [intOf]; omega)
      · have hz : zeroN B (((listF ys).drop hv).take (i - hv)) = zeroN B ((listF ys).drop hv) := by
          have := HYL.out
          rw [List.take_of_length_le]
          rw [List.length_drop]
          omega
        rw [hz] at h2
        have H3 := Lib.hid h2
        obtain ⟨-, hk2, -, a2, v2, -, c2, hsl2, hsb2⟩ := has_at h2 HMS.out hk HX2.out
        clear hz h2 hi3
        obtain ⟨rr, hrr⟩ : ∃ rr : Nat, m % 64 = (rr : Int) := ⟨(m % 64).toNat, by omega⟩
        have hr1 : Int.tmod m 64 = rr := by rw [Int.tmod_eq_emod_of_nonneg h0]; exact hrr
        have hr64 : rr < 64 := by omega
        have HFIN : RowKit.Hid (∀ (w4 : World) (A4 : Nat → Prop), Has w mb A F (restB (zeroN B ((listF ys).drop hv)) ys m) b T2 u' w4 A4 → Calls Tryz.prog 83 #[.pointer (some ⟨b, 0, none⟩), .pointer (some ⟨mb, 0, none⟩), .int .i64 k] w4 fun e w2 => ∃ A2, e = .returned (.tuple #[]) ∧ Has w mb A F (resizeB B L k ⟨nm, m, ys⟩ u' hv) b T2 u' w2 A2) := Lib.hid (fun w4 A4 h4 => by
          have := h4.lay' k hk (by rw [HMS.out, HX2.out]; exact .inr HOK.out) HU.out
          rw [HMS.out] at this
          exact this)
        go_upto_if 109 with fail
        go_cut [19] (fun s19 wx => ∃ A2, Has w mb A F (restB (zeroN B ((listF ys).drop hv)) ys m) b T2 u' wx A2)
        case rest =>
          obtain ⟨A4, h4⟩ := hcut
          have H4 := Lib.hid h4
          clear h4 c2 hsl2 hsb2 hk2 hmk
          go_wp2_with (go_at_call 83; ((with_reducible refine (HFIN.out _ _ H4.out).mono ?_); rintro e w6 ⟨A6, rfl, h6⟩))
          go_ret
          exact ⟨rfl, A6, T2, by rw [HHV.out]; exact h6, HMS.out⟩
        by_cases hpos : 0 < rr
        · have hd1 : decide ((0 : Int) < (rr : Int)) = true := decide_eq_true (by omega)
          have hrs : restB (zeroN B ((listF ys).drop hv)) ys m = layF (zeroN B ((listF ys).drop hv)) (6144 + 64 * (listF ys).getD (nd - 1) 0 + rr) (zs (64 - rr)) := by
            rw [restB, hrr, if_pos (by omega), HND2.out, Int.toNat_natCast, show (64 - (rr : Int)).toNat = 64 - rr by omega]
          have hnr := need_rest h0 (show 0 < m % 64 by omega)
          rw [HND2.out, Int.toNat_natCast] at hnr
          have hnl : nd - 1 < (listF ys).length := by have := HYL.out; omega
          have hb9 := listF_nine _ (getD_mem hnl)
          have hn1 : 1 ≤ nd := hnr.1
          have HBK := Lib.hid (fun w9 (h9 : Fr No wr w9) => (by
            have := block_calls (.slice a2 ys.length v2) ys ((nd : Int) - 1) w9 (by omega) (hsl2.fr0 h9)
            rw [if_pos ⟨by omega, by have := HYL.out; omega⟩, show ((nd : Int) - 1).toNat = nd - 1 by omega] at this
            exact this))
          obtain ⟨bq, hbq⟩ : ∃ bq, (listF ys).getD (nd - 1) 0 = bq := ⟨_, rfl⟩
          rw [hbq] at HBK hrs hb9
          obtain ⟨hb91, hb92⟩ := hb9
          obtain ⟨z, hz⟩ : ∃ z, 64 - rr = z := ⟨_, rfl⟩
          rw [hz] at hrs
          have hzi : (64 : Int) - rr = z := by omega
          have hz1 : 0 < z ∧ z ≤ 64 := by omega
          obtain ⟨hz1, hz2⟩ := hz1
          have hmz : ∀ w : World, (Instr.makeSlice 22 (.int .i64 (z : Int)) (.int .i64 (z : Int))).run Tryz.prog w = .ok (.slice (some ⟨w.heap.size, 0, none⟩) z z) (w.alloc (.cells (bys (zs z)).toArray 5)) := fun w => mk_bytes w z (by omega)
          have HRZ := Lib.hid (fun (w1 : World) => (by have := (Row.new w1 5 (zs z)).sl; rw [zs_length z] at this; exact this : Sl (w1.alloc (.cells (bys (zs z)).toArray 5)) (.slice (some ⟨w1.heap.size, 0, none⟩) z z) z (bys (zs z))))
          have HRGZ := Lib.hid (zs_range z)
          have HZLZ := Lib.hid (zs_length z)
          have HRS := Lib.hid hrs
          obtain ⟨cz, hcz⟩ : ∃ cz, (bys (zs z)).toArray = cz := ⟨_, rfl⟩
          rw [hcz] at HRZ hmz
          clear hcz hmk HR5 hnr hnl hbq hz hrs hsl2 hsb2 hk2 hrr
          generalize zs z = lz at *
          go_upto_region 18 with (go_at_call 96; ((with_reducible refine (HBK.out _ (Fr.refl _ _)).mono ?_); rintro e w4 ⟨rfl, hF4⟩))
          have H4 := Lib.hid (H3.out.fr hF4)
          have HLY := Lib.hid (fun (w5 : World) (b5 : Nat) (hF : Fr No w4 w5) (hb : w4.heap.size ≤ b5) (hr : Sl w5 (.slice (some ⟨b5, 0, none⟩) z z) z (bys lz)) => lay_calls (H4.out.mp.1.fr0 hF) (6144 + bq * 64 + (rr : Int)) (.slice (some ⟨b5, 0, none⟩) z z) lz (by rw [HZLZ.out]; exact hr) (fun j e _ hA => by cases e; exact Nat.lt_irrefl _ (Nat.lt_of_lt_of_le (H4.out.mp.1.low _ hA) hb)) HRGZ.out (by rw [HZLZ.out]; omega) (by omega))
          have hw1 : IntKind.i64.wrap (6144 + bq * 64 + (rr : Int)) = 6144 + bq * 64 + rr := IntWalk.i64_in _ (by omega)
          have hw2 : IntKind.i64.wrap ((64 : Int) - rr) = z := by rw [← hzi]; exact IntWalk.i64_in _ (by omega)
          have hw3 : IntKind.i64.wrap (z : Int) = z := IntWalk.i64_in _ (by omega)
          clear hF4 c2
          go_region_with (first
            | (go_at_call 42; ((with_reducible refine (place_calls _ _ (by omega) (by omega)).mono ?_); rintro e w5 ⟨rfl, rfl⟩))
            | (go_at_call 41; ((with_reducible refine (HLY.out _ _ ((Fr.refl _ _).alloc _).drew (Nat.le_refl _) ((HRZ.out _).fr0 (Fr.refl _ _).drew)).mono ?_); rintro e w5 ⟨A5, rfl, hp5⟩))
            | fail "arm")
          all_goals (
            have H5 := Lib.hid (by
              have := (H4.out.fr ((Fr.refl No w4).alloc _).drew).mem hp5
              rw [show 6144 + bq * 64 + (rr : Int) = 6144 + 64 * bq + rr by omega, ← HRS.out] at this
              exact this)
            clear hp5 hw1 hw2 hw3 hmz
            go_wp2_with fail
            go_meet
            exact ⟨A5, H5.out⟩)
        · have hrs : restB (zeroN B ((listF ys).drop hv)) ys m = zeroN B ((listF ys).drop hv) := by rw [restB, if_neg (by omega)]
          have hd1 : decide ((0 : Int) < (rr : Int)) = false := decide_eq_false (by omega)
          have hd2 : decide (0 < rr) = false := decide_eq_false (by omega)
          have HRS := Lib.hid hrs
          clear hrs hsl2 hsb2 hk2 hrr c2 hmk
          go_wp2_with fail
          go_meet
          exact ⟨A2, by rw [HRS.out]; exact H3.out⟩
end Go.Proofs.YtoajnmbbgbpbgaaGreat
namespace Go.Proofs.YtoajnmbbgbpbgaaGreat
set_option linter.unusedVariables false
set_option linter.unusedSimpArgs false
open Go.RowKit Go.Shelf Go.Maps

theorem resizeR_bad {B : List Int} {n x : Int} (hx : openE B n = x) (h0 : 0 < x) (m : Int) : resizeR B n m = (B, x) := by
  rcases open_facts hx with ⟨ht, rfl⟩ | ⟨L, u, ht, rfl⟩
  · unfold resizeR; generalize tableF B = t at *; subst ht; rfl
  · unfold resizeR; generalize tableF B = t at *; subst ht
    dsimp only
    by_cases h1 : n < 0 ∨ 8 ≤ n
    · rw [if_pos h1, if_pos h1]
    · rw [if_neg h1, if_neg h1]
      by_cases h2 : (L.getD n.toNat Nd.free).name = noName
      · rw [if_pos h2, if_pos h2]
      · rw [if_neg h1, if_neg h2] at h0; omega
theorem resizeR_good {B : List Int} {L : List Nd} {u k : Nat} (ht : tableF B = some (L, u)) (hk : k < 8) (hn : (L.getD k Nd.free).name ≠ noName) (m : Int) : resizeR B k m = if m < 0 then (B, 1) else if 1472 < m then (B, 125) else resizeW B L u k m := by
  unfold resizeR; generalize tableF B = t at *; subst ht
  dsimp only
  rw [if_neg (by omega), Int.toNat_natCast, if_neg hn]
theorem resizeW_none {B : List Int} {L : List Nd} {u k : Nat} {m : Int} (h : resizeT (L.getD k Nd.free) u m = none) : resizeW B L u k m = (B, 125) := by
  unfold resizeW; generalize resizeT (L.getD k Nd.free) u m = t at *; subst h; rfl
theorem resizeW_some {B : List Int} {L : List Nd} {u k : Nat} {m : Int} {x' : Nd} {u' : Nat} (h : resizeT (L.getD k Nd.free) u m = some (x', u')) : resizeW B L u k m = (resizeB B L k x' u' (listF (L.getD k Nd.free).ext).length, 0) := by
  unfold resizeW; generalize resizeT (L.getD k Nd.free) u m = t at *; subst h; rfl

set_option maxHeartbeats 400000 in
set_option maxRecDepth 1000000 in
theorem fresize_calls {w : World} {mb : Nat} {A : Nat → Prop} {F B : List Int} (h : MemAt w mb A F B) (n m : Int) :
    Calls Tryz.prog 52 #[.pointer (some ⟨mb, 0, none⟩), .int .i64 n, .int .i64 m] w (FsP w mb A F (resizeR B n m).1 (.int .i64 (resizeR B n m).2)) := by
  rcases open_cases B n with ⟨x, hx, h0⟩ | ⟨hx, L, u, k, ht, hk, rfl, hnm⟩
  · have HR := Lib.hid (fopen_bad h n hx)
    rw [resizeR_bad hx h0]
    clear h hx
    go_enter Tryz.func52, Tryz.ntmps52
    go_wp2_with (first
              | (go_at_call 93; ((with_reducible refine HR.out.mono ?_); rintro e w1 ⟨A1, cs, rfl, hp1, hl, h1⟩)) | (refine alloc_tab rfl rfl ?_) | (refine store_tab rfl _ _ rfl w1.heap.size cs (tabC noT 0) rfl rfl (heap_new _ _) noT_len hl h1 ?_; intro w2 hb2 hF2) | fail "arm")
    go_ret
    exact ⟨A1, rfl, hp1.thenFr (((Fr.refl No w1).alloc _).trans' hF2 (fun i hi e => by omega))⟩
  · have HR := Lib.hid (fopen_good h ht (k : Int) hx)
    have HL := Lib.hid (tableF_len ht)
    rw [resizeR_good ht hk hnm]
    have HTF := Lib.hid ht
    have HNM := Lib.hid hnm
    clear h hx ht hnm
    by_cases hm0 : m < 0
    · rw [if_pos hm0]
      go_enter Tryz.func52, Tryz.ntmps52
      go_wp2_with (first
              | (go_at_call 93; ((with_reducible refine HR.out.mono ?_); rintro e w1 ⟨A1, T, rfl, hp1, hT, hv1⟩; have HT8 : RowKit.Hid (T.length = 8) := Lib.hid (by have := HL.out; rw [← hT] at this; simpa using this); have HTT := Lib.hid hT; have HTL : RowKit.Hid ((tabC T u).length = 25) := Lib.hid (by rw [tabC_length, HT8.out]); clear hT)) | (refine alloc_tab rfl rfl ?_) | (refine store_tab rfl _ _ rfl w1.heap.size (tabC T u) (tabC noT 0) rfl rfl (heap_new _ _) noT_len HTL.out (hv1.one' u) ?_; intro w2 hb2 hF2; have HAS := Lib.hid (has_mk hp1 HT8.out hv1 hb2 hF2)) | fail "arm")
      go_ret
      exact ⟨A1, rfl, HAS.out.mp⟩
    · rw [if_neg hm0]
      have d1 : decide (m < 0) = false := decide_eq_false hm0
      by_cases hm1 : 1472 < m
      · rw [if_pos hm1]
        have d2 : decide (1472 < m) = true := decide_eq_true hm1
        go_enter Tryz.func52, Tryz.ntmps52
        go_wp2_with (first
              | (go_at_call 93; ((with_reducible refine HR.out.mono ?_); rintro e w1 ⟨A1, T, rfl, hp1, hT, hv1⟩; have HT8 : RowKit.Hid (T.length = 8) := Lib.hid (by have := HL.out; rw [← hT] at this; simpa using this); have HTT := Lib.hid hT; have HTL : RowKit.Hid ((tabC T u).length = 25) := Lib.hid (by rw [tabC_length, HT8.out]); clear hT)) | (refine alloc_tab rfl rfl ?_) | (refine store_tab rfl _ _ rfl w1.heap.size (tabC T u) (tabC noT 0) rfl rfl (heap_new _ _) noT_len HTL.out (hv1.one' u) ?_; intro w2 hb2 hF2; have HAS := Lib.hid (has_mk hp1 HT8.out hv1 hb2 hF2)) | fail "arm")
        go_ret
        exact ⟨A1, rfl, HAS.out.mp⟩
      · rw [if_neg hm1]
        have d2 : decide (1472 < m) = false := decide_eq_false hm1
        cases hr : resizeT (L.getD k Nd.free) u m with
        | none =>
          rw [resizeW_none hr]
          have HRT := Lib.hid hr
          clear hr
          go_enter Tryz.func52, Tryz.ntmps52
          go_wp2_with (first
              | (go_at_call 93; ((with_reducible refine HR.out.mono ?_); rintro e w1 ⟨A1, T, rfl, hp1, hT, hv1⟩; have HT8 : RowKit.Hid (T.length = 8) := Lib.hid (by have := HL.out; rw [← hT] at this; simpa using this); have HTT := Lib.hid hT; have HTL : RowKit.Hid ((tabC T u).length = 25) := Lib.hid (by rw [tabC_length, HT8.out]); clear hT)) | (refine alloc_tab rfl rfl ?_) | (refine store_tab rfl _ _ rfl w1.heap.size (tabC T u) (tabC noT 0) rfl rfl (heap_new _ _) noT_len HTL.out (hv1.one' u) ?_; intro w2 hb2 hF2; have HAS := Lib.hid (has_mk hp1 HT8.out hv1 hb2 hF2); have HRN := Lib.hid (tresize_none HAS.out HTT.out HTF.out hk (by omega) (by omega) HRT.out))
              | (go_at_call 94; ((with_reducible refine HRN.out.mono ?_); rintro e w3 ⟨rfl, A3, h3⟩))
              | fail "arm")
          go_ret
          exact ⟨A3, rfl, h3.mp⟩
        | some p =>
          obtain ⟨x', u'⟩ := p
          rw [resizeW_some hr]
          have HRT := Lib.hid hr
          clear hr
          go_enter Tryz.func52, Tryz.ntmps52
          go_wp2_with (first
              | (go_at_call 93; ((with_reducible refine HR.out.mono ?_); rintro e w1 ⟨A1, T, rfl, hp1, hT, hv1⟩; have HT8 : RowKit.Hid (T.length = 8) := Lib.hid (by have := HL.out; rw [← hT] at this; simpa using this); have HTT := Lib.hid hT; have HTL : RowKit.Hid ((tabC T u).length = 25) := Lib.hid (by rw [tabC_length, HT8.out]); clear hT)) | (refine alloc_tab rfl rfl ?_) | (refine store_tab rfl _ _ rfl w1.heap.size (tabC T u) (tabC noT 0) rfl rfl (heap_new _ _) noT_len HTL.out (hv1.one' u) ?_; intro w2 hb2 hF2; have HAS := Lib.hid (has_mk hp1 HT8.out hv1 hb2 hF2); have HRN := Lib.hid (tresize_some HAS.out HTT.out HTF.out hk HNM.out (by omega) (by omega) HRT.out))
              | (go_at_call 94; ((with_reducible refine HRN.out.mono ?_); rintro e w3 ⟨rfl, A3, T3, h3, -⟩))
              | fail "arm")
          go_ret
          exact ⟨A3, rfl, h3.mp⟩
end Go.Proofs.YtoajnmbbgbpbgaaGreat
