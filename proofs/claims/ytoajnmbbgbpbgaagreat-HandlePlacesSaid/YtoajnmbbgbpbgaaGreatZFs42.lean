/-
  Chapter 12, the reference: an inode, Size.
-/
import Derived.Test.YtoajnmbbgbpbgaaGreatZFs41
namespace Go.Proofs.YtoajnmbbgbpbgaaGreat
set_option linter.unusedVariables false
set_option linter.unusedSimpArgs false
open Go.RowKit Go.Shelf Go.Maps

theorem heap_set3' {w : World} {b : Nat} {x y z : Value} {t : TypeId} (x' y' z' : Value) (h : w.heap[b]? = some (.cells #[x, y, z] t (0, 0))) : (((w.setCell ⟨b, 0, none⟩ x').setCell ⟨b, 1, none⟩ y').setCell ⟨b, 2, none⟩ z').heap[b]? = some (.cells #[x', y', z'] t (0, 0)) := by
  have h1 := heap_setAt (cs := [x, y, z]) (by simpa using h) 0 x'
  have h2 := heap_setAt h1 1 y'
  have h3 := heap_setAt h2 2 z'
  simpa using h3
theorem fr_set3 (w : World) (b : Nat) (x' y' z' : Value) : Fr (fun k => k = b) w (((w.setCell ⟨b, 0, none⟩ x').setCell ⟨b, 1, none⟩ y').setCell ⟨b, 2, none⟩ z') :=
  (((Fr.refl (fun k => k = b) w).setCell (p := ⟨b, 0, none⟩) (fun _ => rfl) _).setCell (p := ⟨b, 1, none⟩) (fun _ => rfl) _).setCell (p := ⟨b, 2, none⟩) (fun _ => rfl) _

set_option maxHeartbeats 2000000 in
set_option maxRecDepth 1000000 in
theorem rnode_calls {w : World} {rb : Nat} {R : Nat → Prop} {F B : List Int} (h : RefAt w rb R F B) (n : Int) :
    Calls Tryz.prog 84 #[.pointer (some ⟨rb, 0, none⟩), .int .i64 n] w (NodP w B n) := by
  have hFa : Fr No w (w.alloc (Obj.cells #[.string ⟨#[]⟩, .int .i64 0, .slice none 0 0] 95)) := (Fr.refl _ _).alloc _
  have hb4 := heap_new w (Obj.cells #[.string ⟨#[]⟩, .int .i64 0, .slice none 0 0] 95)
  cases ht : tableF B with
  | none =>
    have HT := Lib.hid (rtable_bad (h.fr0 hFa) ht)
    have HE : RowKit.Hid (openE B n = 120) := Lib.hid (openE_none ht n)
    have HB4 := Lib.hid hb4
    clear h ht hb4 hFa
    go_enter Tryz.func84, Tryz.ntmps84
    go_wp2_with fail
    refine HT.out.mono ?_
    rintro e w1 ⟨rfl, hF⟩
    have hb := hF.heap HB4.out (fun h => h)
    have c0 := heap_cell (o := 0) hb rfl
    have c1 := heap_cell (o := 1) hb rfl
    have c2 := heap_cell (o := 2) hb rfl
    have f0 := heap_frozen (o := 0) hb
    have f1 := heap_frozen (o := 1) hb
    have f2 := heap_frozen (o := 2) hb
    have HB := Lib.hid hb
    have HFF : RowKit.Hid (Fr No (w.alloc (Obj.cells #[.string ⟨#[]⟩, .int .i64 0, .slice none 0 0] 95)) w1) := Lib.hid hF
    clear hb hF
    go_wp2
    refine ret_ino rfl rfl rfl rfl (heap_set3' _ _ _ HB.out) rfl ?_
    exact ⟨(((Fr.refl No w).alloc _).trans HFF.out).trans' (fr_set3 _ _ _ _ _) (fun i hi e => by omega), .inl ⟨120, by omega, HE.out, rfl⟩⟩
  | some p =>
    obtain ⟨L, u⟩ := p
    have HT := Lib.hid (rtable_good (h.fr0 hFa) ht)
    have HTT := Lib.hid ht
    have hE := openE_some ht n
    have HB4 := Lib.hid hb4
    have hcase : ((n < 0 ∨ 8 ≤ n) ∧ openE B n = 1) ∨ ∃ k : Nat, k < 8 ∧ n = k ∧ (((L.getD k Nd.free).name = noName ∧ openE B n = 123) ∨ ((L.getD k Nd.free).name ≠ noName ∧ openE B n = 0)) := by
      rw [hE]
      by_cases h1 : n < 0 ∨ 8 ≤ n
      · exact .inl ⟨h1, if_pos h1⟩
      · obtain ⟨k, rfl⟩ := Int.eq_ofNat_of_zero_le (show 0 ≤ n by omega)
        refine .inr ⟨k, by omega, rfl, ?_⟩
        rw [if_neg h1, Int.toNat_natCast]
        by_cases h2 : (L.getD k Nd.free).name = noName
        · exact .inl ⟨h2, if_pos h2⟩
        · exact .inr ⟨h2, if_neg h2⟩
    clear h ht hb4 hFa hE
    rcases hcase with ⟨h1, hE⟩ | ⟨k, hk, rfl, hx⟩
    · have HE := Lib.hid hE
      clear hE
      by_cases hn : n < 0
      all_goals
        have h8 : ¬ n < 0 → 8 ≤ n := fun h => by omega
        clear h1
        go_enter Tryz.func84, Tryz.ntmps84
        try have h9 := h8 hn
        clear h8
        go_wp2_with fail
        refine HT.out.mono ?_
        rintro e w1 ⟨T, a, c, N, hN8, rfl, hF, hL⟩
        have hb := hF.heap HB4.out (fun h => h)
        have c0 := heap_cell (o := 0) hb rfl
        have c1 := heap_cell (o := 1) hb rfl
        have c2 := heap_cell (o := 2) hb rfl
        have f0 := heap_frozen (o := 0) hb
        have f1 := heap_frozen (o := 1) hb
        have f2 := heap_frozen (o := 2) hb
        have HB := Lib.hid hb
        have HFF : RowKit.Hid (Fr No (w.alloc (Obj.cells #[.string ⟨#[]⟩, .int .i64 0, .slice none 0 0] 95)) w1) := Lib.hid hF
        clear hb hF hL hN8
        go_wp2
        refine ret_ino rfl rfl rfl rfl (heap_set3' _ _ _ HB.out) rfl ?_
        exact ⟨(((Fr.refl No w).alloc _).trans HFF.out).trans' (fr_set3 _ _ _ _ _) (fun i hi e => by omega), .inl ⟨1, by omega, HE.out, rfl⟩⟩
    · go_enter Tryz.func84, Tryz.ntmps84
      go_wp2_with fail
      refine HT.out.mono ?_
      rintro e w1 ⟨T, a, c, N, hN8, rfl, hF, hL⟩
      have hb := hF.heap HB4.out (fun h => h)
      have c0 := heap_cell (o := 0) hb rfl
      have c1 := heap_cell (o := 1) hb rfl
      have c2 := heap_cell (o := 2) hb rfl
      have f0 := heap_frozen (o := 0) hb
      have f1 := heap_frozen (o := 1) hb
      have f2 := heap_frozen (o := 2) hb
      have HB := Lib.hid hb
      have HFF : RowKit.Hid (Fr No (w.alloc (Obj.cells #[.string ⟨#[]⟩, .int .i64 0, .slice none 0 0] 95)) w1) := Lib.hid hF
      obtain ⟨g, c', a1, cc1, nm, sz1, xs1, e1, e2, x0, x1, x2, x3⟩ := hL.node k hk
      obtain ⟨rfl, rfl⟩ : a = some ⟨g, 0, none⟩ ∧ c = c' := by cases e1; exact ⟨rfl, rfl⟩
      rw [e2] at hx
      have HE2 := Lib.hid e2
      have HX3 := Lib.hid x3
      have hkN : (k : Int) < N := by omega
      have hkN2 : k < N := by omega
      have hk0 : (0 : Int) ≤ k := by omega
      have q1 : decide ((k : Int) < 0) = false := decide_eq_false (by omega)
      have q2 : decide (8 ≤ (k : Int)) = false := decide_eq_false (by omega)
      dsimp only at hx
      have HK8 := Lib.hid hk
      clear hb hF hL hN8 e1 e2 x3 hk
      rcases hx with ⟨hnm, hE⟩ | ⟨hnm, hE⟩
      · have he := emp_true hnm
        have HE := Lib.hid hE
        clear hnm hE
        go_wp2
        refine ret_ino rfl rfl rfl rfl (heap_set3' _ _ _ HB.out) rfl ?_
        exact ⟨(((Fr.refl No w).alloc _).trans HFF.out).trans' (fr_set3 _ _ _ _ _) (fun i hi e => by omega), .inl ⟨123, by omega, HE.out, rfl⟩⟩
      · have he := emp_false hnm
        have HE := Lib.hid hE
        have HNM := Lib.hid hnm
        clear hnm hE
        go_wp2
        refine ret_ino rfl rfl rfl rfl (heap_set3' _ _ _ HB.out) rfl ?_
        have hF3 := fr_set3 w1 w.heap.size (.string nm) (.int .i64 sz1) (.slice a1 xs1.length cc1)
        refine ⟨(((Fr.refl No w).alloc _).trans HFF.out).trans' hF3 (fun i hi e => by omega), .inr ⟨L, u, k, HTT.out, HK8.out, rfl, HE.out, by rw [HE2.out]; exact HNM.out, a1, cc1, by rw [HE2.out]; rfl, ?_⟩⟩
        rw [HE2.out]
        exact ⟨HX3.out.1.fr hF3 (fun q e hne e' => by have := HX3.out.2 q e hne; simp at this; omega), fun q e hne => by have := HX3.out.2 q e hne; simp at this; omega⟩

set_option maxHeartbeats 400000 in
set_option maxRecDepth 1000000 in
theorem rsize_calls {w : World} {rb : Nat} {R : Nat → Prop} {F B : List Int} (h : RefAt w rb R F B) (n : Int) :
    Calls Tryz.prog 75 #[.pointer (some ⟨rb, 0, none⟩), .int .i64 n] w fun e w' => e = .returned (.tuple #[.int .i64 (sizeR B n).1, .int .i64 (sizeR B n).2]) ∧ Fr No w w' := by
  have HN := Lib.hid (rnode_calls h n)
  clear h
  go_enter Tryz.func75, Tryz.ntmps75
  go_wp2_with fail
  refine HN.out.mono ?_
  rintro e w1 ⟨hF, ⟨x, h0, hx, rfl⟩ | ⟨L, u, k, ht, hk, rfl, hE, hnm, a, c, rfl, hs⟩⟩
  · have HX := Lib.hid (sizeR_bad hx h0)
    clear hx h0
    go_wp2
    go_ret2
    exact ⟨by rw [HX.out]; rfl, hF.alloc _⟩
  · have HX := Lib.hid (sizeR_good ht hk hnm)
    clear ht hk hE hnm hs
    generalize L.getD k Nd.free = x at *
    go_wp2
    go_ret2
    exact ⟨by rw [HX.out]; rfl, hF.alloc _⟩
end Go.Proofs.YtoajnmbbgbpbgaaGreat
