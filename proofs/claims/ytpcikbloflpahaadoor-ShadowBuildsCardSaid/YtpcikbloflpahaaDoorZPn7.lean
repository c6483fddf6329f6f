/-
  Chapter 7: Reach of any tree.
-/
import Derived.Test.YtpcikbloflpahaaDoorZPn6
namespace Go.Proofs.YtpcikbloflpahaaDoor
set_option linter.unusedVariables false
set_option linter.unusedSimpArgs false
open Go.RowKit Go.Shelf Go.Maps

theorem el_int7 : Elem Tryd.prog 43 3 (.int .i64 0) 1 8 := ⟨by kernel_rfl, by kernel_rfl, rfl, by decide⟩
def ints7 (l : List Int) : List Value := l.map (Value.int .i64)
/-- What Reach's closure has gathered: the box, its row. -/
def TlR (B0 ob : Nat) : World → (Nat → Prop) → List (Int × Int) → Prop := fun W A s =>
  ∃ v, W.heap[ob]? = some (.cells [v].toArray 43 (0, 0)) ∧ W.ownsRow B0 3 1 v s.length (ints7 (s.map Prod.fst)) ∧ (∀ k, A k ↔ k = ob ∨ v.ownBlock = some k) ∧ B0 ≤ W.heap.size
set_option maxHeartbeats 2000000 in
set_option maxRecDepth 1000000 in
theorem reach11_calls {w : World} {B0 ob : Nat} {A : Nat → Prop} {s : List (Int × Int)} (n p : Int) (h : TlR B0 ob w A s) (hs : s.length ≤ 2000) :
    Calls Tryd.prog 73 #[.int .i64 n, .int .i64 p, .pointer (some ⟨ob, 0, none⟩)] w fun e w' => e = .returned (.tuple #[]) ∧ ∃ A', TlR B0 ob w' A' (s ++ [(n, p)]) ∧ Fr A w w' ∧ Gr7 w A A' := by
  obtain ⟨v, hb, hown, hA, hB⟩ := h
  obtain ⟨av, cv, rfl⟩ := (Sl.of_owns hown).form
  have k0 := heap_cell (o := 0) hb rfl
  have HB := Lib.hid hb
  have HO := Lib.hid (hown.alloc (Obj.cells #[.int .i64 n] 3))
  have HA := Lib.hid hA
  have HS := Lib.hid (sl_new7 w [.int .i64 n] 3 1 (by simp) (by omega))
  have HBB := Lib.hid hB
  have HOW := Lib.hid hown
  clear hb hown hA hB
  go_enter Tryd.func73, Tryd.ntmps73
  go_wp2_with (first
    | (at_builtin; (refine append_at7 (m := 1) el_int7 rfl _ _ rfl B0 (.slice av s.length cv) s.length (ints7 (s.map Prod.fst)) rfl HO.out rfl HS.out rfl (fun u hu => by simp at hu; rcases hu with rfl; rfl) (by unfold maxLen; omega) (by omega) (by have := HBB.out; simp; omega) ?_; intro a3 n3 c3 w3 hown3 hgrow3 hlie3; have hg3 := fr_grown7 hgrow3; have hb3 := hg3.heap (heap_alloc (Obj.cells #[.int .i64 n] 3) HB.out) (fun e => not_row7 (heap_alloc (Obj.cells #[.int .i64 n] 3) HB.out) (fun cs f e3 => by injection e3 with _ e3; exact absurd e3 (by decide)) HO.out _ e rfl); have HB3 := Lib.hid hb3; have HO3 := Lib.hid hown3; have HL3 := Lib.hid hlie3; have HG3 := Lib.hid hg3; have k3 := heap_cell (o := 0) hb3 rfl; have f3 := heap_frozen (o := 0) hb3; clear hown3 hgrow3 hlie3 hg3 hb3))
    | fail "arm")
  go_end0
  have hsc : Fr (fun k => k = ob) w3 (w3.setCell ⟨ob, 0, none⟩ (.slice a3 n3 c3)) := (Fr.refl (fun k => k = ob) w3).setCell (p := ⟨ob, 0, none⟩) (fun _ => rfl) _
  have hno := not_row7 HB3.out (fun cs f e3 => by injection e3 with _ e3; exact absurd e3 (by decide)) HO3.out
  have hFt : Fr A w (w3.setCell ⟨ob, 0, none⟩ (.slice a3 n3 c3)) := (((Fr.refl No w).alloc (Obj.cells #[.int .i64 n] 3)).no.trans (HG3.out.mono (fun k _ e => (HA.out k).2 (.inr e)))).trans (hsc.mono (fun k _ e => (HA.out k).2 (.inl e)))
  refine ⟨rfl, fun k => k = ob ∨ (Value.slice a3 n3 c3).ownBlock = some k, ⟨_, heap_setAt7 HB3.out 0 _, ?_, fun k => Iff.rfl, Nat.le_trans HBB.out hFt.size⟩, hFt, fun k hk => ?_⟩
  · have := ownsRow_fr7 HO3.out hsc (fun k e e2 => hno k e e2)
    rw [List.length_append, show ints7 ((s ++ [(n, p)]).map Prod.fst) = ints7 (s.map Prod.fst) ++ [.int .i64 n] from by simp [ints7]]
    exact this
  · rcases hk with e | e
    · exact .inl ((HA.out k).2 (.inl e))
    · rcases HL3.out with h | h
      · exact .inl ((HA.out k).2 (.inr (h ▸ e)))
      · rw [h] at e
        injection e with e
        simp at e
        exact .inr (by omega)
theorem tell_reach (B0 ob : Nat) : Tell 73 #[.pointer (some ⟨ob, 0, none⟩)] (TlR B0 ob) where
  fr := fun h hF hn => by
    obtain ⟨v, h1, h2, h3, h4⟩ := h
    exact ⟨v, hF.heap h1 (hn _ ((h3 _).2 (.inl rfl))), ownsRow_fr7 h2 hF (fun k e => hn _ ((h3 _).2 (.inr e))), h3, Nat.le_trans h4 hF.size⟩
  low := fun h k hk => by
    obtain ⟨v, h1, h2, h3, h4⟩ := h
    rcases (h3 k).1 hk with rfl | e
    · exact heap_lt7 h1
    · exact (h2.lt k e).2
  cel := fun h k o hk ho => by
    obtain ⟨v, h1, ⟨_, h2⟩, h3, h4⟩ := h
    rcases (h3 k).1 hk with rfl | e
    · rw [h1] at ho; injection ho with ho; subst ho; rfl
    · rcases h2 with ⟨rfl, _⟩ | ⟨g, cap, cur, rfl, _, hh, _⟩
      · simp [Value.ownBlock] at e
      · simp [Value.ownBlock] at e
        subst e
        rw [hh] at ho; injection ho with ho; subst ho; rfl
  call := fun n p h hs _ => reach11_calls n p h hs
  ent := fun args w => rfl
/-- The tree of a top, on a disk of bytes B. -/
def treeB (B : List Int) (N : Nat) (top : Int) : Option (List (Int × Int)) := treeS (fun n => ndB B n.toNat) N top
set_option maxHeartbeats 2000000 in
set_option maxRecDepth 1000000 in
theorem reach1g_calls {w : World} {db p0 p1 p2 acts N B0 : Nat} {Ad : Nat → Prop} {B : List Int} (hd : DkR w db Ad acts N B) (top : Int) (htop : -9223372036854775808 ≤ top ∧ top ≤ 9223372036854775807)
    (h0 : w.cell? ⟨p0, 0, none⟩ = some (.pointer (some ⟨db, 0, none⟩))) (h1 : w.cell? ⟨p1, 0, none⟩ = some (.int .i64 top)) (h2 : w.heap[p2]? = some (.cells [.slice none 0 0].toArray 43 (0, 0))) (hna : ¬ Ad p2) (hB : B0 ≤ w.heap.size) :
    Calls Tryd.prog 71 #[.pointer (some ⟨p0, 0, none⟩), .pointer (some ⟨p1, 0, none⟩), .pointer (some ⟨p2, 0, none⟩)] w fun e w' => Fr (fun k => k = p2) w w' ∧ ((e = .returned (.tuple #[]) ∧ ∃ s A', treeB B N top = some s ∧ TlR B0 p2 w' A' s) ∨ ∃ n : Int, e = .panicked [{ v := .iface 154 (.agg #[.int .i64 n]), recovered := false }] ∧ (n = 60 ∧ treeB B N top = none)) := by
  have hmf : ∀ (fn : Fn) (first cap : Array Value) (w : World), (Instr.makeFunc fn first cap).run Tryd.prog w = .ok (.func fn first cap) w := fun _ _ _ _ => rfl
  have HE := Lib.hid (weach_calls (tell_reach B0 p2) hd (A := fun k => k = p2) ⟨_, h2, World.ownsRow_nil _ _ _ _, fun k => by simp [Value.ownBlock], hB⟩ (fun k hk hk2 => hna (hk ▸ hk2)) top htop)
  clear hd h2 hna hB
  go_enter Tryd.func71, Tryd.ntmps71
  go_wp2_with fail
  refine HE.out.mono ?_
  rintro e w1 (⟨s, A', ht, rfl, hl, hF, -⟩ | ⟨ht, rfl, hF⟩)
  · have HT := Lib.hid ht
    have HL := Lib.hid hl
    clear ht hl
    go_wp2_with fail
    go_end0
    exact ⟨hF, .inl ⟨rfl, s, A', HT.out, HL.out⟩⟩
  · have HT := Lib.hid ht
    clear ht
    go_wp2_with fail
    exact ⟨rfl, hF, .inr ⟨60, rfl, rfl, HT.out⟩⟩
set_option maxHeartbeats 2000000 in
set_option maxRecDepth 1000000 in
theorem reachg_calls {w : World} {db acts N : Nat} {Ad : Nat → Prop} {B : List Int} (hd : DkR w db Ad acts N B) (top : Int) (htop : -9223372036854775808 ≤ top ∧ top ≤ 9223372036854775807) :
    Calls Tryd.prog 57 #[.pointer (some ⟨db, 0, none⟩), .int .i64 top] w fun e w' => Fr No w w' ∧ ((∃ s r, treeB B N top = some s ∧ e = .returned (.tuple #[r, .int .i64 0]) ∧ w'.ownsRow w.heap.size 3 1 r s.length (ints7 (s.map Prod.fst))) ∨ (treeB B N top = none ∧ e = .returned (.tuple #[.slice none 0 0, .int .i64 60]))) := by
  have hmf : ∀ (fn : Fn) (first cap : Array Value) (w : World), (Instr.makeFunc fn first cap).run Tryd.prog w = .ok (.func fn first cap) w := fun _ _ _ _ => rfl
  have H := Lib.hid hd
  clear hd
  go_enter Tryd.func57, Tryd.ntmps57
  go_wp2_with fail
  generalize hW : (((w.alloc (Obj.cells #[.pointer (some ⟨db, 0, none⟩)] 36)).alloc (Obj.cells #[.int .i64 top] 3)).alloc (Obj.cells #[.slice none 0 0] 43)) = W
  have hF : Fr No w W := by rw [← hW]; exact (((Fr.refl No w).alloc _).alloc _).alloc _
  have hs : W.heap.size = w.heap.size + 3 := by rw [← hW]; simp
  have hb0 : W.heap[w.heap.size]? = some (.cells [.pointer (some ⟨db, 0, none⟩)].toArray 36 (0, 0)) := by rw [← hW]; exact heap_alloc _ (heap_alloc _ (heap_new _ _))
  have hb1 : W.heap[w.heap.size + 1]? = some (.cells [.int .i64 top].toArray 3 (0, 0)) := by rw [← hW]; exact heap_alloc _ (heap_new2_7 w _ _)
  have hb2 : W.heap[w.heap.size + 1 + 1]? = some (.cells [.slice none 0 0].toArray 43 (0, 0)) := by
    rw [← hW]
    have := heap_new ((w.alloc (Obj.cells #[.pointer (some ⟨db, 0, none⟩)] 36)).alloc (Obj.cells #[.int .i64 top] 3)) (Obj.cells #[.slice none 0 0] 43)
    simpa using this
  have hFA : Fr No W (W.alloc (Obj.cells #[.int .i64 0] 25)) := (Fr.refl No W).alloc _
  have hdl := H.out.low
  have hR1 := reach1g_calls (B0 := w.heap.size) ((H.out.fr0 hF).fr0 hFA) top htop (heap_cell (o := 0) (heap_alloc (Obj.cells #[.int .i64 0] 25) hb0) rfl) (heap_cell (o := 0) (heap_alloc (Obj.cells #[.int .i64 0] 25) hb1) rfl) (heap_alloc (Obj.cells #[.int .i64 0] 25) hb2) (fun e => by have := hdl _ e; omega) (by simp; omega)
  refine (wguardx_calls (S := fun k => k = w.heap.size + 1 + 1) (R := fun w' => ∃ s A', treeB B N top = some s ∧ TlR w.heap.size (w.heap.size + 1 + 1) w' A' s) (X := fun n _ => n = 60 ∧ treeB B N top = none) _ (fun (e : W.heap.size = _) => by omega) hR1).mono ?_
  rintro e w2 ⟨w1, hF1, hF2, hor⟩
  have hFt : Fr No w w2 := ((hF.trans hFA).trans' hF1 (fun i hi (e : i = _) => by omega)).trans' hF2 (fun i hi (e : i = _) => by omega)
  have HF := Lib.hid hFt
  rcases hor with ⟨rfl, s, A', hts, v, hbv, hov, -, -⟩ | ⟨n, rfl, rfl, htn⟩
  · have hbv2 := hF2.heap hbv (fun (e : w.heap.size + 1 + 1 = W.heap.size) => by omega)
    have hbe := hF1.heap (heap_new W (Obj.cells #[.int .i64 0] 25)) (fun (e : W.heap.size = _) => by omega)
    have hov2 := ownsRow_fr7 hov hF2 (fun k e e2 => not_row7 hbe (fun cs f e3 => by injection e3 with _ e3; exact absurd e3 (by decide)) hov k e e2)
    have k2 := heap_cell (o := 0) hbv2 rfl
    have HO := Lib.hid hov2
    have HTS := Lib.hid hts
    clear hW hF hs hb0 hb1 hb2 hFA hdl hR1 hF1 hF2 hFt hts hbv hov hbv2 hbe hov2
    obtain ⟨av, cv, rfl⟩ := (Sl.of_owns HO.out).form
    go_wp2_with fail
    go_ret2
    exact ⟨HF.out, .inl ⟨s, _, HTS.out, rfl, HO.out⟩⟩
  · have HTN := Lib.hid htn
    clear hW hF hs hb0 hb1 hb2 hFA hdl hR1 hF1 hF2 hFt htn
    go_wp2_with fail
    go_ret2
    exact ⟨HF.out, .inr ⟨HTN.out, rfl⟩⟩
end Go.Proofs.YtpcikbloflpahaaDoor
