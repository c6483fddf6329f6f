/-
  Chapter 7: a sector met.
-/
import Derived.Test.YtpcikbloflpahaaDoorYD
namespace Go.Proofs.YtpcikbloflpahaaDoor
set_option linter.unusedVariables false
set_option linter.unusedSimpArgs false
open Go.RowKit Go.Shelf Go.Maps

/-- Whether a sector may be met. -/
def okM (N : Nat) (s : List (Int × Int)) (n : Int) : Prop := 2 ≤ n ∧ n < (N : Int) ∧ n ∉ s.map Prod.fst
instance (N : Nat) (s : List (Int × Int)) (n : Int) : Decidable (okM N s n) := by unfold okM; exact inferInstance
def seenF (s : List (Int × Int)) : Int → Option Value := fun k => if k ∈ s.map Prod.fst then some (.int .i64 1) else none
theorem seenF_snoc (s : List (Int × Int)) (n p : Int) : upd (seenF s) n (some (.int .i64 1)) = seenF (s ++ [(n, p)]) := by
  funext k
  unfold upd seenF
  by_cases h : k = n
  · subst h; simp
  · rw [if_neg h]
    have e : (k ∈ List.map Prod.fst (s ++ [(n, p)])) = (k ∈ List.map Prod.fst s) := by simp [h]
    simp only [e]
/-- Who is told of what is met: a function, its state. -/
structure Tell (tf : Nat) (tcap : Array Value) (Tl : World → (Nat → Prop) → List (Int × Int) → Prop) : Prop where
  fr : ∀ {w w' : World} {A S : Nat → Prop} {s}, Tl w A s → Fr S w w' → (∀ k, A k → ¬ S k) → Tl w' A s
  low : ∀ {w : World} {A : Nat → Prop} {s}, Tl w A s → ∀ k, A k → k < w.heap.size
  cel : ∀ {w : World} {A : Nat → Prop} {s}, Tl w A s → ∀ k o, A k → w.heap[k]? = some o → o.isCells = true
  call : ∀ {w : World} {A : Nat → Prop} {s} (n p : Int), Tl w A s → s.length ≤ 2000 → (2 ≤ n ∧ n < 2000 ∧ -1 ≤ p ∧ p < 128) → Calls Tryd.prog tf (#[.int .i64 n, .int .i64 p] ++ tcap) w fun e w' => e = .returned (.tuple #[]) ∧ ∃ A', Tl w' A' (s ++ [(n, p)]) ∧ Fr A w w' ∧ Gr7 w A A'
  ent : ∀ args w, (callFunc tf args).run Tryd.prog w = .ok (.enter tf args) w
structure StM (W : World) (db sb eb tb sm N acts : Nat) (B : List Int) (tf : Nat) (tcap : Array Value) (Tl : World → (Nat → Prop) → List (Int × Int) → Prop) (Z Ad A : Nat → Prop) (s : List (Int × Int)) : Prop where
  dk : DkR W db Ad acts N B
  bs : W.heap[sb]? = some (.cells [.map (some sm)].toArray 157 (0, 0))
  be : W.heap[eb]? = some (.cells [.pointer (some ⟨db, 0, none⟩)].toArray 36 (0, 0))
  bt : W.heap[tb]? = some (.cells [.func (.func tf) #[] tcap].toArray 138 (0, 0))
  mp : MapAt Tryd.prog 3 W sm s.length (seenF s)
  tl : Tl W A s
  zs : Z sb ∧ Z eb ∧ Z tb ∧ (∀ k, Ad k → Z k) ∧ ¬ Z sm
  za : ∀ k, A k → ¬ Z k ∧ k ≠ sm
  zl : ∀ k, Z k → k < W.heap.size
def StS (A : Nat → Prop) (sm : Nat) : Nat → Prop := fun k => A k ∨ k = sm
section
variable {W W' : World} {db sb eb tb sm N acts : Nat} {B : List Int} {tf : Nat} {tcap : Array Value} {Tl : World → (Nat → Prop) → List (Int × Int) → Prop} {Z Ad A A' S : Nat → Prop} {s s' : List (Int × Int)}
theorem StM.fr (hT : Tell tf tcap Tl) (h : StM W db sb eb tb sm N acts B tf tcap Tl Z Ad A s) (hF : Fr S W W') (hz : ∀ k, Z k → ¬ S k) (ha : ∀ k, A k → ¬ S k) (hm : ¬ S sm) : StM W' db sb eb tb sm N acts B tf tcap Tl Z Ad A s :=
  ⟨h.dk.fr hF (fun k hk => hz k (h.zs.2.2.2.1 k hk)), hF.heap h.bs (hz _ h.zs.1), hF.heap h.be (hz _ h.zs.2.1), hF.heap h.bt (hz _ h.zs.2.2.1), h.mp.fr hF hm, hT.fr h.tl hF ha, h.zs, h.za, fun k hk => Nat.lt_of_lt_of_le (h.zl k hk) hF.size⟩
theorem StM.fr0 (hT : Tell tf tcap Tl) (h : StM W db sb eb tb sm N acts B tf tcap Tl Z Ad A s) (hF : Fr No W W') : StM W' db sb eb tb sm N acts B tf tcap Tl Z Ad A s := h.fr hT hF (fun _ _ h => h) (fun _ _ h => h) (fun h => h)
theorem StM.put (h : StM W db sb eb tb sm N acts B tf tcap Tl Z Ad A s) (hF : Fr (fun j => j = sm) W W') : W'.cell? ⟨sb, 0, none⟩ = some (.map (some sm)) ∧ W'.cell? ⟨eb, 0, none⟩ = some (.pointer (some ⟨db, 0, none⟩)) ∧ W'.cell? ⟨tb, 0, none⟩ = some (.func (.func tf) #[] tcap) ∧ DkR W' db Ad acts N B := by
  have hz : ∀ k, Z k → k ≠ sm := fun k hk e => h.zs.2.2.2.2 (e ▸ hk)
  exact ⟨hF.cell (heap_cell (o := 0) h.bs rfl) (hz _ h.zs.1), hF.cell (heap_cell (o := 0) h.be rfl) (hz _ h.zs.2.1), hF.cell (heap_cell (o := 0) h.bt rfl) (hz _ h.zs.2.2.1), h.dk.fr hF (fun k hk => hz k (h.zs.2.2.2.1 k hk))⟩
end
theorem look_upd {w : World} {b c : Nat} {f : Int → Option Value} {n : Int} {v : Value} (h : MapAt Tryd.prog 3 w b c (upd f n (some v))) (hn : -9223372036854775808 ≤ n ∧ n ≤ 9223372036854775807) : (Instr.lookup 157 (.map (some b)) (.int .i64 n) false).run Tryd.prog w = .ok v w := by
  have hz : ∀ w : World, (zeroValue 3).run Tryd.prog w = .ok (.int .i64 0) w := fun _ => by kernel_rfl
  have := (h.look Tryd.underlying3 Tryd.underlying157 (hz _) n hn).2
  rw [show upd f n (some v) n = some v from by simp [upd]] at this
  exact this

set_option maxHeartbeats 4000000 in
set_option maxRecDepth 1000000 in
theorem meet_calls {W : World} {db sb eb tb sm N acts : Nat} {B : List Int} {tf : Nat} {tcap : Array Value} {Tl : World → (Nat → Prop) → List (Int × Int) → Prop} {Z Ad A : Nat → Prop} {s : List (Int × Int)} (hT : Tell tf tcap Tl)
    (h : StM W db sb eb tb sm N acts B tf tcap Tl Z Ad A s) (hs : s.length ≤ 1500) (n p : Int) (hn : -9223372036854775808 ≤ n ∧ n ≤ 9223372036854775807) (hp : -1 ≤ p ∧ p < 128) :
    Calls Tryd.prog 83 #[.int .i64 n, .int .i64 p, .pointer (some ⟨sb, 0, none⟩), .pointer (some ⟨eb, 0, none⟩), .pointer (some ⟨tb, 0, none⟩)] W fun e W' =>
      (okM N s n ∧ e = .returned (.tuple #[]) ∧ ∃ A', StM W' db sb eb tb sm N acts B tf tcap Tl Z Ad A' (s ++ [(n, p)]) ∧ Fr (StS A sm) W W' ∧ Gr7 W A A') ∨
      (¬ okM N s n ∧ e = .panicked [{ v := .iface 154 (.agg #[.int .i64 60]), recovered := false }] ∧ Fr (StS A sm) W W') := by
  have hz : ∀ w : World, (zeroValue 3).run Tryd.prog w = .ok (.int .i64 0) w := fun _ => by kernel_rfl
  have hN : N ≤ 2000 := by obtain ⟨_, _, _, _, _, _, h⟩ := h.dk; exact h.many
  have k0 := heap_cell (o := 0) h.bs rfl
  have hlk := (h.mp.look Tryd.underlying3 Tryd.underlying157 (hz _) n hn).2
  have HMP := Lib.hid h.mp
  have HM := Lib.hid wmust_calls
  have HX := Lib.hid (wmustbad_calls 60)
  have HL := Lib.hid (show s.length < maxLen by unfold maxLen; omega)
  have HNN := Lib.hid hn
  have H := Lib.hid h
  have HTT := Lib.hid hT
  have HBAD : RowKit.Hid (∀ (v0 v1 : Int), (seenF s n).getD (.int .i64 0) = .int .i64 v0 → v0 + 1 = v1 → -100 < v0 ∧ v0 < 100 → ¬ okM N s n → (decide (2 ≤ n) = false ∨ (decide (2 ≤ n) = true ∧ decide (n < (N : Int)) = false) ∨ (decide (2 ≤ n) = true ∧ decide (n < (N : Int)) = true ∧ (v1 == 1) = false)) → Calls Tryd.prog 83 #[.int .i64 n, .int .i64 p, .pointer (some ⟨sb, 0, none⟩), .pointer (some ⟨eb, 0, none⟩), .pointer (some ⟨tb, 0, none⟩)] W fun e W' => e = .panicked [{ v := .iface 154 (.agg #[.int .i64 60]), recovered := false }] ∧ Fr (StS A sm) W W') := Lib.hid (by
    intro v0 v1 hv0 hv1 hv2 hok hd
    rw [hv0] at hlk
    have hw1 : IntKind.i64.wrap (v0 + 1) = v1 := by rw [IntWalk.i64_in _ (by omega)]; exact hv1
    clear hv0 hv1 hok h hT hn hs
    rcases hd with d1 | ⟨d1, d2⟩ | ⟨d1, d2, d3⟩
    all_goals (
      go_enter Tryd.func83, Tryd.ntmps83
      go_wp2_with (first | (at_mapUpdate; (refine map_put rfl (.tmp 7) (.tmp 8) (.tmp 10) 157 rfl rfl HMP.out Tryd.underlying3 Tryd.underlying157 HL.out n HNN.out (.int .i64 v1) rfl rfl ?_; intro w4 hmap4 hF4; obtain ⟨k2s, k2e, k2t, hdk4⟩ := H.out.put hF4; have hlk4 := look_upd hmap4 HNN.out; have HD4 := Lib.hid hdk4; have HF4 := Lib.hid (hF4.mono (T := StS A sm) (fun k _ e => .inr e)); clear hF4 hmap4 hdk4)) | fail "arm"))
    · refine (HX.out _).mono ?_
      rintro e w5 ⟨rfl, rfl⟩
      go_wp2_with fail
      exact ⟨rfl, rfl, HF4.out⟩
    · refine (glen_calls HD4.out).mono ?_
      rintro e w5 ⟨rfl, rfl⟩
      go_wp2_with fail
      refine (HX.out _).mono ?_
      rintro e w5 ⟨rfl, rfl⟩
      go_wp2_with fail
      exact ⟨rfl, rfl, HF4.out⟩
    · refine (glen_calls HD4.out).mono ?_
      rintro e w5 ⟨rfl, rfl⟩
      go_wp2_with fail
      refine (HX.out _).mono ?_
      rintro e w5 ⟨rfl, rfl⟩
      go_wp2_with fail
      exact ⟨rfl, rfl, HF4.out⟩)
  by_cases hok : okM N s n
  · have hg : (seenF s n).getD (.int .i64 0) = .int .i64 0 := by simp only [seenF]; rw [if_neg hok.2.2]; rfl
    have d1 : decide (2 ≤ n) = true := decide_eq_true hok.1
    have d2 : decide (n < (N : Int)) = true := decide_eq_true hok.2.1
    have hnone : seenF s n = none := by simp only [seenF]; rw [if_neg hok.2.2]
    rw [hg] at hlk
    have HP := Lib.hid (fun (w : World) (A' : Nat → Prop) (ht : Tl w A' s) => hT.call n p ht (by omega) ⟨hok.1, by have := hok.2.1; omega, hp⟩)
    have HOK := Lib.hid hok
    have HNO := Lib.hid hnone
    have hent := hT.ent
    clear hok hnone hg h hT hn hs
    go_enter Tryd.func83, Tryd.ntmps83
    go_wp2_with (first | (at_mapUpdate; (refine map_put rfl (.tmp 7) (.tmp 8) (.tmp 10) 157 rfl rfl HMP.out Tryd.underlying3 Tryd.underlying157 HL.out n HNN.out (.int .i64 1) rfl rfl ?_; intro w4 hmap4 hF4; obtain ⟨k2s, k2e, k2t, hdk4⟩ := H.out.put hF4; have hlk4 := look_upd hmap4 HNN.out; have HD4 := Lib.hid hdk4; have HF4 := Lib.hid hF4; have HMP4 := Lib.hid hmap4; clear hF4 hmap4 hdk4)) | fail "arm")
    refine (glen_calls HD4.out).mono ?_
    rintro e w5 ⟨rfl, rfl⟩
    go_wp2_with fail
    refine (HM.out _ _).mono ?_
    rintro e w5 ⟨rfl, rfl⟩
    go_wp2_with fail
    have hz4 : ∀ k, Z k → k ≠ sm := fun k hk e => H.out.zs.2.2.2.2 (e ▸ hk)
    refine (HP.out w5 A (HTT.out.fr H.out.tl HF4.out (fun k hk => (H.out.za k hk).2))).mono ?_
    rintro e w6 ⟨rfl, A', ht', hF6, hG6⟩
    have hm4 := HMP4.out
    rw [HNO.out, if_neg (by simp), seenF_snoc s n p] at hm4
    have hza : ∀ k, Z k → ¬ A k := fun k hk ha => (H.out.za k ha).1 hk
    have hsa : ¬ A sm := fun ha => (H.out.za sm ha).2 rfl
    have hsl := H.out.mp.lt
    have hsz := HF4.out.size
    have HST : RowKit.Hid (StM w6 db sb eb tb sm N acts B tf tcap Tl Z Ad A' (s ++ [(n, p)])) := Lib.hid ⟨HD4.out.fr hF6 (fun k hk => hza k (H.out.zs.2.2.2.1 k hk)), hF6.heap (HF4.out.heap H.out.bs (hz4 _ H.out.zs.1)) (hza _ H.out.zs.1), hF6.heap (HF4.out.heap H.out.be (hz4 _ H.out.zs.2.1)) (hza _ H.out.zs.2.1), hF6.heap (HF4.out.heap H.out.bt (hz4 _ H.out.zs.2.2.1)) (hza _ H.out.zs.2.2.1), by rw [List.length_append]; exact hm4.fr hF6 hsa, ht', H.out.zs, fun k hk => by
      rcases hG6 k hk with e | e
      · exact H.out.za k e
      · exact ⟨fun hzk => by have := H.out.zl k hzk; omega, by omega⟩, fun k hk => Nat.lt_of_lt_of_le (Nat.lt_of_lt_of_le (H.out.zl k hk) hsz) hF6.size⟩
    have HF6 := Lib.hid ((HF4.out.mono (T := StS A sm) (fun k _ e => .inr e)).trans (hF6.mono (T := StS A sm) (fun k _ e => .inl e)))
    have HG6 : RowKit.Hid (Gr7 W A A') := Lib.hid (fun j hj => (hG6 j hj).imp id (fun h => Nat.le_trans hsz h))
    clear hm4 hza hsa hsl hsz hz4 ht' hF6 hG6
    go_wp2_with fail
    go_end0
    exact .inl ⟨HOK.out, rfl, A', HST.out, HF6.out, HG6.out⟩
  · by_cases hin : n ∈ s.map Prod.fst
    · refine (HBAD.out 1 2 (by simp only [seenF]; rw [if_pos hin]; rfl) rfl (by omega) hok ?_).mono (fun e w' h => .inr ⟨hok, h⟩)
      by_cases q1 : 2 ≤ n
      · by_cases q2 : n < (N : Int)
        · exact .inr (.inr ⟨decide_eq_true q1, decide_eq_true q2, rfl⟩)
        · exact .inr (.inl ⟨decide_eq_true q1, decide_eq_false q2⟩)
      · exact .inl (decide_eq_false q1)
    · refine (HBAD.out 0 1 (by simp only [seenF]; rw [if_neg hin]; rfl) rfl (by omega) hok ?_).mono (fun e w' h => .inr ⟨hok, h⟩)
      by_cases q1 : 2 ≤ n
      · by_cases q2 : n < (N : Int)
        · exact absurd ⟨q1, q2, hin⟩ hok
        · exact .inr (.inl ⟨decide_eq_true q1, decide_eq_false q2⟩)
      · exact .inl (decide_eq_false q1)
end Go.Proofs.YtpcikbloflpahaaDoor
