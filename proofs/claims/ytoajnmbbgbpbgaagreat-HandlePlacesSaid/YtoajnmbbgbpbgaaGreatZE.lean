/-
  The memory of chapter 9: what 'a memory of bytes B' is in the world; its page at a place.
-/
import Derived.Test.YtoajnmbbgbpbgaaGreatZB
import Derived.Test.YtoajnmbbgbpbgaaGreatZD
import Derived.Maps.OwnSet
import Derived.Maps.Own
import Derived.Deep.DeepCutAuto
import Derived.Deep.CutBlock
import Derived.Deep.RegionHeld3
namespace Go.Proofs.YtoajnmbbgbpbgaaGreat
set_option linter.unusedVariables false
set_option linter.unusedSimpArgs false
open Go.RowKit Go.Shelf Go.Maps

/-- copy(row[o:o+dLen], source), of bytes that lie elsewhere: as many as there are and fit. -/
theorem Row.copyAt {w : World} {b : Nat} {t : TypeId} {l : List Int} (h : Row w b t l) (m : List Int) (ad : Addr) (o dLen dCap sLen sCap : Nat) (hn : m.length = Nat.min sLen dLen) (hsrc : ∀ j v, (bys m)[j]? = some v → w.cell? (ad.add j) = some v) (hfit : o + m.length ≤ l.length) :
    ∃ w', Row w' b t (spl l o m) ∧ Fr (fun k => k = b) w w' ∧ ∀ ty, (Builtin.copy_ #[22, 22] ty #[.slice (some ⟨b, o, none⟩) dLen dCap, .slice (some ad) sLen sCap]).run Tryz.prog w = .ok (.int .i64 m.length) w' := by
  obtain ⟨q1, q2⟩ := h.setRow (spl l o m)
  refine ⟨_, q1, q2, fun ty => ?_⟩
  rw [run_copy_row (P := Tryz.prog) w 22 22 ty 5 b o dLen dCap ad sLen sCap (bys l).toArray t (bys m) Tryz.underlying22 (by kernel_rfl) h (by rw [bys_len]; exact hn) hsrc (by simpa [bys] using hfit) (bys_one m)]
  rw [bys_spl, bys_len]; rfl
theorem spl_nil (l : List Int) (o : Nat) : spl l o [] = l := by simp [spl]
/-- copy(row[o:o+dLen], s), whatever slice s is. -/
theorem Row.copyAny {w : World} {b : Nat} {t : TypeId} {l : List Int} (h : Row w b t l) (s : List Int) (a : Option Addr) (o dLen dCap cap : Nat) (hv : Sl w (.slice a s.length cap) s.length (bys s)) (hfit : o + dLen ≤ l.length) :
    ∃ w', Row w' b t (spl l o (s.take dLen)) ∧ Fr (fun k => k = b) w w' ∧ ∀ ty, (Builtin.copy_ #[22, 22] ty #[.slice (some ⟨b, o, none⟩) dLen dCap, .slice a s.length cap]).run Tryz.prog w = .ok (.int .i64 (s.take dLen).length) w' := by
  cases a with
  | none =>
    obtain ⟨a', cap', e, h0, -⟩ := hv
    injection e with e1 e2 e3
    obtain ⟨h1, h2⟩ := h0.1 e1.symm
    obtain rfl : cap = 0 := by omega
    obtain rfl : s = [] := by cases s with | nil => rfl | cons x s => simp at h1
    rw [List.take_nil, spl_nil]
    refine ⟨w, h, Fr.refl _ _, fun ty => ?_⟩
    have := run_copy_nil (P := Tryz.prog) w 22 22 ty 5 ⟨b, o, none⟩ dLen dCap Tryz.underlying22 (by kernel_rfl)
    simpa [goInt] using this
  | some ad =>
    obtain ⟨w', h1, h2, h3⟩ := h.copyAt (s.take dLen) ad o dLen dCap s.length cap (by rw [List.length_take, Nat.min_comm]) (fun j v hj => by
      have hj' : (bys s)[j]? = some v := by
        simp only [bys, List.map_take, List.getElem?_take] at hj ⊢
        split at hj
        · exact hj
        · cases hj
      obtain ⟨a', cap', e, h0, h1, h2⟩ := hv
      injection e with e1 e2 e3
      obtain ⟨b', off, e4⟩ := h1 (by intro e; rw [e] at hj'; cases hj')
      have := h2 b' off j v e4 hj'
      rw [← e1] at e4
      injection e4 with e4
      subst e4
      simp only [Addr.add]
      split
      · next hz => subst hz; simpa using this
      · exact this) (by rw [List.length_take]; omega)
    exact ⟨w', h1, h2, fun ty => h3 ty⟩

/-- How a page's pointer reads in the map: as its block's number. -/
def heldR : Value → Option (DataW Unit × List MemPlace)
  | .pointer none => some (.lit (.int .i64 (-1)), [])
  | .pointer (some ⟨b, 0, none⟩) => some (.lit (.int .i64 b), [])
  | _ => none
theorem heldR_inv {v : Value} {d : DataW Unit} {ps : List MemPlace} (h : heldR v = some (d, ps)) : (v = .pointer none ∧ d = .lit (.int .i64 (-1))) ∨ ∃ b : Nat, v = .pointer (some ⟨b, 0, none⟩) ∧ d = .lit (.int .i64 b) := by
  unfold heldR at h
  split at h
  · simp at h; exact .inl ⟨rfl, h.1.symm⟩
  · rename_i b; simp at h; exact .inr ⟨b, rfl, h.1.symm⟩
  · cases h
theorem heldR_mk (b : Nat) : heldR (.pointer (some ⟨b, 0, none⟩)) = some (.lit (.int .i64 b), []) := rfl

/-- A page's bytes. -/
def pg (B : List Int) (p : Nat) : List Int := (B.drop (64 * p)).take 64
theorem pg_length (B : List Int) (p : Nat) (h : B.length = 8192) (hp : p < 128) : (pg B p).length = 64 := by simp [pg, h]; omega
theorem pg_get (B : List Int) (p r : Nat) (hr : r < 64) : (pg B p).getD r 0 = B.getD (64 * p + r) 0 := by
  simp [pg, List.getD, List.getElem?_take, hr]
theorem pg_set (B : List Int) (p r : Nat) (x : Int) (hr : r < 64) : pg (B.set (64 * p + r) x) p = (pg B p).set r x := by
  rw [pg, List.drop_set, if_neg (by omega), show 64 * p + r - 64 * p = r by omega, List.take_set]; rfl
theorem pg_set_other (B : List Int) (p q r : Nat) (x : Int) (hr : r < 64) (h : q ≠ p) : pg (B.set (64 * p + r) x) q = pg B q := by
  rw [pg, pg]
  rcases Nat.lt_or_ge q p with h1 | h1
  · rw [List.drop_set, if_neg (by omega), List.take_set_of_le (by omega)]
  · rw [List.drop_set_of_lt (by omega)]
theorem pg_range (B : List Int) (p : Nat) (h : ∀ b ∈ B, 0 ≤ b ∧ b < 256) : ∀ b ∈ pg B p, 0 ≤ b ∧ b < 256 := fun b hb => h b (List.mem_of_mem_drop (List.mem_of_mem_take hb))

/-- How many pages the map lacks. -/
def miss (P : Nat → Option Nat) : Nat := ((List.range 128).filter fun q => (P q).isNone).length
theorem filter_lt {Q Q' : Nat → Bool} {p : Nat} (h : ∀ q, Q' q = true → Q q = true) (h1 : Q p = true) (h2 : Q' p = false) : ∀ l : List Nat, p ∈ l → (l.filter Q').length + 1 ≤ (l.filter Q).length := by
  have hle : ∀ l : List Nat, (l.filter Q').length ≤ (l.filter Q).length := by
    intro l
    induction l with
    | nil => simp
    | cons a l ih =>
      by_cases ha : Q' a = true
      · rw [List.filter_cons_of_pos ha, List.filter_cons_of_pos (h a ha)]; simp; omega
      · rw [List.filter_cons_of_neg ha]
        by_cases hq : Q a = true
        · rw [List.filter_cons_of_pos hq]; simp; omega
        · rw [List.filter_cons_of_neg hq]; exact ih
  intro l
  induction l with
  | nil => simp
  | cons a l ih =>
    intro hp
    by_cases e : a = p
    · subst e
      rw [List.filter_cons_of_neg (by simp [h2]), List.filter_cons_of_pos h1]
      have := hle l; simp; omega
    · have hp' : p ∈ l := by rcases List.mem_cons.1 hp with h3 | h3; exact absurd h3.symm e; exact h3
      have := ih hp'
      by_cases ha : Q' a = true
      · rw [List.filter_cons_of_pos ha, List.filter_cons_of_pos (h a ha)]; simp; omega
      · rw [List.filter_cons_of_neg ha]
        by_cases hq : Q a = true
        · rw [List.filter_cons_of_pos hq]; simp; omega
        · rw [List.filter_cons_of_neg hq]; exact this
def putP (P : Nat → Option Nat) (p b : Nat) : Nat → Option Nat := fun q => if q = p then some b else P q
theorem miss_put (P : Nat → Option Nat) (p b : Nat) (hp : p < 128) (h : P p = none) : miss (putP P p b) + 1 ≤ miss P := by
  refine filter_lt (p := p) (fun q hq => ?_) (by simp [h]) (by simp [putP]) _ (List.mem_range.2 hp)
  simp only [putP] at hq
  split at hq
  · cases hq
  · exact hq

abbrev pkey (p : Nat) : Lit := .int .i64 p
theorem intKey : Keyed Tryz.prog 3 := int_keyed Tryz.underlying3

/-- A memory of bytes B that was made of bytes F: its box mb, its first bytes' block fb, its map pm, its pages' blocks P; all of it lies in the blocks A. -/
structure MemIn (w : World) (mb fb pm n : Nat) (D : DataW Unit) (P : Nat → Option Nat) (A : Nat → Prop) (F B : List Int) : Prop where
  box : w.heap[mb]? = some (.cells #[.pointer none, .map (some pm), .slice (some ⟨fb, 0, none⟩) 8192 8192] 52 (0, 0))
  first : Row w fb 5 F
  flen : F.length = 8192
  blen : B.length = 8192
  frange : ∀ b ∈ F, 0 ≤ b ∧ b < 256
  brange : ∀ b ∈ B, 0 ≤ b ∧ b < 256
  map : w.ownsMap Tryz.prog 3 heldR pm n D
  cnt : n + miss P ≤ 128
  has : ∀ p, p < 128 → Maps.has D (pkey p) = (P p).isSome
  only : ∀ kl, Maps.has D kl = true → ∃ p, p < 128 ∧ kl = pkey p
  get : ∀ p b, p < 128 → P p = some b → D.atKey (pkey p) (.lit (.int .i64 (-1))) = .lit (.int .i64 b)
  held : ∀ p b, p < 128 → P p = some b → A b ∧ Row w b 111 (pg F p ++ pg B p)
  none_ : ∀ p, p < 128 → P p = none → pg B p = pg F p
  inj : ∀ p q b, p < 128 → q < 128 → P p = some b → P q = some b → p = q
  amb : A mb
  afb : A fb
  apm : A pm
  low : ∀ j, A j → j < w.heap.size
def MemAt (w : World) (mb : Nat) (A : Nat → Prop) (F B : List Int) : Prop := ∃ fb pm n D P, MemIn w mb fb pm n D P A F B

theorem ownsMap_fr {S : Nat → Prop} {w w' : World} {pm n : Nat} {D : DataW Unit} (h : w.ownsMap Tryz.prog 3 heldR pm n D) (hF : Fr S w w') (hn : ¬ S pm) : w'.ownsMap Tryz.prog 3 heldR pm n D := by
  obtain ⟨es, clock, hb, r⟩ := h
  exact ⟨es, clock, hF.heap hb hn, r⟩
/-- What leaves a memory's blocks as they are leaves the memory. -/
theorem MemIn.fr {S : Nat → Prop} {w w' : World} {mb fb pm n : Nat} {D : DataW Unit} {P : Nat → Option Nat} {A : Nat → Prop} {F B : List Int} (h : MemIn w mb fb pm n D P A F B) (hF : Fr S w w') (hn : ∀ k, S k → ¬ A k) : MemIn w' mb fb pm n D P A F B where
  box := hF.heap h.box (fun hs => hn _ hs h.amb)
  first := h.first.fr hF (fun hs => hn _ hs h.afb)
  flen := h.flen
  blen := h.blen
  frange := h.frange
  brange := h.brange
  map := ownsMap_fr h.map hF (fun hs => hn _ hs h.apm)
  cnt := h.cnt
  has := h.has
  only := h.only
  get := h.get
  held := fun p b hp hb => ⟨(h.held p b hp hb).1, (h.held p b hp hb).2.fr hF (fun hs => hn _ hs (h.held p b hp hb).1)⟩
  none_ := h.none_
  inj := h.inj
  amb := h.amb
  afb := h.afb
  apm := h.apm
  low := fun j hj => Nat.lt_of_lt_of_le (h.low j hj) hF.size
theorem MemAt.fr {S : Nat → Prop} {w w' : World} {mb : Nat} {A : Nat → Prop} {F B : List Int} (h : MemAt w mb A F B) (hF : Fr S w w') (hn : ∀ k, S k → ¬ A k) : MemAt w' mb A F B := by
  obtain ⟨fb, pm, n, D, P, h⟩ := h; exact ⟨fb, pm, n, D, P, h.fr hF hn⟩
theorem MemAt.fr0 {w w' : World} {mb : Nat} {A : Nat → Prop} {F B : List Int} (h : MemAt w mb A F B) (hF : Fr No w w') : MemAt w' mb A F B := h.fr hF (fun _ h => h.elim)

theorem heap_ty {w : World} {b : Nat} {cs cs' : Array Value} {t t' : TypeId} {fr fr' : Nat × Nat} (h : w.heap[b]? = some (.cells cs t fr)) (h' : w.heap[b]? = some (.cells cs' t' fr')) : t = t' := by
  rw [h] at h'; injection h' with h'; injection h'
/-- A byte of a page stored. -/
theorem MemIn.store {w : World} {mb fb pm n : Nat} {D : DataW Unit} {P : Nat → Option Nat} {A : Nat → Prop} {F B : List Int} (h : MemIn w mb fb pm n D P A F B) {p r b : Nat} (hp : p < 128) (hr : r < 64) (hb : P p = some b) (x : Int) (hx : 0 ≤ x ∧ x < 256) :
    MemIn (w.setCell ⟨b, 64 + r, none⟩ (.int .u8 x)) mb fb pm n D P A F (B.set (64 * p + r) x) := by
  obtain ⟨hA, hR⟩ := h.held p b hp hb
  have hF : Fr (fun k => k = b) w (w.setCell ⟨b, 64 + r, none⟩ (.int .u8 x)) := (Fr.refl (fun k => k = b) w).setCell (p := ⟨b, 64 + r, none⟩) (fun _ => rfl) (.int .u8 x)
  have n1 : mb ≠ b := fun e => by subst e; exact absurd (heap_ty h.box hR) (by decide)
  have n2 : fb ≠ b := fun e => by subst e; exact absurd (heap_ty h.first hR) (by decide)
  have n3 : pm ≠ b := fun e => by subst e; obtain ⟨es, clock, h1, _⟩ := h.map; rw [show w.heap[pm]? = _ from hR] at h1; cases h1
  exact
  { box := hF.heap h.box n1
    first := h.first.fr hF n2
    flen := h.flen
    blen := by rw [List.length_set]; exact h.blen
    frange := h.frange
    brange := fun y hy => by
      rcases List.mem_or_eq_of_mem_set hy with h1 | h1
      · exact h.brange y h1
      · rw [h1]; exact hx
    map := ownsMap_fr h.map hF n3
    cnt := h.cnt
    has := h.has
    only := h.only
    get := h.get
    held := fun q c hq hc => by
      by_cases e : q = p
      · subst e
        rw [hb] at hc; cases hc
        refine ⟨hA, ?_⟩
        have h2 := hR.set (64 + r) x
        rw [List.set_append_right _ _ (by rw [pg_length _ _ h.flen hp]; omega), pg_length _ _ h.flen hp, show 64 + r - 64 = r by omega] at h2
        rw [pg_set _ _ _ _ hr]
        exact h2
      · obtain ⟨g1, g2⟩ := h.held q c hq hc
        refine ⟨g1, ?_⟩
        rw [pg_set_other _ _ _ _ _ hr e]
        exact g2.fr hF (fun e2 => e (h.inj q p b hq hp (by rw [hc, e2]) hb))
    none_ := fun q hq hc => by
      have e : q ≠ p := fun e => by subst e; rw [hb] at hc; cases hc
      rw [pg_set_other _ _ _ _ _ hr e]; exact h.none_ q hq hc
    inj := h.inj
    amb := h.amb
    afb := h.afb
    apm := h.apm
    low := fun j hj => by have := h.low j hj; have := hF.size; omega }

/-- A page is read into the map: block b holds its bytes twice. -/
theorem MemIn.page {w w' : World} {mb fb pm n : Nat} {D : DataW Unit} {P : Nat → Option Nat} {A : Nat → Prop} {F B : List Int} (h : MemIn w mb fb pm n D P A F B) {p b : Nat} (hp : p < 128) (hb : P p = none) (hF : Fr (fun k => k = pm) w w') (hbl : w.heap.size ≤ b)
    (hm : w'.ownsMap Tryz.prog 3 heldR pm (n + 1) (D.put (pkey p) (.lit (.int .i64 b)))) (hR : Row w' b 111 (pg F p ++ pg F p)) : MemIn w' mb fb pm (n + 1) (D.put (pkey p) (.lit (.int .i64 b))) (putP P p b) (fun j => A j ∨ j = b) F B := by
  have n1 : mb ≠ pm := fun e => by subst e; obtain ⟨es, clock, h1, _⟩ := h.map; rw [h.box] at h1; cases h1
  have n2 : fb ≠ pm := fun e => by subst e; obtain ⟨es, clock, h1, _⟩ := h.map; rw [show w.heap[fb]? = _ from h.first] at h1; cases h1
  have hM := h.map.isMap
  have hne : ∀ q, q ≠ p → pkey q ≠ pkey p := fun q e e2 => e (by simp [pkey] at e2; omega)
  have hk : WideAt.IsKeyLit (pkey p) := by simp [WideAt.IsKeyLit]
  exact
  { box := hF.heap h.box n1
    first := h.first.fr hF n2
    flen := h.flen
    blen := h.blen
    frange := h.frange
    brange := h.brange
    map := hm
    cnt := by have := miss_put P p b hp hb; have := h.cnt; omega
    has := fun q hq => by
      by_cases e : q = p
      · subst e; rw [has_put_same hM hk]; simp [putP]
      · rw [has_put_other (hne q e), h.has q hq]; simp [putP, e]
    only := fun kl hkl => by
      by_cases e : kl = pkey p
      · exact ⟨p, hp, e⟩
      · rw [has_put_other e] at hkl; exact h.only kl hkl
    get := fun q c hq hc => by
      by_cases e : q = p
      · subst e; simp [putP] at hc; subst hc; rw [atKey_put_same hM hk]
      · rw [atKey_put_other (hne q e)]; simp [putP, e] at hc; exact h.get q c hq hc
    held := fun q c hq hc => by
      by_cases e : q = p
      · subst e; simp [putP] at hc; subst hc; rw [h.none_ q hq hb]; exact ⟨.inr rfl, hR⟩
      · simp [putP, e] at hc
        obtain ⟨g1, g2⟩ := h.held q c hq hc
        exact ⟨.inl g1, g2.fr hF (fun e2 => by subst e2; obtain ⟨es, clock, h1, _⟩ := h.map; rw [show w.heap[c]? = _ from g2] at h1; cases h1)⟩
    none_ := fun q hq hc => by
      by_cases e : q = p
      · subst e; simp [putP] at hc
      · simp [putP, e] at hc; exact h.none_ q hq hc
    inj := fun q r c hq hr hc hd => by
      by_cases e : q = p
      · by_cases e2 : r = p
        · omega
        · subst e; simp [putP] at hc; simp [putP, e2] at hd; subst hc
          have := (h.held r b hr hd).2.lt; omega
      · by_cases e2 : r = p
        · subst e2; simp [putP] at hd; simp [putP, e] at hc; subst hd
          have := (h.held q b hq hc).2.lt; omega
        · simp [putP, e] at hc; simp [putP, e2] at hd; exact h.inj q r c hq hr hc hd
    amb := .inl h.amb
    afb := .inl h.afb
    apm := .inl h.apm
    low := fun j hj => by
      rcases hj with hj | hj
      · have := h.low j hj; have := hF.size; omega
      · subst hj; exact hR.lt }
end Go.Proofs.YtoajnmbbgbpbgaaGreat
namespace Go.Proofs.YtoajnmbbgbpbgaaGreat
set_option linter.unusedVariables false
set_option linter.unusedSimpArgs false
open Go.RowKit Go.Shelf Go.Maps

theorem key_of (p : Nat) (hp : p < 128) : keyOf Tryz.prog 3 (.int .i64 (p : Int)) = some (pkey p) := keyOf_int_mk Tryz.underlying3 (WalkArith.wf_i64 (by omega))
theorem zero_held (w : World) : (zeroValue 112).run Tryz.prog w = .ok (.pointer none) w := by kernel_rfl

theorem zc_held : Tryz.zeroCells111 = (bys (zs 128)).toArray := by kernel_rfl

set_option maxHeartbeats 1000000 in
set_option maxRecDepth 1000000 in
theorem at_hit {w : World} {mb fb pm n : Nat} {D : DataW Unit} {P : Nat → Option Nat} {A : Nat → Prop} {F B : List Int} (h : MemIn w mb fb pm n D P A F B) {k p r b : Nat} (hp : p < 128) (hr : r < 64) (hk : k = 64 * p + r) (hb : P p = some b) :
    Calls Tryz.prog 89 #[.pointer (some ⟨mb, 0, none⟩), .int .i64 k] w fun e w' => e = .returned (.pointer (some ⟨b, 0, none⟩)) ∧ w' = w := by
  have c1 := heap_cell (o := 1) h.box rfl
  obtain ⟨v, ps, hlk, hv⟩ := h.map.look_ok intKey Tryz.underlying49 (zero_held w) (zd := .lit (.int .i64 (-1))) (zp := []) rfl (key_of p hp)
  rw [h.get p b hp hb] at hv
  rw [h.has p hp, hb] at hlk
  rcases heldR_inv hv with ⟨-, e⟩ | ⟨b', rfl, e⟩
  · simp at e
  obtain rfl : b = b' := by simp at e; exact Int.ofNat.inj e
  have hq : (k : Int) / 64 = p := by omega
  have hq2 : Int.tdiv (k : Int) 64 = p := by rw [Int.tdiv_eq_ediv_of_nonneg (by omega)]; omega
  have hk0 : (0 : Int) ≤ k := by omega
  clear hv hb h hk hr
  go_enter Tryz.func89, Tryz.ntmps89
  go_wp2
  go_ret
  exact ⟨rfl, rfl⟩

set_option maxHeartbeats 1000000 in
set_option maxRecDepth 1000000 in
theorem at_miss {w : World} {mb fb pm n : Nat} {D : DataW Unit} {P : Nat → Option Nat} {A : Nat → Prop} {F B : List Int} (h : MemIn w mb fb pm n D P A F B) {k p r : Nat} (hp : p < 128) (hr : r < 64) (hk : k = 64 * p + r) (hb : P p = none) :
    Calls Tryz.prog 89 #[.pointer (some ⟨mb, 0, none⟩), .int .i64 k] w fun e w' => ∃ b, e = .returned (.pointer (some ⟨b, 0, none⟩)) ∧ MemIn w' mb fb pm (n + 1) (D.put (pkey p) (.lit (.int .i64 b))) (putP P p b) (fun j => A j ∨ j = b) F B ∧ Fr (fun k => k = pm) w w' ∧ w.heap.size ≤ b := by
  have c0 := heap_cell (o := 0) h.box rfl
  have c1 := heap_cell (o := 1) h.box rfl
  have c2 := heap_cell (o := 2) h.box rfl
  obtain ⟨v, ps, hlk, hv⟩ := h.map.look_ok intKey Tryz.underlying49 (zero_held w) (zd := .lit (.int .i64 (-1))) (zp := []) rfl (key_of p hp)
  rw [h.has p hp, hb] at hlk
  have hq : (k : Int) / 64 = p := by omega
  have hq2 : Int.tdiv (k : Int) 64 = p := by rw [Int.tdiv_eq_ediv_of_nonneg (by omega)]; omega
  have hk0 : (0 : Int) ≤ k := by omega
  have hF0 : Fr No w (w.alloc (Obj.cells Tryz.zeroCells111 111)) := (Fr.refl _ _).alloc _
  have d0 := hF0.cell c0 (fun h => h)
  have d1 := hF0.cell c1 (fun h => h)
  have d2 := hF0.cell c2 (fun h => h)
  have hR0 : Row (w.alloc (Obj.cells Tryz.zeroCells111 111)) w.heap.size 111 (zs 128) := by rw [zc_held]; exact Row.new _ _ _
  have hb1 := heap_lt h.box
  have hL := pg_length F p h.flen hp
  have hzl : (spl (zs 128) 0 (pg F p)).length = 128 := by rw [spl_length _ _ _ (by rw [zs_length]; omega), zs_length]
  obtain ⟨W2, hR2, hF2, hcp⟩ := Row.copyAt (w := (w.alloc (Obj.cells Tryz.zeroCells111 111)).drew) hR0 (pg F p) ⟨fb, p * 64, none⟩ 0 64 64 (8192 - p * 64) (8192 - p * 64) (by rw [hL]; exact (Nat.min_eq_right (by omega)).symm)
    (fun j v hj => by
      have hfc : Row (w.alloc (Obj.cells Tryz.zeroCells111 111)).drew fb 5 F := h.first.fr (S := No) hF0.drew (fun h => h)
      have hj2 : (bys F)[p * 64 + j]? = some v := by
        simp only [pg, bys, List.map_take, List.map_drop, List.getElem?_take, List.getElem?_drop] at hj
        split at hj
        · rw [Nat.mul_comm p 64]; exact hj
        · cases hj
      have : (⟨fb, p * 64, none⟩ : Addr).add j = ⟨fb, p * 64 + j, none⟩ := by simp only [Addr.add]; split <;> simp_all
      rw [this]
      exact heap_cell hfc (by simpa using hj2)) (by rw [zs_length]; omega)
  rw [hL] at hcp
  have e1 := hF2.cell (show (w.alloc (Obj.cells Tryz.zeroCells111 111)).drew.cell? ⟨mb, 1, none⟩ = _ from d1) (by omega)
  have HF2 := Lib.hid (show Fr No w W2 from hF0.drew.trans' hF2 (fun i hi e => by omega))
  have HR2 := Lib.hid hR2
  have HRG := Lib.hid (show W2.rangeAt w.heap.size 0 (bys (pg F p)) from fun j v hj => by
    rw [Nat.zero_add]
    refine heap_cell hR2 ?_
    have hj' : j < (pg F p).length := by
      rcases Nat.lt_or_ge j (pg F p).length with h1 | h1
      · exact h1
      · rw [List.getElem?_eq_none (by rw [bys_len]; exact h1)] at hj; cases hj
    have : (spl (zs 128) 0 (pg F p))[j]? = (pg F p)[j]? := by rw [spl, List.take_zero, List.nil_append, List.getElem?_append_left hj']
    simp only [bys, List.getElem?_map] at hj
    simp only [bys, List.getElem?_toArray, List.getElem?_map, this]
    exact hj)
  have HSZ := Lib.hid (show (Tryz.prog.info? 109).map (·.size) = some (bys (pg F p)).length from by rw [bys_len, hL]; kernel_rfl)
  have HSZ2 := Lib.hid (show (Tryz.prog.info? 109).map (·.size) = some (bys (pg F p)).toArray.size from by rw [List.size_toArray]; exact HSZ.out)
  have H1C := Lib.hid (all_oneCell_toArray (bys_one (pg F p)))
  have HST := Lib.hid (show W2.there w.heap.size 64 (bys (pg F p)).toArray.size from fun j hj => by
    have hj' : 64 + j < (spl (zs 128) 0 (pg F p)).length := by rw [hzl]; simp [bys, hL] at hj; omega
    exact ⟨by rw [hR2.cell hj']; rfl, hR2.frozen _⟩)
  have HM := Lib.hid h
  have HB := Lib.hid hb
  have HZL := Lib.hid hzl
  have HLL := Lib.hid hL
  clear hv hb h hk hr c0 c2 hR2 hF2 hzl hL
  go_enter Tryz.func89, Tryz.ntmps89
  go_wp2
  go_region
  clear hcp hlk d0 d1 d2 c1 hF0 hR0
  go_wp2_with (first | (refine wpList_load_mid rfl 109 _ rfl w.heap.size 0 rfl (bys (pg F p)) (.array 64 5) HRG.out (by kernel_rfl) rfl HSZ.out ?_) | (refine wpList_store_mid rfl 109 _ _ rfl w.heap.size 64 (bys (pg F p)).toArray rfl rfl HST.out HSZ2.out H1C.out ?_; obtain ⟨hRS, hFS⟩ := HR2.out.setAll (pg F p) 64 (by rw [HZL.out, HLL.out]; omega); rw [show (bys (pg F p)).toArray.toList = bys (pg F p) from rfl]; have e2 := hFS.cell e1 (by omega); have hF3 : Fr No w _ := HF2.out.trans' hFS (fun i hi e => by omega); have hm3 := ownsMap_fr HM.out.map hF3 (fun h => h); generalize World.setCells _ w.heap.size 64 (bys (pg F p)) = W3 at *) | (at_mapUpdate; refine wpList_mapUpdate_own W3 rfl _ _ _ 49 rfl 3 112 intKey Tryz.underlying49 heldR pm n D rfl hm3 (by have := HM.out.cnt; unfold maxLen; omega) _ _ _ rfl rfl (key_of p hp) (.lit (.int .i64 (w.heap.size : Int))) [] rfl ?_; intro w4 hown4 hgrow4))
  have hF4 : Fr (fun k => k = pm) w w4 := hF3.no.grown hgrow4 (fun k e _ => by cases e; rfl)
  have hpm := HM.out.map.lt
  have hR4 : Row w4 w.heap.size 111 (pg F p ++ pg F p) := by
    have h1 := hRS.fr ((Fr.refl (fun k => k = pm) W3).grown hgrow4 (fun k e _ => by cases e; rfl)) (by omega)
    have h2 : spl (spl (zs 128) 0 (pg F p)) 64 (pg F p) = pg F p ++ pg F p := by
      have hl := HLL.out
      have hd : (zs 128).drop 64 = zs 64 := by simp [zs]
      simp [spl, hl, List.drop_append, List.take_append, List.drop_drop, zs]
    rwa [h2] at h1
  go_ret
  exact ⟨_, rfl, HM.out.page hp HB.out hF4 (Nat.le_refl _) hown4 hR4, hF4, Nat.le_refl _⟩
end Go.Proofs.YtoajnmbbgbpbgaaGreat
namespace Go.Proofs.YtoajnmbbgbpbgaaGreat
set_option linter.unusedVariables false
set_option linter.unusedSimpArgs false
open Go.RowKit Go.Shelf Go.Maps

/-- What a call may have grown a memory's blocks by: new ones alone. -/
abbrev Gr (w : World) (A A' : Nat → Prop) : Prop := ∀ j, A' j → A j ∨ w.heap.size ≤ j
theorem Gr.refl (w : World) (A : Nat → Prop) : Gr w A A := fun _ h => .inl h
theorem Gr.trans {w w' : World} {A A' A'' : Nat → Prop} (h : Gr w A A') (k : Gr w' A' A'') (hs : w.heap.size ≤ w'.heap.size) : Gr w A A'' := fun j hj => by
  rcases k j hj with h1 | h1
  · exact h j h1
  · exact .inr (Nat.le_trans hs h1)
theorem Fr.thenG {w w' w'' : World} {A A' : Nat → Prop} (h : Fr A w w') (k : Fr A' w' w'') (g : Gr w A A') : Fr A w w'' := h.trans' k (fun i hi hs => by
  rcases g i hs with h1 | h1
  · exact h1
  · omega)
/-- A memory behind a call: its blocks A' are the old ones and new ones; of what lay in w nothing else has turned. -/
def Mp (w : World) (mb : Nat) (A : Nat → Prop) (F B : List Int) (w' : World) (A' : Nat → Prop) : Prop := MemAt w' mb A' F B ∧ Fr A w w' ∧ Gr w A A'
theorem Mp.refl {w : World} {mb : Nat} {A : Nat → Prop} {F B : List Int} (h : MemAt w mb A F B) : Mp w mb A F B w A := ⟨h, Fr.refl _ _, Gr.refl _ _⟩
theorem Mp.trans {w w' w'' : World} {mb : Nat} {A A' A'' : Nat → Prop} {F B B' : List Int} (h : Mp w mb A F B w' A') (k : Mp w' mb A' F B' w'' A'') : Mp w mb A F B' w'' A'' :=
  ⟨k.1, h.2.1.thenG k.2.1 h.2.2, h.2.2.trans k.2.2 h.2.1.size⟩
/-- .. and then something that leaves the memory's blocks. -/
theorem Mp.thenFr {w w' w'' : World} {mb : Nat} {A A' : Nat → Prop} {F B : List Int} (h : Mp w mb A F B w' A') (k : Fr No w' w'') : Mp w mb A F B w'' A' := ⟨h.1.fr0 k, h.2.1.trans k.no, h.2.2⟩

theorem MemAt.blen {w : World} {mb : Nat} {A : Nat → Prop} {F B : List Int} (h : MemAt w mb A F B) : B.length = 8192 := by obtain ⟨_, _, _, _, _, h⟩ := h; exact h.blen
theorem MemAt.brange {w : World} {mb : Nat} {A : Nat → Prop} {F B : List Int} (h : MemAt w mb A F B) : ∀ b ∈ B, 0 ≤ b ∧ b < 256 := by obtain ⟨_, _, _, _, _, h⟩ := h; exact h.brange
theorem MemAt.low {w : World} {mb : Nat} {A : Nat → Prop} {F B : List Int} (h : MemAt w mb A F B) : ∀ j, A j → j < w.heap.size := by obtain ⟨_, _, _, _, _, h⟩ := h; exact h.low
theorem MemAt.box {w : World} {mb : Nat} {A : Nat → Prop} {F B : List Int} (h : MemAt w mb A F B) : ∃ fb pm, w.heap[mb]? = some (.cells #[.pointer none, .map (some pm), .slice (some ⟨fb, 0, none⟩) 8192 8192] 52 (0, 0)) := by obtain ⟨_, _, _, _, _, h⟩ := h; exact ⟨_, _, h.box⟩

theorem at_post {w w' : World} {mb fb pm n : Nat} {D : DataW Unit} {P : Nat → Option Nat} {A : Nat → Prop} {F B : List Int} (h : MemIn w mb fb pm n D P A F B) {k p r b : Nat} (hp : p < 128) (hr : r < 64) (hk : k = 64 * p + r) (hb : P p = some b) :
    A b ∧ w.cell? ⟨b, 64 + r, none⟩ = some (.int .u8 (B.getD k 0)) ∧ w.frozen? ⟨b, 64 + r, none⟩ = false ∧ ∀ x, 0 ≤ x ∧ x < 256 → MemAt (w.setCell ⟨b, 64 + r, none⟩ (.int .u8 x)) mb A F (B.set k x) := by
  subst hk
  obtain ⟨hA, hR⟩ := h.held p b hp hb
  refine ⟨hA, ?_, hR.frozen _, fun x hx => ?_⟩
  · have hl : 64 + r < (pg F p ++ pg B p).length := by rw [List.length_append, pg_length _ _ h.flen hp, pg_length _ _ h.blen hp]; omega
    have h1 := hR.cell hl
    rw [List.getElem_append_right (by rw [pg_length _ _ h.flen hp]; omega)] at h1
    rw [h1]
    have h2 := pg_get B p r hr
    rw [← h2]
    have h3 : r < (pg B p).length := by rw [pg_length _ _ h.blen hp]; omega
    simp [List.getD, pg_length _ _ h.flen hp, h3]
  · exact ⟨fb, pm, n, D, P, h.store hp hr hb x hx⟩
theorem at_calls {w : World} {mb : Nat} {A : Nat → Prop} {F B : List Int} (h : MemAt w mb A F B) (k : Nat) (hk : k < 8192) :
    Calls Tryz.prog 89 #[.pointer (some ⟨mb, 0, none⟩), .int .i64 k] w fun e w' => ∃ b A', e = .returned (.pointer (some ⟨b, 0, none⟩)) ∧ Mp w mb A F B w' A' ∧ A' b ∧ (∀ j, A j → A' j) ∧
      w'.cell? ⟨b, 64 + k % 64, none⟩ = some (.int .u8 (B.getD k 0)) ∧ w'.frozen? ⟨b, 64 + k % 64, none⟩ = false ∧ ∀ x, 0 ≤ x ∧ x < 256 → MemAt (w'.setCell ⟨b, 64 + k % 64, none⟩ (.int .u8 x)) mb A' F (B.set k x) := by
  obtain ⟨fb, pm, n, D, P, h⟩ := h
  have hp : k / 64 < 128 := by omega
  have hr : k % 64 < 64 := by omega
  have hkk : k = 64 * (k / 64) + k % 64 := by omega
  cases hb : P (k / 64) with
  | some b =>
    refine (at_hit h hp hr hkk hb).mono ?_
    rintro e w' ⟨rfl, rfl⟩
    obtain ⟨h1, h2, h3, h4⟩ := at_post (w' := w') h hp hr hkk hb
    exact ⟨b, A, rfl, ⟨⟨fb, pm, n, D, P, h⟩, Fr.refl _ _, Gr.refl _ _⟩, h1, fun _ h => h, h2, h3, h4⟩
  | none =>
    refine (at_miss h hp hr hkk hb).mono ?_
    rintro e w' ⟨b, rfl, hM, hF, hbl⟩
    obtain ⟨h1, h2, h3, h4⟩ := at_post (w' := w') hM hp hr hkk (b := b) (by simp [putP])
    refine ⟨b, _, rfl, ⟨⟨fb, pm, _, _, _, hM⟩, hF.mono (fun i hi e => by subst e; exact h.apm), ?_⟩, h1, fun _ h => .inl h, h2, h3, h4⟩
    rintro j (hj | rfl)
    · exact .inl hj
    · exact .inr hbl

theorem neq_nilmap (w : World) (pm : Nat) : (binOp BinOp.neq 49 (.map (some pm)) (.map none)).run Tryz.prog w = .ok (.bool true) w := by
  kernel_rfl
set_option maxRecDepth 1000000 in
theorem is_calls {w : World} {mb : Nat} {A : Nat → Prop} {F B : List Int} (h : MemAt w mb A F B) :
    Calls Tryz.prog 88 #[.pointer (some ⟨mb, 0, none⟩)] w fun e w' => e = .returned (.bool true) ∧ w = w' := by
  obtain ⟨fb, pm, hb⟩ := h.box
  have c1 := heap_cell (o := 1) hb rfl
  clear hb h
  go_enter Tryz.func88, Tryz.ntmps88
  have hne := neq_nilmap w pm
  go_wp2
  go_ret
  exact ⟨rfl, rfl⟩

/-- The byte at a place; nought outside. -/
def byteAt (B : List Int) (x : Int) : Int := if 0 ≤ x ∧ x < 8192 then B.getD x.toNat 0 else 0
theorem byteAt_range (B : List Int) (h : ∀ b ∈ B, 0 ≤ b ∧ b < 256) (x : Int) : 0 ≤ byteAt B x ∧ byteAt B x < 256 := by
  rw [byteAt]; split
  · exact getD_range B h _
  · omega
/-- N bytes from a on, the first i of them read. -/
def outN (B : List Int) (a : Int) (N : Nat) : Nat → List Int
  | 0 => zs N
  | i + 1 => (outN B a N i).set i (byteAt B (a + i))
theorem outN_length (B : List Int) (a : Int) (N i : Nat) : (outN B a N i).length = N := by
  induction i with
  | zero => exact zs_length N
  | succ i ih => rw [outN, List.length_set, ih]
theorem outN_get (B : List Int) (a : Int) (N i : Nat) (hi : i ≤ N) (j : Nat) : (outN B a N i).getD j 0 = if j < i then byteAt B (a + j) else 0 := by
  induction i with
  | zero => rw [outN, zs_get]; simp
  | succ i ih =>
    rw [outN, set_get _ _ _ _ (by rw [outN_length]; omega)]
    by_cases e : j = i
    · subst e; rw [if_pos rfl, if_pos (by omega)]
    · rw [if_neg e, ih (by omega)]
      by_cases h1 : j < i
      · rw [if_pos h1, if_pos (by omega)]
      · rw [if_neg h1, if_neg (by omega)]
theorem set_same (l : List Int) (i : Nat) (x : Int) (h : l.getD i 0 = x) (hi : i < l.length) : l.set i x = l := by
  rw [List.getD_eq_getElem?_getD, List.getElem?_eq_getElem hi, Option.getD_some] at h
  rw [← h]; simp
theorem outN_skip (B : List Int) (a : Int) (N i : Nat) (hi : i < N) (h : byteAt B (a + i) = 0) : outN B a N (i + 1) = outN B a N i := by
  rw [outN, h]
  exact set_same _ _ _ (by rw [outN_get _ _ _ _ (by omega), if_neg (by omega)]) (by rw [outN_length]; exact hi)
/-- N bytes from a on. -/
def loadF (B : List Int) (a : Int) (N : Nat) : List Int := outN B a N N
theorem loadF_length (B : List Int) (a : Int) (N : Nat) : (loadF B a N).length = N := outN_length B a N N
theorem loadF_get (B : List Int) (a : Int) (N j : Nat) (hj : j < N) : (loadF B a N).getD j 0 = byteAt B (a + j) := by rw [loadF, outN_get _ _ _ _ (Nat.le_refl _), if_pos hj]
theorem outN_out (B : List Int) (a : Int) (N : Nat) (h : 8192 ≤ a) (i : Nat) (hi : i ≤ N) : outN B a N i = zs N := by
  induction i with
  | zero => rfl
  | succ i ih => rw [outN_skip _ _ _ _ (by omega) (by rw [byteAt, if_neg (by omega)]), ih (by omega)]
theorem loadF_range (B : List Int) (hB : ∀ b ∈ B, 0 ≤ b ∧ b < 256) (a : Int) (N : Nat) : ∀ b ∈ loadF B a N, 0 ≤ b ∧ b < 256 := by
  have : ∀ i, ∀ b ∈ outN B a N i, 0 ≤ b ∧ b < 256 := fun i => by
    induction i with
    | zero => intro b hb; simp only [outN, zs, List.mem_replicate] at hb; omega
    | succ i ih =>
      intro b hb
      rcases List.mem_or_eq_of_mem_set hb with h | h
      · exact ih b h
      · rw [h]; exact byteAt_range B hB _
  exact this N

set_option maxHeartbeats 1000000 in
set_option maxRecDepth 1000000 in
theorem load_calls {w : World} {mb : Nat} {A : Nat → Prop} {F B : List Int} (h : MemAt w mb A F B) (a n : Int) (N : Nat) (hN : min (max n 0) 8192 = (N : Int)) (ha : -9223372036854775808 ≤ a ∧ a ≤ 9223372036854775807) :
    Calls Tryz.prog 47 #[.pointer (some ⟨mb, 0, none⟩), .int .i64 a, .int .i64 n] w fun e w' => ∃ b A', e = .returned (.slice (some ⟨b, 0, none⟩) N N) ∧ Mp w mb A F B w' A' ∧ Row w' b 5 (loadF B a N) ∧ ¬ A' b ∧ w.heap.size ≤ b := by
  have hN2 : N ≤ 8192 := by omega
  have hR0 : Row (w.alloc (.cells (bys (zs N)).toArray 5)) w.heap.size 5 (zs N) := Row.new _ _ _
  have hF0 : Fr No w (w.alloc (.cells (bys (zs N)).toArray 5)) := (Fr.refl _ _).alloc _
  have HI := Lib.hid (is_calls (h.fr0 hF0))
  have hM0 := Lib.hid (h.fr0 hF0)
  have hlow := Lib.hid h.low
  have HN := Lib.hid hN
  obtain ⟨ha1, ha2⟩ := ha
  clear h hN
  go_enter Tryz.func47, Tryz.ntmps47
  go_upto_region 1 with fail
  go_cut [7] (fun s7 wx => s7 = .slice (some ⟨w.heap.size, 0, none⟩) N N ∧ wx = w.alloc (.cells (bys (zs N)).toArray 5))
  case first =>
    have hN := HN.out
    by_cases h1 : n < 0
    · obtain rfl : N = 0 := by omega
      have hmk : ∀ w : World, (Instr.makeSlice 22 (.int .i64 0) (.int .i64 0)).run Tryz.prog w = .ok (.slice (some ⟨w.heap.size, 0, none⟩) 0 0) (w.alloc (.cells (bys (zs 0)).toArray 5)) := fun w => mk_bytes w 0 (by omega)
      clear hN
      go_wp2_with fail
      go_meet
      exact ⟨rfl, rfl⟩
    · by_cases h2 : 8192 < n
      · obtain rfl : N = 8192 := by omega
        have hmk : ∀ w : World, (Instr.makeSlice 22 (.int .i64 8192) (.int .i64 8192)).run Tryz.prog w = .ok (.slice (some ⟨w.heap.size, 0, none⟩) 8192 8192) (w.alloc (.cells (bys (zs 8192)).toArray 5)) := fun w => mk_bytes w 8192 (by omega)
        generalize (bys (zs 8192)).toArray = cs at *
        clear hN
        go_wp2_with fail
        go_meet
        exact ⟨rfl, rfl⟩
      · obtain rfl : n = N := by omega
        have hmk : ∀ w : World, (Instr.makeSlice 22 (.int .i64 N) (.int .i64 N)).run Tryz.prog w = .ok (.slice (some ⟨w.heap.size, 0, none⟩) N N) (w.alloc (.cells (bys (zs N)).toArray 5)) := fun w => mk_bytes w N (by omega)
        generalize (bys (zs N)).toArray = cs at *
        clear hN
        go_wp2_with fail
        go_meet
        exact ⟨rfl, rfl⟩
  case rest =>
  obtain ⟨rfl, rfl⟩ := hcut
  generalize hW1 : w.alloc _ = W1 at *
  by_cases hbig : 8192 < a
  · have HL := Lib.hid (show loadF B a N = zs N from outN_out B a N (by omega) N (Nat.le_refl _))
    clear hW1
    go_wp2_with (go_at_call 88; ((with_reducible refine HI.out.mono ?_); rintro e w1 ⟨rfl, rfl⟩))
    go_ret
    exact ⟨_, A, rfl, ⟨hM0.out, hF0.no, Gr.refl _ _⟩, by rw [HL.out]; exact hR0, fun hA => Nat.lt_irrefl _ (hlow.out _ hA), Nat.le_refl _⟩
  · clear hW1
    go_wp2_with (go_at_call 88; ((with_reducible refine HI.out.mono ?_); rintro e w1 ⟨rfl, rfl⟩))
    go_loopw [24] (fun i wr => ∃ j : Nat, j ≤ N ∧ i = .int .i64 j ∧ ∃ A', Mp w mb A F B wr A' ∧ Row wr w.heap.size 5 (outN B a N j) ∧ ¬ A' w.heap.size) (fun i _ => N - (intOf i).toNat)
    case atStart => exact ⟨0, Nat.zero_le _, rfl, A, ⟨hM0.out, hF0.no, Gr.refl _ _⟩, hR0, fun hA => Nat.lt_irrefl _ (hlow.out _ hA)⟩
    case round =>
      obtain ⟨j, hj, rfl, A', hM, hR, hA⟩ := hrel
      by_cases hlt : j < N
      · have hw : IntKind.i64.wrap (a + (j : Int)) = a + j := IntWalk.i64_in _ (by omega)
        have hjl : j < (outN B a N j).length := by rw [outN_length]; exact hlt
        have HH := Lib.hid hM
        have HA := Lib.hid hA
        by_cases hin : 0 ≤ a + (j : Int) ∧ a + (j : Int) < 8192
        · obtain ⟨kk, hkk⟩ : ∃ kk : Nat, a + (j : Int) = kk := ⟨(a + (j : Int)).toNat, by omega⟩
          have hk : kk < 8192 := by omega
          have HC0 := at_calls hM.1 kk hk
          have hby : byteAt B (a + j) = B.getD kk 0 := by rw [byteAt, if_pos hin, hkk]; rfl
          obtain ⟨bv, hbv⟩ : ∃ bv, B.getD kk 0 = bv := ⟨_, rfl⟩
          have hbr := getD_range B hM.1.brange kk
          rw [hbv] at HC0 hby hbr
          have HBY := Lib.hid hby
          have HBV := Lib.hid hbv
          obtain ⟨r, hr⟩ : ∃ r, kk % 64 = r := ⟨_, rfl⟩
          rw [hr] at HC0
          have HC := Lib.hid HC0
          have hr1 : (kk : Int) % 64 = r := by omega
          have hr2 : Int.tmod (kk : Int) 64 = r := by rw [Int.tmod_eq_emod_of_nonneg (by omega)]; exact hr1
          have hr3 : r < 64 := by omega
          have HR := Lib.hid hR
          clear hM hby HC0 hr hin hA hR hbv
          rw [hkk] at hw
          go_wp2_with (go_at_call 89; ((with_reducible refine HC.out.mono ?_); rintro e w2 ⟨b, A2, rfl, hM2, hb2, hA2, hc, hf, hst⟩; have hR2 := HR.out.fr hM2.2.1 HA.out; have q1 := hR2.cell hjl; have q2 := hR2.frozen j; have HS := Lib.hid (hR2.set j bv); have HST := Lib.hid hst; clear hst hR2))
          go_roundw
          case rel =>
            have hFs : Fr (fun k => k = w.heap.size) w2 (w2.setCell ⟨w.heap.size, j, none⟩ (.int .u8 bv)) := (Fr.refl (fun k => k = w.heap.size) w2).setCell (p := ⟨w.heap.size, j, none⟩) (fun _ => rfl) _
            have hM3 := HH.out.trans hM2
            have hwl := HR.out.lt
            have hnA : ¬ A2 w.heap.size := fun h => by
              rcases hM2.2.2 _ h with h1 | h1
              · exact HA.out h1
              · omega
            refine ⟨j + 1, by omega, by go_num, A2, ⟨hM3.1.fr hFs (fun k e => by subst e; exact hnA), hM3.2.1.trans' hFs (fun i hi e => by omega), hM3.2.2⟩, ?_, hnA⟩
            rw [outN, HBY.out]; exact HS.out
          case measure => simp [intOf]; omega
        · have hsk := outN_skip B a N j hlt (by rw [byteAt, if_neg hin])
          have HSK := Lib.hid hsk
          have HR := Lib.hid hR
          by_cases h0 : 0 ≤ a + (j : Int)
          · have h1 : ¬ (a + (j : Int) < 8192) := fun h => hin ⟨h0, h⟩
            clear hin hsk hM hA hR
            go_wp2
            go_roundw
            case rel => exact ⟨j + 1, by omega, by go_num, A', HH.out, by rw [HSK.out]; exact HR.out, HA.out⟩
            case measure => simp [intOf]; omega
          · clear hin hsk hM hA hR
            go_wp2
            go_roundw
            case rel => exact ⟨j + 1, by omega, by go_num, A', HH.out, by rw [HSK.out]; exact HR.out, HA.out⟩
            case measure => simp [intOf]; omega
      · have HH := Lib.hid hM
        have HA := Lib.hid hA
        have HR := Lib.hid hR
        clear hM hA hR
        go_wp2
        go_ret
        exact ⟨_, A', rfl, HH.out, by rw [loadF, show N = j by omega]; rw [show N = j by omega] at HR; exact HR.out, HA.out, Nat.le_refl _⟩
end Go.Proofs.YtoajnmbbgbpbgaaGreat
namespace Go.Proofs.YtoajnmbbgbpbgaaGreat
set_option linter.unusedVariables false
set_option linter.unusedSimpArgs false
open Go.RowKit Go.Shelf Go.Maps

/-- Bytes laid down from a on, the first i of them. -/
def layN (B : List Int) (a : Int) (l : List Int) : Nat → List Int
  | 0 => B
  | i + 1 => if 0 ≤ a + (i : Int) ∧ a + (i : Int) < 8192 then (layN B a l i).set (a + (i : Int)).toNat (l.getD i 0) else layN B a l i
def layF (B : List Int) (a : Int) (l : List Int) : List Int := layN B a l l.length
theorem layN_length (B : List Int) (a : Int) (l : List Int) (i : Nat) : (layN B a l i).length = B.length := by
  induction i with
  | zero => rfl
  | succ i ih => rw [layN]; split
                 · rw [List.length_set, ih]
                 · exact ih
theorem layN_out (B : List Int) (a : Int) (l : List Int) (h : 8192 < a) (i : Nat) : layN B a l i = B := by
  induction i with
  | zero => rfl
  | succ i ih => rw [layN, if_neg (by omega), ih]
theorem layN_get (B : List Int) (hB : B.length = 8192) (a : Int) (l : List Int) (i : Nat) (x : Nat) (hx : x < 8192) : (layN B a l i).getD x 0 = if a ≤ x ∧ (x : Int) < a + i then l.getD ((x : Int) - a).toNat 0 else B.getD x 0 := by
  induction i with
  | zero => rw [layN, if_neg (by omega)]
  | succ i ih =>
    rw [layN]
    by_cases h : 0 ≤ a + (i : Int) ∧ a + (i : Int) < 8192
    · rw [if_pos h, set_get _ _ _ _ (by rw [layN_length, hB]; omega), ih]
      by_cases e : x = (a + (i : Int)).toNat
      · rw [if_pos e, if_pos (by omega), show ((x : Int) - a).toNat = i by omega]
      · rw [if_neg e]
        by_cases h2 : a ≤ x ∧ (x : Int) < a + i
        · rw [if_pos h2, if_pos (by omega)]
        · rw [if_neg h2, if_neg (by omega)]
    · rw [if_neg h, ih]
      by_cases h2 : a ≤ x ∧ (x : Int) < a + i
      · rw [if_pos h2, if_pos (by omega)]
      · rw [if_neg h2, if_neg (by omega)]

set_option maxHeartbeats 1000000 in
set_option maxRecDepth 1000000 in
theorem lay_calls {w : World} {mb : Nat} {A : Nat → Prop} {F B : List Int} (h : MemAt w mb A F B) (a : Int) (v : Value) (l : List Int) (hv : Sl w v l.length (bys l)) (hvA : ∀ k, v.ownBlock = some k → l ≠ [] → ¬ A k) (h0 : ∀ b ∈ l, 0 ≤ b ∧ b < 256) (hlen : l.length ≤ 9223372036854775807) (ha : -9223372036854775808 ≤ a ∧ a ≤ 9223372036854775807) :
    Calls Tryz.prog 41 #[.pointer (some ⟨mb, 0, none⟩), .int .i64 a, v] w fun e w' => ∃ A', e = .returned (.tuple #[]) ∧ Mp w mb A F (layF B a l) w' A' := by
  obtain ⟨av, cap, rfl⟩ := hv.form
  have HI := Lib.hid (is_calls h)
  have HM := Lib.hid h
  obtain ⟨ha1, ha2⟩ := ha
  clear h
  by_cases hbig : 8192 < a
  · have hl : layF B a l = B := layN_out B a l hbig _
    have HL := Lib.hid hl
    clear hl hv hvA h0
    go_enter Tryz.func41, Tryz.ntmps41
    go_wp2_with (go_at_call 88; ((with_reducible refine HI.out.mono ?_); rintro e w1 ⟨rfl, rfl⟩))
    refine bodyPost_ret (results_none rfl _ _ _) rfl ?_
    exact ⟨A, rfl, by rw [HL.out]; exact Mp.refl HM.out⟩
  · go_enter Tryz.func41, Tryz.ntmps41
    go_wp2_with (go_at_call 88; ((with_reducible refine HI.out.mono ?_); rintro e w1 ⟨rfl, rfl⟩))
    go_loopw [18] (fun i wr => ∃ j : Nat, j ≤ l.length ∧ i = .int .i64 j ∧ ∃ A', Mp w mb A F (layN B a l j) wr A') (fun i _ => l.length - (intOf i).toNat)
    case atStart => exact ⟨0, Nat.zero_le _, rfl, A, Mp.refl HM.out⟩
    case round =>
      obtain ⟨j, hj, rfl, A', hM⟩ := hrel
      by_cases hlt : j < l.length
      · obtain ⟨vb, off, rfl, hvb, hc⟩ := hv.at (bys_ne l j hlt)
        have c1 := hM.2.1.cell (hc _ _ (bys_get _ _ hlt)) (hvA _ rfl (fun e => by rw [e] at hlt; simp at hlt))
        have hxr := h0 _ (List.getElem_mem hlt)
        have hg : l.getD j 0 = l[j] := by simp [List.getD, hlt]
        revert c1 hxr hg
        generalize l[j] = x
        intro c1 hxr hg
        have HG := Lib.hid hg
        have HXR := Lib.hid hxr
        have HH := Lib.hid hM
        have HVA := Lib.hid hvA
        by_cases hov : 9223372036854775807 < a + (j : Int)
        · have hst : layN B a l (j + 1) = layN B a l j := by rw [layN, if_neg (by omega)]
          have HST0 := Lib.hid hst
          have hw : IntKind.i64.wrap (a + (j : Int)) = a + j - 18446744073709551616 := by rw [IntKind.wrap_i64]; omega
          have h1 : ¬ 0 ≤ a + (j : Int) - 18446744073709551616 := by omega
          clear hM hvA hg hxr hst hv hc h0
          go_wp2
          go_roundw
          case rel => exact ⟨j + 1, by omega, by go_num, A', by rw [HST0.out]; exact HH.out⟩
          case measure => simp [intOf]; omega
        have hw : IntKind.i64.wrap (a + (j : Int)) = a + j := IntWalk.i64_in _ (by omega)
        by_cases hin : 0 ≤ a + (j : Int) ∧ a + (j : Int) < 8192
        · have hst : layN B a l (j + 1) = (layN B a l j).set (a + (j : Int)).toNat x := by rw [layN, if_pos hin, hg]
          obtain ⟨kk, hkk⟩ : ∃ kk : Nat, a + (j : Int) = kk := ⟨(a + (j : Int)).toNat, by omega⟩
          rw [hkk, Int.toNat_natCast] at hst
          have hk : kk < 8192 := by omega
          have HC0 := at_calls hM.1 kk hk
          obtain ⟨r, hr⟩ : ∃ r, kk % 64 = r := ⟨_, rfl⟩
          rw [hr] at HC0
          have HC := Lib.hid HC0
          have HST0 := Lib.hid hst
          have hr1 : (kk : Int) % 64 = r := by omega
          have hr2 : Int.tmod (kk : Int) 64 = r := by rw [Int.tmod_eq_emod_of_nonneg (by omega)]; exact hr1
          have hr3 : r < 64 := by omega
          rw [hkk] at hw
          clear hM HC0 hr hin hvA hg hxr hst hv hc h0
          go_wp2_with (go_at_call 89; ((with_reducible refine HC.out.mono ?_); rintro e w2 ⟨b, A2, rfl, hM2, hb2, hA2, hc2, hf2, hst2⟩; have HST := Lib.hid hst2; clear hst2))
          go_roundw
          case rel =>
            have hFs : Fr (fun k => k = b) w2 (w2.setCell ⟨b, 64 + r, none⟩ (.int .u8 x)) := (Fr.refl (fun k => k = b) w2).setCell (p := ⟨b, 64 + r, none⟩) (fun _ => rfl) _
            have hM3 := HH.out.trans hM2
            refine ⟨j + 1, by omega, by go_num, A2, ?_, ?_, hM3.2.2⟩
            · rw [HST0.out]; exact HST.out x HXR.out
            · exact hM3.2.1.trans' hFs (fun i hi e => by
                subst e
                rcases hM3.2.2 _ hb2 with h1 | h1
                · exact h1
                · omega)
          case measure => simp [intOf]; omega
        · have hst : layN B a l (j + 1) = layN B a l j := by rw [layN, if_neg hin]
          have HST0 := Lib.hid hst
          by_cases h0' : 0 ≤ a + (j : Int)
          · have h1 : ¬ (a + (j : Int) < 8192) := fun h => hin ⟨h0', h⟩
            clear hin hM hvA hg hxr hst hv hc h0
            go_wp2
            go_roundw
            case rel => exact ⟨j + 1, by omega, by go_num, A', by rw [HST0.out]; exact HH.out⟩
            case measure => simp [intOf]; omega
          · clear hin hM hvA hg hxr hst hv hc h0
            go_wp2
            go_roundw
            case rel => exact ⟨j + 1, by omega, by go_num, A', by rw [HST0.out]; exact HH.out⟩
            case measure => simp [intOf]; omega
      · have HH := Lib.hid hM
        clear hM hv hvA h0
        go_wp2
        go_end0
        exact ⟨A', rfl, by rw [layF, show l.length = j by omega]; exact HH.out⟩
end Go.Proofs.YtoajnmbbgbpbgaaGreat
namespace Go.Proofs.YtoajnmbbgbpbgaaGreat
set_option linter.unusedVariables false
set_option linter.unusedSimpArgs false
open Go.RowKit Go.Shelf Go.Maps

/-- A cell's bytes. -/
def cellF (n : Int) : List Int := putL (zs 8) 0 (IntKind.u64.wrap n) 8
theorem cellF_length (n : Int) : (cellF n).length = 8 := by rw [cellF, putL_length, zs_length]
theorem zs_rng (k : Nat) : ∀ b ∈ zs k, 0 ≤ b ∧ b < 256 := fun b hb => by simp only [zs, List.mem_replicate] at hb; omega
theorem cellF_range (n : Int) : ∀ b ∈ cellF n, 0 ≤ b ∧ b < 256 := putL_range _ _ _ _ (zs_rng 8)
theorem u64_range (n : Int) : 0 ≤ IntKind.u64.wrap n ∧ IntKind.u64.wrap n < 18446744073709551616 := by rw [IntKind.wrap_u64]; omega

set_option maxRecDepth 1000000 in
theorem leput_calls (v : Value) (w : World) (n : Int) (hv : Sl w v 8 (bys (zs 8))) :
    Calls Tryz.prog 120 #[v, .int .i64 0, .int .i64 n] w fun e w' => ∃ r, e = .returned r ∧ Fr No w w' ∧ w'.ownsRow w.heap.size 5 1 r 8 (bys (cellF n)) := by
  have HC : Calls Tryz.prog 90 #[v, .int .i64 0, .int .i64 8, .int .u64 (IntKind.u64.wrap n)] w _ := put_calls v (zs 8) 0 8 (IntKind.u64.wrap n) w (by omega) (by rw [zs_length]; omega) (by rw [zs_length]; omega) (u64_range n) (by rw [zs_length]; omega) (by rw [zs_length]; exact hv)
  have HC' := Lib.hid HC
  clear HC
  obtain ⟨a, cap, rfl⟩ := hv.form
  clear hv
  go_enter Tryz.func120, Tryz.ntmps120
  go_wp2_with (go_at_call 90; ((with_reducible refine HC'.out.mono ?_); rintro e w1 ⟨r, rfl, hF, hr⟩))
  go_ret
  rw [zs_length] at hr
  exact ⟨r, rfl, hF, hr⟩

set_option maxRecDepth 1000000 in
theorem lecell_calls (v : Value) (l : List Int) (w : World) (hl : l.length = 8) (h0 : ∀ b ∈ l, 0 ≤ b ∧ b < 256) (hv : Sl w v 8 (bys l)) :
    Calls Tryz.prog 112 #[v, .int .i64 0] w fun e w' => e = .returned (.int .i64 (wrap64 (numL l 0 8))) ∧ Fr No w w' := by
  have HC : Calls Tryz.prog 127 #[v, .int .i64 0, .int .i64 8] w _ := num_calls v l 0 8 w (by omega) (by omega) (by omega) h0 (by omega) (by rw [hl]; exact hv)
  have HC' := Lib.hid HC
  clear HC
  obtain ⟨a, cap, rfl⟩ := hv.form
  clear hv hl h0
  go_enter Tryz.func112, Tryz.ntmps112
  go_wp2_with (go_at_call 127; ((with_reducible refine HC'.out.mono ?_); rintro e w1 ⟨rfl, hF⟩))
  go_ret
  exact ⟨rfl, hF⟩

/-- The cell at a place. -/
def getF (B : List Int) (a : Int) : Int := wrap64 (numL (loadF B a 8) 0 8)
/-- A cell stored. -/
def setF (B : List Int) (a n : Int) : List Int := layF B a (cellF n)

set_option maxRecDepth 1000000 in
theorem get_calls {w : World} {mb : Nat} {A : Nat → Prop} {F B : List Int} (h : MemAt w mb A F B) (a : Int) (ha : -9223372036854775808 ≤ a ∧ a ≤ 9223372036854775807) :
    Calls Tryz.prog 86 #[.pointer (some ⟨mb, 0, none⟩), .int .i64 a] w fun e w' => ∃ A', e = .returned (.int .i64 (getF B a)) ∧ Mp w mb A F B w' A' := by
  have HC : Calls Tryz.prog 47 #[.pointer (some ⟨mb, 0, none⟩), .int .i64 a, .int .i64 8] w _ := load_calls h a 8 8 (by decide) ha
  have HC' := Lib.hid HC
  have hB := h.brange
  have HL := Lib.hid (fun (b : Nat) (w1 : World) (hR : Row w1 b 5 (loadF B a 8)) => lecell_calls (.slice (some ⟨b, 0, none⟩) 8 8) (loadF B a 8) w1 (loadF_length _ _ _) (loadF_range B hB a 8) (by have := hR.sl; rw [loadF_length] at this; exact this))
  clear HC h hB
  go_enter Tryz.func86, Tryz.ntmps86
  go_wp2_with fail
  refine HC'.out.mono ?_
  rintro e w1 ⟨b, A', rfl, hM, hR, hn, hlt⟩
  go_wp2_with fail
  refine (HL.out b w1 hR).mono ?_
  rintro e w2 ⟨rfl, hF⟩
  go_wp2
  go_ret
  exact ⟨A', rfl, hM.thenFr hF⟩

set_option maxRecDepth 1000000 in
theorem mset_calls {w : World} {mb : Nat} {A : Nat → Prop} {F B : List Int} (h : MemAt w mb A F B) (a n : Int) (ha : -9223372036854775808 ≤ a ∧ a ≤ 9223372036854775807) :
    Calls Tryz.prog 95 #[.pointer (some ⟨mb, 0, none⟩), .int .i64 a, .int .i64 n] w fun e w' => ∃ A', e = .returned (.tuple #[]) ∧ Mp w mb A F (setF B a n) w' A' := by
  have hmk : ∀ w : World, (Instr.makeSlice 22 (.int .i64 8) (.int .i64 8)).run Tryz.prog w = .ok (.slice (some ⟨w.heap.size, 0, none⟩) 8 8) (w.alloc (.cells (bys (zs 8)).toArray 5)) := fun w => mk_bytes w 8 (by omega)
  have hF0 : Fr No w (w.alloc (.cells (bys (zs 8)).toArray 5)) := (Fr.refl _ _).alloc _
  have hM0 := h.fr0 hF0
  have HC := Lib.hid (leput_calls (.slice (some ⟨w.heap.size, 0, none⟩) 8 8) (w.alloc (.cells (bys (zs 8)).toArray 5)) n (Row.new w 5 (zs 8)).sl)
  have hlow := Lib.hid h.low
  have hM0' := Lib.hid hM0
  clear h hM0
  go_enter Tryz.func95, Tryz.ntmps95
  go_wp2_with fail
  refine HC.out.mono ?_
  rintro e w1 ⟨r, rfl, hF1, hr⟩
  have hM1 := hM0'.out.fr0 hF1
  have hA : ∀ k, r.ownBlock = some k → ¬ A k := fun k e hk => by
    have h1 := (hr.lt k e).1
    have h2 := hlow.out k hk
    simp at h1; omega
  have hsl := Sl.of_owns hr
  have HL := Lib.hid (lay_calls hM1 a r (cellF n) (by rw [cellF_length]; exact hsl) (fun k e _ => hA k e) (cellF_range n) (by rw [cellF_length]; omega) ha)
  obtain ⟨ar, capr, rfl⟩ := hsl.form
  have hF01 := hF0.trans hF1
  clear hmk hr hM1 hA hsl
  go_wp2_with fail
  refine HL.out.mono ?_
  rintro e w2 ⟨A', rfl, hM⟩
  go_wp2
  go_end0
  exact ⟨A', rfl, hM.1, hF01.no.trans' hM.2.1 (fun i hi h => h), fun j hj => by
    rcases hM.2.2 j hj with h1 | h1
    · exact .inl h1
    · exact .inr (Nat.le_trans hF01.size h1)⟩

/-- All bytes. -/
theorem load_all (B : List Int) (N : Nat) (hB : B.length = N) (hN : N ≤ 8192) : loadF B 0 N = B := by
  apply List.ext_getElem?
  intro i
  rcases Nat.lt_or_ge i N with h | h
  · have h1 := loadF_get B 0 N i h
    have h2 : i < (loadF B 0 N).length := by rw [loadF_length]; exact h
    have h3 : i < B.length := by omega
    rw [byteAt, if_pos (by omega)] at h1
    rw [show ((0 : Int) + (i : Int)).toNat = i by omega] at h1
    rw [List.getElem?_eq_getElem h2, List.getElem?_eq_getElem h3]
    simpa [List.getD, h2, h3] using h1
  · rw [List.getElem?_eq_none (by rw [loadF_length]; exact h), List.getElem?_eq_none (by omega)]

set_option maxRecDepth 1000000 in
theorem bytes_calls {w : World} {mb : Nat} {A : Nat → Prop} {F B : List Int} (h : MemAt w mb A F B) :
    Calls Tryz.prog 16 #[.pointer (some ⟨mb, 0, none⟩)] w fun e w' => ∃ b A', e = .returned (.slice (some ⟨b, 0, none⟩) 8192 8192) ∧ Mp w mb A F B w' A' ∧ Row w' b 5 B ∧ ¬ A' b ∧ w.heap.size ≤ b := by
  have HC : Calls Tryz.prog 47 #[.pointer (some ⟨mb, 0, none⟩), .int .i64 0, .int .i64 8192] w _ := load_calls h 0 8192 8192 (by decide) (by omega)
  have HC' := Lib.hid HC
  have HB := Lib.hid (load_all B 8192 h.blen (Nat.le_refl _))
  clear HC h
  go_enter Tryz.func16, Tryz.ntmps16
  go_wp2_with fail
  refine HC'.out.mono ?_
  rintro e w1 ⟨b, A', rfl, hM, hR, hn, hlt⟩
  go_wp2
  go_ret
  exact ⟨b, A', rfl, hM, by rw [HB.out] at hR; exact hR, hn, hlt⟩

/-- What 'inside' tells. -/
def insF (a size low high : Int) : Int := if a < low ∨ a > high - size then -9 else if a % size ≠ 0 then -23 else 0
end Go.Proofs.YtoajnmbbgbpbgaaGreat
namespace Go.Proofs.YtoajnmbbgbpbgaaGreat
set_option linter.unusedVariables false
set_option linter.unusedSimpArgs false
open Go.RowKit Go.Shelf Go.Maps

/-- PutCell's throw, and the bytes behind it. -/
def putT (a : Int) : Int := if a = 16 then 0 else insF a 8 768 5632
def putB (B : List Int) (a n : Int) : List Int := if putT a = 0 then setF B a n else B

end Go.Proofs.YtoajnmbbgbpbgaaGreat
namespace Go.Proofs.YtoajnmbbgbpbgaaGreat
set_option linter.unusedVariables false
set_option linter.unusedSimpArgs false
open Go.RowKit Go.Shelf Go.Maps

/-- The bytes of a memory that is made of bytes. -/
def flatF (l : List Int) : List Int := spl (zs 8192) 0 (l.take 8192)
theorem flatF_length (l : List Int) : (flatF l).length = 8192 := by
  rw [flatF, spl_length _ _ _ (by rw [zs_length, List.length_take]; omega), zs_length]
theorem spl_range (l m : List Int) (o : Nat) (h1 : ∀ b ∈ l, 0 ≤ b ∧ b < 256) (h2 : ∀ b ∈ m, 0 ≤ b ∧ b < 256) : ∀ b ∈ spl l o m, 0 ≤ b ∧ b < 256 := fun b hb => by
  simp only [spl, List.mem_append] at hb
  rcases hb with (h | h) | h
  · exact h1 b (List.mem_of_mem_take h)
  · exact h2 b h
  · exact h1 b (List.mem_of_mem_drop h)
theorem flatF_range (l : List Int) (h : ∀ b ∈ l, 0 ≤ b ∧ b < 256) : ∀ b ∈ flatF l, 0 ≤ b ∧ b < 256 :=
  spl_range _ _ _ (zs_rng _) (fun b hb => h b (List.mem_of_mem_take hb))

theorem miss_none : miss (fun _ => none) = 128 := (congrArg List.length (List.filter_eq_self.2 (fun a _ => rfl))).trans List.length_range
theorem MemIn.fresh {w : World} {mb fb pm : Nat} {F : List Int} (hbox : w.heap[mb]? = some (.cells #[.pointer none, .map (some pm), .slice (some ⟨fb, 0, none⟩) 8192 8192] 52 (0, 0))) (hF : Row w fb 5 F) (hl : F.length = 8192) (hr : ∀ b ∈ F, 0 ≤ b ∧ b < 256)
    (hm : w.ownsMap Tryz.prog 3 heldR pm 0 (.map [])) : MemIn w mb fb pm 0 (.map []) (fun _ => none) (fun j => j = fb ∨ j = pm ∨ j = mb) F F where
  box := hbox
  first := hF
  flen := hl
  blen := hl
  frange := hr
  brange := hr
  map := hm
  cnt := by rw [miss_none]; omega
  has := fun p hp => rfl
  only := fun kl h => by cases h
  get := fun p b hp hb => by cases hb
  held := fun p b hp hb => by cases hb
  none_ := fun p hp hb => rfl
  inj := fun p q b hp hq hb _ => by cases hb
  amb := .inr (.inr rfl)
  afb := .inl rfl
  apm := .inr (.inl rfl)
  low := fun j hj => by
    rcases hj with rfl | rfl | rfl
    · exact hF.lt
    · exact hm.lt
    · exact heap_lt hbox

set_option maxHeartbeats 1000000 in
set_option maxRecDepth 1000000 in
theorem flat_calls (v : Value) (l : List Int) (w : World) (h0 : ∀ b ∈ l, 0 ≤ b ∧ b < 256) (hv : Sl w v l.length (bys l)) :
    Calls Tryz.prog 7 #[v] w fun e w' => ∃ mb A, e = .returned (.pointer (some ⟨mb, 0, none⟩)) ∧ MemAt w' mb A (flatF l) (flatF l) ∧ Fr No w w' ∧ ∀ j, A j → w.heap.size ≤ j := by
  obtain ⟨a, cap, rfl⟩ := hv.form
  have hmk : ∀ w : World, (Instr.makeSlice 22 (.int .i64 8192) (.int .i64 8192)).run Tryz.prog w = .ok (.slice (some ⟨w.heap.size, 0, none⟩) 8192 8192) (w.alloc (.cells (bys (zs 8192)).toArray 5)) := fun w => mk_bytes w 8192 (by omega)
  have hR0 : Row (w.alloc (.cells (bys (zs 8192)).toArray 5)) w.heap.size 5 (zs 8192) := Row.new _ _ _
  have hF0 : Fr No w (w.alloc (.cells (bys (zs 8192)).toArray 5)) := (Fr.refl _ _).alloc _
  obtain ⟨W2, hR2, hF2, hcp⟩ := hR0.copyAny l a 0 8192 8192 cap (hv.fr0 hF0) (by rw [zs_length]; omega)
  have HR2 := Lib.hid (show Row W2 w.heap.size 5 (flatF l) from hR2)
  have HF2 := Lib.hid (show Fr No w W2 from hF0.trans' hF2 (fun i hi e => by omega))
  have HL := Lib.hid (flatF_length l)
  have HRG := Lib.hid (flatF_range l h0)
  have hmm := @run_makeMap Tryz.prog
  clear hR0 hF0 hR2 hF2 h0 hv
  generalize (bys (zs 8192)).toArray = cs at *
  generalize flatF l = F at *
  go_enter Tryz.func7, Tryz.ntmps7
  go_wp2
  have hM0 := World.ownsMap_made W2 Tryz.prog 3 heldR
  have hF3 : Fr No W2 ((W2.alloc (Obj.map #[] 0)).alloc (Obj.cells #[.pointer none, .map (some W2.heap.size), .slice (some ⟨w.heap.size, 0, none⟩) 8192 8192] 52)) := ((Fr.refl _ _).alloc _).alloc _
  have hbx := heap_new (W2.alloc (Obj.map #[] 0)) (Obj.cells #[.pointer none, .map (some W2.heap.size), .slice (some ⟨w.heap.size, 0, none⟩) 8192 8192] 52)
  rw [show (W2.alloc (Obj.map #[] 0)).heap.size = W2.heap.size + 1 by simp] at hbx
  have hsz := HF2.out.size
  go_ret
  exact ⟨_, _, rfl, ⟨_, _, _, _, _, MemIn.fresh hbx (HR2.out.fr hF3 (fun h => h)) HL.out HRG.out (hM0.alloc _)⟩, HF2.out.trans hF3, fun j hj => by
    rcases hj with rfl | rfl | rfl <;> omega⟩

/-- The reference's memory: its box rb, the block g of its bytes, the block gw of what they were. -/
def RefAt (w : World) (rb : Nat) (R : Nat → Prop) (F B : List Int) : Prop :=
  ∃ g cap gw, w.heap[rb]? = some (.cells #[.slice (some ⟨g, 0, none⟩) 8192 cap, .slice (some ⟨gw, 0, none⟩) 8192 8192, .bool false] 43 (0, 0)) ∧
    w.ownsRow 0 5 1 (.slice (some ⟨g, 0, none⟩) 8192 cap) 8192 (bys B) ∧ Row w gw 5 F ∧ g ≠ gw ∧ R rb ∧ R g ∧ R gw ∧ (∀ j, R j → j < w.heap.size) ∧ B.length = 8192 ∧ (∀ b ∈ B, 0 ≤ b ∧ b < 256)
theorem Row.owns {w : World} {g : Nat} {l : List Int} (h : Row w g 5 l) (n : Nat) (hn : l.length = n) (hm : n ≤ maxLen) : w.ownsRow 0 5 1 (.slice (some ⟨g, 0, none⟩) n n) n (bys l) := by
  subst hn
  exact ⟨by rw [bys_len, Nat.mul_one], .inr ⟨g, l.length, (bys l).toArray, rfl, Nat.zero_le _, h, Nat.le_refl _, hm, by simp [bys], by rw [Nat.mul_one]; exact List.take_of_length_le (by simp [bys])⟩⟩

set_option maxHeartbeats 1000000 in
set_option maxRecDepth 1000000 in
theorem rflat_calls (v : Value) (l : List Int) (w : World) (h0 : ∀ b ∈ l, 0 ≤ b ∧ b < 256) (hv : Sl w v l.length (bys l)) :
    Calls Tryz.prog 8 #[v] w fun e w' => ∃ rb R, e = .returned (.pointer (some ⟨rb, 0, none⟩)) ∧ RefAt w' rb R (flatF l) (flatF l) ∧ Fr No w w' ∧ ∀ j, R j → w.heap.size ≤ j := by
  obtain ⟨a, cap, rfl⟩ := hv.form
  have hmk : ∀ w : World, (Instr.makeSlice 22 (.int .i64 8192) (.int .i64 8192)).run Tryz.prog w = .ok (.slice (some ⟨w.heap.size, 0, none⟩) 8192 8192) (w.alloc (.cells (bys (zs 8192)).toArray 5)) := fun w => mk_bytes w 8192 (by omega)
  have HV := Lib.hid (fun w1 (h : Fr No w w1) => hv.fr0 h)
  have HRG := Lib.hid (flatF_range l h0)
  obtain ⟨cs, hcs⟩ : ∃ cs, (bys (zs 8192)).toArray = cs := ⟨_, rfl⟩
  rw [hcs] at hmk
  have HCS := Lib.hid hcs
  clear h0 hv hcs
  go_enter Tryz.func8, Tryz.ntmps8
  go_upto_region 1 with fail
  go_cut [3] (fun s3 wx => ∃ rb g gw : Nat, s3 = .pointer (some ⟨rb, 0, none⟩) ∧ wx.heap[rb]? = some (.cells #[.slice (some ⟨g, 0, none⟩) 8192 8192, .slice (some ⟨gw, 0, none⟩) 8192 8192, .bool false] 43 (0, 0)) ∧
    wx.heap[g]? = some (.cells cs 5 (0, 0)) ∧ wx.heap[gw]? = some (.cells cs 5 (0, 0)) ∧ g ≠ gw ∧ w.heap.size ≤ rb ∧ w.heap.size ≤ g ∧ w.heap.size ≤ gw ∧ Fr No w wx)
  case first =>
    have e1 : (w.alloc (Obj.cells cs 5)).heap.size = w.heap.size + 1 := by simp
    have e2 : ((w.alloc (Obj.cells cs 5)).alloc (Obj.cells cs 5)).heap.size = w.heap.size + 1 + 1 := by simp
    have X1 := Lib.hid (fun o3 => heap_alloc o3 (heap_alloc (Obj.cells cs 5) (heap_new w (Obj.cells cs 5))))
    have X2 := fun o3 => heap_alloc o3 (heap_new (w.alloc (Obj.cells cs 5)) (Obj.cells cs 5))
    have X3 := fun o3 => heap_new ((w.alloc (Obj.cells cs 5)).alloc (Obj.cells cs 5)) o3
    simp only [e1] at X2
    simp only [e2] at X3
    have X2' := Lib.hid X2
    have X3' := Lib.hid X3
    clear X2 X3 e1 e2
    go_region
    all_goals (go_wp2_with fail; go_meet; first
      | exact ⟨_, w.heap.size, w.heap.size + 1, rfl, X3'.out _, X1.out _, X2'.out _, by omega, by omega, by omega, by omega, ((((Fr.refl No w).alloc _).alloc _).alloc _).drew⟩
      | exact ⟨_, w.heap.size + 1, w.heap.size, rfl, X3'.out _, X2'.out _, X1.out _, by omega, by omega, by omega, by omega, ((((Fr.refl No w).alloc _).alloc _).alloc _).drew⟩
      | fail "shape")
  case rest =>
  obtain ⟨rb, g, gw, rfl, hb, hg, hgw, hne, l1, l2, l3, hF⟩ := hcut
  have n1 : rb ≠ g := fun e => by subst e; exact absurd (heap_ty hb hg) (by decide)
  have n2 : rb ≠ gw := fun e => by subst e; exact absurd (heap_ty hb hgw) (by decide)
  have hRg : Row wc g 5 (zs 8192) := by rw [Row, HCS.out]; exact hg
  have hRw : Row wc gw 5 (zs 8192) := by rw [Row, HCS.out]; exact hgw
  obtain ⟨W2, hR2, hF2, hcp2⟩ := hRg.copyAny l a 0 8192 8192 cap (HV.out _ hF) (by rw [zs_length]; omega)
  have hF02 : Fr No w W2 := hF.trans' hF2 (fun i hi e => by omega)
  obtain ⟨W3, hR3, hF3, hcp3⟩ := (hRw.fr hF2 (fun e => hne e.symm)).copyAny l a 0 8192 8192 cap (HV.out _ hF02) (by rw [zs_length]; omega)
  have hF03 : Fr No w W3 := hF02.trans' hF3 (fun i hi e => by omega)
  have c0 := heap_cell (o := 0) hb rfl
  have c1 := hF2.cell (heap_cell (o := 1) hb rfl) n1
  have hb3 := Lib.hid (hF3.heap (hF2.heap hb n1) n2)
  have HR2 := Lib.hid (show Row W3 g 5 (flatF l) from hR2.fr hF3 hne)
  have HR3 := Lib.hid (show Row W3 gw 5 (flatF l) from hR3)
  have hmx : 8192 ≤ maxLen := by unfold maxLen; omega
  have HMX := Lib.hid hmx
  have HFL := Lib.hid (flatF_length l)
  clear hRg hRw hR2 hR3 hF2 hF3 hb hg hgw hmk HCS HV hF hF02 hmx
  generalize (l.take 8192).length = m at *
  go_wp2
  go_ret
  exact ⟨rb, fun j => j = rb ∨ j = g ∨ j = gw, rfl, ⟨g, 8192, gw, hb3.out, HR2.out.owns 8192 HFL.out HMX.out, HR3.out, hne, .inl rfl, .inr (.inl rfl), .inr (.inr rfl), fun j hj => by
    rcases hj with rfl | rfl | rfl
    · exact heap_lt hb3.out
    · exact HR2.out.lt
    · exact HR3.out.lt, HFL.out, HRG.out⟩, hF03, fun j hj => by
    rcases hj with rfl | rfl | rfl <;> assumption⟩
end Go.Proofs.YtoajnmbbgbpbgaaGreat
namespace Go.Proofs.YtoajnmbbgbpbgaaGreat
set_option linter.unusedVariables false
set_option linter.unusedSimpArgs false
open Go.RowKit Go.Shelf Go.Maps

structure RefIn (w : World) (rb g cap gw : Nat) (R : Nat → Prop) (F B : List Int) : Prop where
  box : w.heap[rb]? = some (.cells #[.slice (some ⟨g, 0, none⟩) 8192 cap, .slice (some ⟨gw, 0, none⟩) 8192 8192, .bool false] 43 (0, 0))
  row : w.ownsRow 0 5 1 (.slice (some ⟨g, 0, none⟩) 8192 cap) 8192 (bys B)
  was : Row w gw 5 F
  ne : g ≠ gw
  rrb : R rb
  rg : R g
  rgw : R gw
  low : ∀ j, R j → j < w.heap.size
  blen : B.length = 8192
  brange : ∀ b ∈ B, 0 ≤ b ∧ b < 256
theorem RefAt.inn {w : World} {rb : Nat} {R : Nat → Prop} {F B : List Int} (h : RefAt w rb R F B) : ∃ g cap gw, RefIn w rb g cap gw R F B := by
  obtain ⟨g, cap, gw, h1, h2, h3, h4, h5, h6, h7, h8, h9, h10⟩ := h
  exact ⟨g, cap, gw, h1, h2, h3, h4, h5, h6, h7, h8, h9, h10⟩
theorem RefIn.at {w : World} {rb g cap gw : Nat} {R : Nat → Prop} {F B : List Int} (h : RefIn w rb g cap gw R F B) : RefAt w rb R F B :=
  ⟨g, cap, gw, h.box, h.row, h.was, h.ne, h.rrb, h.rg, h.rgw, h.low, h.blen, h.brange⟩
theorem RefIn.rbg {w : World} {rb g cap gw : Nat} {R : Nat → Prop} {F B : List Int} (h : RefIn w rb g cap gw R F B) : rb ≠ g := fun e => by
  exact absurd e.symm (fun e2 => by
    have := not_row h.box (by decide) h.row
    exact this (by simp [Value.ownBlock, e2]))
theorem RefIn.fr {S : Nat → Prop} {w w' : World} {rb g cap gw : Nat} {R : Nat → Prop} {F B : List Int} (h : RefIn w rb g cap gw R F B) (hF : Fr S w w') (hn : ∀ k, S k → ¬ R k) : RefIn w' rb g cap gw R F B where
  box := hF.heap h.box (fun hs => hn _ hs h.rrb)
  row := hF.ownsRow h.row (fun k e hs => hn _ hs (by cases e; exact h.rg))
  was := h.was.fr hF (fun hs => hn _ hs h.rgw)
  ne := h.ne
  rrb := h.rrb
  rg := h.rg
  rgw := h.rgw
  low := fun j hj => Nat.lt_of_lt_of_le (h.low j hj) hF.size
  blen := h.blen
  brange := h.brange
theorem RefIn.store {w : World} {rb g cap gw : Nat} {R : Nat → Prop} {F B : List Int} (h : RefIn w rb g cap gw R F B) (k : Nat) (hk : k < 8192) (x : Int) (hx : 0 ≤ x ∧ x < 256) : RefIn (w.setCell ⟨g, k, none⟩ (.int .u8 x)) rb g cap gw R F (B.set k x) := by
  have hF : Fr (fun j => j = g) w (w.setCell ⟨g, k, none⟩ (.int .u8 x)) := (Fr.refl (fun j => j = g) w).setCell (p := ⟨g, k, none⟩) (fun _ => rfl) (.int .u8 x)
  have hst := h.row.stored k (.int .u8 x)
  rw [bys_set] at hst
  exact
  { box := hF.heap h.box h.rbg
    row := hst.1
    was := h.was.fr hF (fun e => h.ne e.symm)
    ne := h.ne
    rrb := h.rrb
    rg := h.rg
    rgw := h.rgw
    low := fun j hj => Nat.lt_of_lt_of_le (h.low j hj) hF.size
    blen := by rw [List.length_set]; exact h.blen
    brange := fun y hy => by
      rcases List.mem_or_eq_of_mem_set hy with h1 | h1
      · exact h.brange y h1
      · rw [h1]; exact hx }
/-- The reference behind a call. -/
def Rp (w : World) (rb : Nat) (R : Nat → Prop) (F B : List Int) (w' : World) (R' : Nat → Prop) : Prop := RefAt w' rb R' F B ∧ Fr R w w' ∧ Gr w R R'

set_option maxHeartbeats 1000000 in
set_option maxRecDepth 1000000 in
theorem rlay_calls {w : World} {rb : Nat} {R : Nat → Prop} {F B : List Int} (h : RefAt w rb R F B) (a : Int) (v : Value) (l : List Int) (hv : Sl w v l.length (bys l)) (hvR : ∀ k, v.ownBlock = some k → l ≠ [] → ¬ R k) (h0 : ∀ b ∈ l, 0 ≤ b ∧ b < 256) (hlen : l.length ≤ 9223372036854775807) (ha : -9223372036854775808 ≤ a ∧ a ≤ 9223372036854775807) :
    Calls Tryz.prog 91 #[.pointer (some ⟨rb, 0, none⟩), .int .i64 a, v] w fun e w' => e = .returned (.tuple #[]) ∧ Rp w rb R F (layF B a l) w' R := by
  obtain ⟨av, cap', rfl⟩ := hv.form
  obtain ⟨g, cap, gw, h⟩ := h.inn
  have HM := Lib.hid h
  obtain ⟨ha1, ha2⟩ := ha
  clear h
  go_enter Tryz.func91, Tryz.ntmps91
  go_wp2
  go_loopw [9] (fun i wr => ∃ j : Nat, j ≤ l.length ∧ i = .int .i64 j ∧ RefIn wr rb g cap gw R F (layN B a l j) ∧ Fr (fun k => k = g) w wr) (fun i _ => l.length - (intOf i).toNat)
  case atStart => exact ⟨0, Nat.zero_le _, rfl, HM.out, Fr.refl _ _⟩
  case round =>
    obtain ⟨j, hj, rfl, hM, hF⟩ := hrel
    by_cases hlt : j < l.length
    · obtain ⟨vb, off, rfl, hvb, hc⟩ := hv.at (bys_ne l j hlt)
      have hvg : vb ≠ g := fun e => hvR vb rfl (fun e2 => by rw [e2] at hlt; simp at hlt) (by rw [e]; exact HM.out.rg)
      have c1 := hF.cell (hc _ _ (bys_get _ _ hlt)) hvg
      have hxr := h0 _ (List.getElem_mem hlt)
      have hg : l.getD j 0 = l[j] := by simp [List.getD, hlt]
      revert c1 hxr hg
      generalize l[j] = x
      intro c1 hxr hg
      have HXR := Lib.hid hxr
      have HH := Lib.hid hM
      have HVR := Lib.hid hvR
      have hFH := Lib.hid hF
      by_cases hbig : a ≤ 8192
      · by_cases hov : 9223372036854775807 < a + (j : Int)
        · have hst : layN B a l (j + 1) = layN B a l j := by rw [layN, if_neg (by omega)]
          have HST0 := Lib.hid hst
          have hw : IntKind.i64.wrap (a + (j : Int)) = a + j - 18446744073709551616 := by rw [IntKind.wrap_i64]; omega
          have h1 : ¬ 0 ≤ a + (j : Int) - 18446744073709551616 := by omega
          clear hM hvR hg hxr hst hv hc h0 hF
          go_wp2
          go_roundw
          case rel => exact ⟨j + 1, by omega, by go_num, by rw [HST0.out]; exact HH.out, hFH.out⟩
          case measure => simp [intOf]; omega
        have hw : IntKind.i64.wrap (a + (j : Int)) = a + j := IntWalk.i64_in _ (by omega)
        by_cases hin : 0 ≤ a + (j : Int) ∧ a + (j : Int) < 8192
        · have hst : layN B a l (j + 1) = (layN B a l j).set (a + (j : Int)).toNat x := by rw [layN, if_pos hin, hg]
          obtain ⟨kk, hkk⟩ : ∃ kk : Nat, a + (j : Int) = kk := ⟨(a + (j : Int)).toNat, by omega⟩
          rw [hkk, Int.toNat_natCast] at hst
          have hk : kk < 8192 := by omega
          have HST0 := Lib.hid hst
          rw [hkk] at hw
          have c0 := heap_cell (o := 0) hM.box rfl
          have hkl : kk < (layN B a l j).length := by rw [hM.blen]; exact hk
          have q1 := (hM.row.cellAt kk (by omega)).trans (bys_get _ _ hkl)
          have q2 := hM.row.frozenAt kk
          revert q1
          generalize (layN B a l j)[kk] = y
          intro q1
          clear hM hin hvR hg hxr hst hv hc h0 hF hkl
          go_wp2
          go_region
          have hs := HH.out.store kk hk x HXR.out
          have hd : Fr No (wr.setCell ⟨g, kk, none⟩ (.int .u8 x)) (wr.setCell ⟨g, kk, none⟩ (.int .u8 x)).drew := (Fr.refl _ _).drew
          have hs2 := Lib.hid (hs.fr hd (fun _ h => h.elim))
          have hf2 := Lib.hid ((hFH.out.setCell (p := ⟨g, kk, none⟩) (fun _ => rfl) (.int .u8 x)).drew)
          clear hs hd
          generalize (wr.setCell _ _).drew = W9 at *
          go_wp2
          exact ⟨⟨j + 1, by omega, by go_num, by rw [HST0.out]; exact hs2.out, hf2.out⟩, by simp [intOf]; omega⟩
        · have hst : layN B a l (j + 1) = layN B a l j := by rw [layN, if_neg hin]
          have HST0 := Lib.hid hst
          by_cases h0' : 0 ≤ a + (j : Int)
          · have h1 : ¬ (a + (j : Int) < 8192) := fun h => hin ⟨h0', h⟩
            clear hin hM hvR hg hxr hst hv hc h0 hF
            go_wp2
            go_roundw
            case rel => exact ⟨j + 1, by omega, by go_num, by rw [HST0.out]; exact HH.out, hFH.out⟩
            case measure => simp [intOf]; omega
          · clear hin hM hvR hg hxr hst hv hc h0 hF
            go_wp2
            go_roundw
            case rel => exact ⟨j + 1, by omega, by go_num, by rw [HST0.out]; exact HH.out, hFH.out⟩
            case measure => simp [intOf]; omega
      · have hst : layN B a l (j + 1) = layN B a l j := by rw [layN, if_neg (by omega)]
        have HST0 := Lib.hid hst
        clear hM hvR hg hxr hst hv hc h0 hF
        go_wp2
        go_roundw
        case rel => exact ⟨j + 1, by omega, by go_num, by rw [HST0.out]; exact HH.out, hFH.out⟩
        case measure => simp [intOf]; omega
    · have HH := Lib.hid hM
      have hFH := Lib.hid hF
      clear hM hv hvR h0 hF
      go_wp2
      go_end0
      refine ⟨rfl, ?_, hFH.out.mono (fun i hi e => by subst e; exact HM.out.rg), Gr.refl _ _⟩
      rw [layF, show l.length = j by omega]; exact HH.out.at

/-- The reference's PutNum of eight bytes, at any place. -/
theorem layN_cell (B : List Int) (a : Int) (n : Int) (i : Nat) (hi : i < 8) (hn : 0 ≤ n ∧ n < 18446744073709551616) : layN B a (putL (zs 8) 0 n 8) (i + 1) = if 0 ≤ a + (i : Int) ∧ a + (i : Int) < 8192 then (layN B a (putL (zs 8) 0 n 8) i).set (a + (i : Int)).toNat (IntKind.u8.wrap (n / 2 ^ (8 * i))) else layN B a (putL (zs 8) 0 n 8) i := by
  rw [layN]
  have := putL_get (zs 8) 0 n 8 i hi (by rw [zs_length]; omega)
  rw [Nat.zero_add] at this
  rw [this, IntKind.wrap_u8]

set_option maxHeartbeats 1000000 in
set_option maxRecDepth 1000000 in
theorem rput8_calls (v : Value) (B : List Int) (a n : Int) (w : World) (hB : B.length = 8192) (hn : 0 ≤ n ∧ n < 18446744073709551616) (ha : -9223372036854775808 ≤ a ∧ a ≤ 9223372036854775807) (hv : Sl w v 8192 (bys B)) :
    Calls Tryz.prog 92 #[v, .int .i64 a, .int .i64 8, .int .u64 n] w fun e w' => ∃ r, e = .returned r ∧ Fr No w w' ∧ w'.ownsRow w.heap.size 5 1 r 8192 (bys (layN B a (putL (zs 8) 0 n 8) 8)) := by
  obtain ⟨av, cap, rfl⟩ := hv.form
  obtain ⟨ha1, ha2⟩ := ha
  go_enter Tryz.func92, Tryz.ntmps92
  go_wp2_with (at_builtin; refine append_sl el_u8 rfl _ _ rfl w.heap.size (.slice none 0 0) 0 [] rfl (World.ownsRow_nil _ _ _ _) rfl hv (by rw [bys_len, Nat.mul_one]; exact hB) (bys_one B) (by unfold maxLen; omega) (by omega) (by omega) ?_; intro v' w3 hown' hgrow)
  rw [Nat.zero_add, List.nil_append] at hown'
  have hF3 : Fr No w w3 := (Fr.refl _ _).grown hgrow (fun k e _ => by cases e)
  obtain ⟨g, cap', rfl, hg1, hg2⟩ := World.ownsRow.form hown' (by omega)
  clear hv
  go_loopw [10] (fun i wr => ∃ k : Nat, k ≤ 8 ∧ i = .int .i64 k ∧ wr.ownsRow w.heap.size 5 1 (.slice (some ⟨g, 0, none⟩) 8192 cap') 8192 (bys (layN B a (putL (zs 8) 0 n 8) k)) ∧ Fr No w wr) (fun i _ => 8 - (intOf i).toNat)
  case atStart => exact ⟨0, Nat.zero_le _, rfl, hown', hF3⟩
  case round =>
    obtain ⟨k, hk, rfl, hrow, hFr⟩ := hrel
    by_cases hlt : k < 8
    · have hst0 := layN_cell B a n k hlt hn
      have HR := Lib.hid hrow
      have hFH := Lib.hid hFr
      obtain ⟨hn1, hn2⟩ := hn
      by_cases hbig : a ≤ 8192
      · have hw : IntKind.i64.wrap (a + (k : Int)) = a + k := IntWalk.i64_in _ (by omega)
        by_cases hin : 0 ≤ a + (k : Int) ∧ a + (k : Int) < 8192
        · rw [if_pos hin] at hst0
          obtain ⟨kk, hkk⟩ : ∃ kk : Nat, a + (k : Int) = kk := ⟨(a + (k : Int)).toNat, by omega⟩
          rw [hkk, Int.toNat_natCast] at hst0
          rw [hkk] at hw
          have hkx : kk < 8192 := by omega
          have hkl : kk < (layN B a (putL (zs 8) 0 n 8) k).length := by rw [layN_length, hB]; exact hkx
          have hc1 := (hrow.cellAt kk (by omega)).trans (bys_get _ _ hkl)
          have f1 := hrow.frozenAt kk
          have hst := hrow.stored kk (.int .u8 (IntKind.u8.wrap (n / 2 ^ (8 * k))))
          rw [bys_set] at hst
          have HST := Lib.hid hst
          have HST0 := Lib.hid hst0
          revert hc1
          generalize (layN B a (putL (zs 8) 0 n 8) k)[kk] = y0
          intro hc1
          clear hst hrow hin hst0 hFr hown' hgrow hF3 hkl
          go_wp2
          go_roundw
          case rel =>
            obtain ⟨q1, q2⟩ := HST.out
            exact ⟨k + 1, by omega, by go_num, by rw [HST0.out]; exact q1, hFH.out.grown q2 (fun k e hk => by cases e; omega)⟩
          case measure => simp [intOf]; omega
        · rw [if_neg hin] at hst0
          have HST0 := Lib.hid hst0
          by_cases h0' : 0 ≤ a + (k : Int)
          · have h1 : ¬ (a + (k : Int) < 8192) := fun h => hin ⟨h0', h⟩
            clear hin hst0 hrow hFr hown' hgrow hF3
            go_wp2
            go_roundw
            case rel => exact ⟨k + 1, by omega, by go_num, by rw [HST0.out]; exact HR.out, hFH.out⟩
            case measure => simp [intOf]; omega
          · clear hin hst0 hrow hFr hown' hgrow hF3
            go_wp2
            go_roundw
            case rel => exact ⟨k + 1, by omega, by go_num, by rw [HST0.out]; exact HR.out, hFH.out⟩
            case measure => simp [intOf]; omega
      · rw [if_neg (by omega)] at hst0
        have HST0 := Lib.hid hst0
        clear hst0 hrow hFr hown' hgrow hF3
        go_wp2
        go_roundw
        case rel => exact ⟨k + 1, by omega, by go_num, by rw [HST0.out]; exact HR.out, hFH.out⟩
        case measure => simp [intOf]; omega
    · go_wp2
      go_ret
      exact ⟨_, rfl, hFr, by rw [show 8 = k by omega]; rw [show k = 8 by omega] at hrow ⊢; exact hrow⟩

set_option maxRecDepth 1000000 in
theorem rputcell_calls (v : Value) (B : List Int) (a n : Int) (w : World) (hB : B.length = 8192) (ha : -9223372036854775808 ≤ a ∧ a ≤ 9223372036854775807) (hv : Sl w v 8192 (bys B)) :
    Calls Tryz.prog 104 #[v, .int .i64 a, .int .i64 n] w fun e w' => ∃ r, e = .returned r ∧ Fr No w w' ∧ w'.ownsRow w.heap.size 5 1 r 8192 (bys (setF B a n)) := by
  have HC := Lib.hid (rput8_calls v B a (IntKind.u64.wrap n) w hB (u64_range n) ha hv)
  have hs : setF B a n = layN B a (putL (zs 8) 0 (IntKind.u64.wrap n) 8) 8 := by rw [setF, layF, cellF_length]; rfl
  rw [hs]
  obtain ⟨av, cap, rfl⟩ := hv.form
  clear hv hs
  go_enter Tryz.func104, Tryz.ntmps104
  go_wp2_with (go_at_call 92; ((with_reducible refine HC.out.mono ?_); rintro e w1 ⟨r, rfl, hF, hr⟩))
  go_ret
  exact ⟨r, rfl, hF, hr⟩
theorem layN_range (B : List Int) (a : Int) (l : List Int) (hB : ∀ b ∈ B, 0 ≤ b ∧ b < 256) (hl : ∀ b ∈ l, 0 ≤ b ∧ b < 256) (i : Nat) : ∀ b ∈ layN B a l i, 0 ≤ b ∧ b < 256 := by
  induction i with
  | zero => exact hB
  | succ i ih =>
    intro b hb
    rw [layN] at hb
    split at hb
    · rcases List.mem_or_eq_of_mem_set hb with h | h
      · exact ih b h
      · rw [h]; exact getD_range l hl i
    · exact ih b hb

set_option maxRecDepth 1000000 in
theorem rset_calls {w : World} {rb : Nat} {R : Nat → Prop} {F B : List Int} (h : RefAt w rb R F B) (a n : Int) (ha : -9223372036854775808 ≤ a ∧ a ≤ 9223372036854775807) :
    Calls Tryz.prog 71 #[.pointer (some ⟨rb, 0, none⟩), .int .i64 a, .int .i64 n] w fun e w' => ∃ R', e = .returned (.tuple #[]) ∧ Rp w rb R F (setF B a n) w' R' := by
  obtain ⟨g, cap, gw, h⟩ := h.inn
  have c0 := heap_cell (o := 0) h.box rfl
  have HC := Lib.hid (rputcell_calls (.slice (some ⟨g, 0, none⟩) 8192 cap) B a n w h.blen ha (Sl.of_owns h.row))
  have HM := Lib.hid h
  clear h
  go_enter Tryz.func71, Tryz.ntmps71
  go_wp2_with fail
  refine HC.out.mono ?_
  rintro e w1 ⟨r, rfl, hF, hr⟩
  have hM1 := HM.out.fr hF (fun _ h => h.elim)
  obtain ⟨g', cap', rfl, hg1, hg2⟩ := World.ownsRow.form hr (by omega)
  have d0 := heap_cell (o := 0) hM1.box rfl
  have f0 := heap_frozen (o := 0) hM1.box
  have HM1 := Lib.hid hM1
  have HRR := Lib.hid hr
  clear hM1 hr c0
  go_wp2
  have hFs : Fr (fun k => k = rb) w1 (w1.setCell ⟨rb, 0, none⟩ (.slice (some ⟨g', 0, none⟩) 8192 cap')) := (Fr.refl (fun k => k = rb) w1).setCell (p := ⟨rb, 0, none⟩) (fun _ => rfl) _
  have hrb := HM.out.low rb HM.out.rrb
  have hgwl := HM.out.low gw HM.out.rgw
  have hne2 : gw ≠ rb := fun e => by have h1 := HM1.out.was; rw [e] at h1; exact absurd (heap_ty HM1.out.box h1) (by decide)
  go_end0
  refine ⟨fun j => R j ∨ j = g', rfl, ⟨g', cap', gw, by simp [World.setCell, Array.getElem?_modify, HM1.out.box], hFs.ownsRow (ownsRow_base HRR.out (Nat.zero_le _)) (fun k e hk => by simp [Value.ownBlock] at e; omega), HM1.out.was.fr hFs hne2, by omega, .inl HM.out.rrb, .inr rfl, .inl HM.out.rgw, fun j hj => ?_, ?_, layN_range _ _ _ HM.out.brange (cellF_range n) _⟩, hF.no.trans' hFs (fun i hi e => by subst e; exact HM.out.rrb), fun j hj => ?_⟩
  · rcases hj with hj | rfl
    · have := HM.out.low j hj; have := hF.size; have := hFs.size; omega
    · have := hFs.size; omega
  · rw [setF, layF, layN_length]; exact HM.out.blen
  · rcases hj with hj | rfl
    · exact .inl hj
    · exact .inr hg1
end Go.Proofs.YtoajnmbbgbpbgaaGreat
namespace Go.Proofs.YtoajnmbbgbpbgaaGreat
set_option linter.unusedVariables false
set_option linter.unusedSimpArgs false
open Go.RowKit Go.Shelf Go.Maps

theorem byteAt_set (B : List Int) (hB : B.length = 8192) (a n x : Int) (h0 : 0 ≤ a) (h1 : a ≤ x) (h2 : x < a + 8) (h3 : x < 8192) : byteAt (setF B a n) x = (cellF n).getD (x - a).toNat 0 := by
  rw [byteAt, if_pos (by omega), setF, layF, cellF_length, layN_get _ hB _ _ _ _ (by omega), if_pos (by omega)]
  congr 1; omega
theorem load_set (B : List Int) (hB : B.length = 8192) (a n : Int) (h0 : 0 ≤ a) (h1 : a + 8 ≤ 8192) : loadF (setF B a n) a 8 = cellF n := by
  apply List.ext_getElem?
  intro i
  rcases Nat.lt_or_ge i 8 with h | h
  · have e1 := loadF_get (setF B a n) a 8 i h
    rw [byteAt_set B hB a n _ h0 (by omega) (by omega) (by omega)] at e1
    have h2 : i < (loadF (setF B a n) a 8).length := by rw [loadF_length]; exact h
    have h3 : i < (cellF n).length := by rw [cellF_length]; exact h
    rw [show (a + (i : Int) - a).toNat = i by omega] at e1
    rw [List.getElem?_eq_getElem h2, List.getElem?_eq_getElem h3]
    simpa [List.getD, h2, h3] using e1
  · rw [List.getElem?_eq_none (by rw [loadF_length]; exact h), List.getElem?_eq_none (by rw [cellF_length]; exact h)]
theorem get_set (B : List Int) (hB : B.length = 8192) (a n : Int) (h0 : 0 ≤ a) (h1 : a + 8 ≤ 8192) (hn : -9223372036854775808 ≤ n ∧ n ≤ 9223372036854775807) : getF (setF B a n) a = n := by
  rw [getF, load_set B hB a n h0 h1, cellF]
  obtain ⟨u, hu⟩ : ∃ u : Nat, IntKind.u64.wrap n = u := ⟨(IntKind.u64.wrap n).toNat, by have := u64_range n; omega⟩
  have hr := u64_range n
  rw [hu] at hr ⊢
  rw [numL_putL (zs 8) 0 u 8 (by omega) (by rw [zs_length]; omega) (zs_rng 8) (by omega)]
  rw [IntKind.wrap_u64] at hu
  unfold wrap64
  omega
theorem putT_range {a : Int} (h : putT a = 0) : 0 ≤ a ∧ a + 8 ≤ 8192 ∧ a % 8 = 0 := by
  rw [putT] at h
  split at h
  · omega
  · rw [insF] at h
    split at h
    · omega
    · split at h
      · omega
      · omega
theorem putT_zero {a : Int} (h : putT a = 0) : insF a 8 0 8192 = 0 := by
  obtain ⟨h1, h2, h3⟩ := putT_range h
  rw [insF, if_neg (by omega), if_neg (by simp [h3])]

theorem Mp.step {w wi w' : World} {mb : Nat} {A A' : Nat → Prop} {F B : List Int} (h : Mp wi mb A F B w' A') (hF : Fr No w wi) (hA : ∀ j, A j → w.heap.size ≤ j) : Fr No w w' ∧ ∀ j, A' j → w.heap.size ≤ j :=
  ⟨hF.trans' h.2.1 (fun i hi hs => by have := hA i hs; omega), fun j hj => by
    rcases h.2.2 j hj with h1 | h1
    · exact hA j h1
    · exact Nat.le_trans hF.size h1⟩

end Go.Proofs.YtoajnmbbgbpbgaaGreat
namespace Go.Proofs.YtoajnmbbgbpbgaaGreat
set_option linter.unusedVariables false
set_option linter.unusedSimpArgs false
open Go.RowKit Go.Shelf Go.Maps

theorem RefAt.fr {S : Nat → Prop} {w w' : World} {rb : Nat} {R : Nat → Prop} {F B : List Int} (h : RefAt w rb R F B) (hF : Fr S w w') (hn : ∀ k, S k → ¬ R k) : RefAt w' rb R F B := by
  obtain ⟨g, cap, gw, h⟩ := h.inn; exact (h.fr hF hn).at
theorem RefAt.low {w : World} {rb : Nat} {R : Nat → Prop} {F B : List Int} (h : RefAt w rb R F B) : ∀ j, R j → j < w.heap.size := by
  obtain ⟨g, cap, gw, h⟩ := h.inn; exact h.low
/-- Both memories, in blocks of their own. -/
def Two (w : World) (mb : Nat) (A : Nat → Prop) (rb : Nat) (R : Nat → Prop) (F B B' : List Int) : Prop := MemAt w mb A F B ∧ RefAt w rb R F B' ∧ ∀ k, A k → ¬ R k
theorem Two.mem {w w' : World} {mb rb : Nat} {A A' R : Nat → Prop} {F B B2 B' : List Int} (h : Two w mb A rb R F B B') (hp : Mp w mb A F B2 w' A') : Two w' mb A' rb R F B2 B' :=
  ⟨hp.1, h.2.1.fr hp.2.1 h.2.2, fun k hk hR => by
    rcases hp.2.2 k hk with h1 | h1
    · exact h.2.2 k h1 hR
    · have := h.2.1.low k hR; omega⟩
theorem Two.ref {w w' : World} {mb rb : Nat} {A R R' : Nat → Prop} {F B B' B2 : List Int} (h : Two w mb A rb R F B B') (hp : Rp w rb R F B2 w' R') : Two w' mb A rb R' F B B2 :=
  ⟨h.1.fr hp.2.1 (fun k hR hA => h.2.2 k hA hR), hp.1, fun k hk hR => by
    rcases hp.2.2 k hR with h1 | h1
    · exact h.2.2 k hk h1
    · have := h.1.low k hk; omega⟩
theorem Two.fr {S : Nat → Prop} {w w' : World} {mb rb : Nat} {A R : Nat → Prop} {F B B' : List Int} (h : Two w mb A rb R F B B') (hF : Fr S w w') (h1 : ∀ k, S k → ¬ A k) (h2 : ∀ k, S k → ¬ R k) : Two w' mb A rb R F B B' :=
  ⟨h.1.fr hF h1, h.2.1.fr hF h2, h.2.2⟩
theorem Two.fr0 {w w' : World} {mb rb : Nat} {A R : Nat → Prop} {F B B' : List Int} (h : Two w mb A rb R F B B') (hF : Fr No w w') : Two w' mb A rb R F B B' := h.fr hF (fun _ h => h.elim) (fun _ h => h.elim)
theorem Rp.step {w wi w' : World} {rb : Nat} {R R' : Nat → Prop} {F B : List Int} (h : Rp wi rb R F B w' R') (hF : Fr No w wi) (hR : ∀ j, R j → w.heap.size ≤ j) : Fr No w w' ∧ ∀ j, R' j → w.heap.size ≤ j :=
  ⟨hF.trans' h.2.1 (fun i hi hs => by have := hR i hs; omega), fun j hj => by
    rcases h.2.2 j hj with h1 | h1
    · exact hR j h1
    · exact Nat.le_trans hF.size h1⟩

theorem ref_conv {w : World} {rb g cap gw : Nat} {R : Nat → Prop} {F B : List Int} (h : RefIn w rb g cap gw R F B) :
    w.cell? ⟨rb, 0, none⟩ = some (.slice (some ⟨g, 0, none⟩) 8192 cap) ∧ (convert 22 9 (.slice (some ⟨g, 0, none⟩) 8192 cap)).run Tryz.prog w = .ok (.string (strOfNums B)) w := by
  refine ⟨heap_cell (o := 0) h.box rfl, ?_⟩
  have h1 := Sl.of_owns h.row
  have h2 := conv_sl (w := w) (a := some ⟨g, 0, none⟩) (cap := cap) (l := B) (by rw [h.blen]; exact h1)
  rw [h.blen] at h2
  exact h2
theorem row_conv {w : World} {b : Nat} {B : List Int} (h : Row w b 5 B) (hB : B.length = 8192) :
    (convert 22 9 (.slice (some ⟨b, 0, none⟩) 8192 8192)).run Tryz.prog w = .ok (.string (strOfNums B)) w := by
  have h2 := conv_sl (w := w) (a := some ⟨b, 0, none⟩) (cap := 8192) (l := B) (by have := h.sl; rw [hB] at this ⊢; exact this)
  rw [hB] at h2
  exact h2

end Go.Proofs.YtoajnmbbgbpbgaaGreat
namespace Go.Proofs.YtoajnmbbgbpbgaaGreat
set_option linter.unusedVariables false
set_option linter.unusedSimpArgs false
open Go.RowKit Go.Shelf Go.Maps

/-- A byte of a slice of one's own, one more. -/
theorem inc_step {w : World} {B0 : Nat} {v : Value} {n : Nat} {l : List Int} {j : Nat} (h : w.ownsRow B0 5 1 v n (bys l)) (hr : ∀ b ∈ l, 0 ≤ b ∧ b < 256) (hj : j < n) :
    ∃ g cap x, v = .slice (some ⟨g, 0, none⟩) n cap ∧ B0 ≤ g ∧ w.cell? ⟨g, j, none⟩ = some (.int .u8 x) ∧ w.frozen? ⟨g, j, none⟩ = false ∧ 0 ≤ x ∧ x < 256 ∧
      (w.setCell ⟨g, j, none⟩ (.int .u8 (IntKind.u8.wrap (x + 1)))).ownsRow B0 5 1 v n (bys (l.set j (IntKind.u8.wrap (x + 1)))) ∧ ∀ b ∈ l.set j (IntKind.u8.wrap (x + 1)), 0 ≤ b ∧ b < 256 := by
  obtain ⟨g, cap, rfl, hg, -⟩ := World.ownsRow.form h (by omega)
  have hl : l.length = n := by have := h.1; rw [bys_len] at this; omega
  have hjl : j < l.length := by omega
  have hst := h.stored j (.int .u8 (IntKind.u8.wrap (l[j] + 1)))
  rw [bys_set] at hst
  have hx := hr _ (List.getElem_mem hjl)
  refine ⟨g, cap, l[j], rfl, hg, (h.cellAt j (by omega)).trans (bys_get _ _ hjl), h.frozenAt j, hx.1, hx.2, hst.1, fun b hb => ?_⟩
  rcases List.mem_or_eq_of_mem_set hb with h1 | h1
  · exact hr b h1
  · rw [h1, IntKind.wrap_u8]; omega

end Go.Proofs.YtoajnmbbgbpbgaaGreat
namespace Go.Proofs.YtoajnmbbgbpbgaaGreat
set_option linter.unusedVariables false
set_option linter.unusedSimpArgs false
open Go.RowKit Go.Shelf Go.Maps

/-- A memory that nobody made: nil, or a box of noughts. -/
def NoneAt (w : World) (v : Value) : Prop := v = .pointer none ∨ ∃ b, v = .pointer (some ⟨b, 0, none⟩) ∧ w.heap[b]? = some (.cells #[.pointer none, .map none, .slice none 0 0] 52 (0, 0))
theorem NoneAt.fr {w w' : World} {v : Value} (h : NoneAt w v) (hF : Fr No w w') : NoneAt w' v := by
  rcases h with rfl | ⟨b, rfl, hb⟩
  · exact .inl rfl
  · exact .inr ⟨b, rfl, hF.heap hb (fun h => h)⟩

theorem neq_nomap (w : World) : (binOp BinOp.neq 49 (.map none) (.map none)).run Tryz.prog w = .ok (.bool false) w := by kernel_rfl
set_option maxRecDepth 1000000 in
theorem is_none {w : World} {v : Value} (h : NoneAt w v) :
    Calls Tryz.prog 88 #[v] w fun e w' => e = .returned (.bool false) ∧ w = w' := by
  rcases h with rfl | ⟨b, rfl, hb⟩
  · go_enter Tryz.func88, Tryz.ntmps88
    go_wp2
    go_ret
    exact ⟨rfl, rfl⟩
  · have c1 := heap_cell (o := 1) hb rfl
    have hne := neq_nomap w
    clear hb
    go_enter Tryz.func88, Tryz.ntmps88
    go_wp2
    go_ret
    exact ⟨rfl, rfl⟩

set_option maxHeartbeats 1000000 in
set_option maxRecDepth 1000000 in
theorem load_none {w : World} {v : Value} (h : NoneAt w v) (a n : Int) (N : Nat) (hN : min (max n 0) 8192 = (N : Int)) :
    Calls Tryz.prog 47 #[v, .int .i64 a, .int .i64 n] w fun e w' => ∃ b, e = .returned (.slice (some ⟨b, 0, none⟩) N N) ∧ Fr No w w' ∧ Row w' b 5 (zs N) ∧ w.heap.size ≤ b := by
  have hR0 : Row (w.alloc (.cells (bys (zs N)).toArray 5)) w.heap.size 5 (zs N) := Row.new _ _ _
  have hF0 : Fr No w (w.alloc (.cells (bys (zs N)).toArray 5)) := (Fr.refl _ _).alloc _
  have HI := Lib.hid (is_none (h.fr hF0))
  have HN := Lib.hid hN
  clear h hN
  go_enter Tryz.func47, Tryz.ntmps47
  go_upto_region 1 with fail
  go_cut [7] (fun s7 wx => s7 = .slice (some ⟨w.heap.size, 0, none⟩) N N ∧ wx = w.alloc (.cells (bys (zs N)).toArray 5))
  case first =>
    have hN := HN.out
    by_cases h1 : n < 0
    · obtain rfl : N = 0 := by omega
      have hmk : ∀ w : World, (Instr.makeSlice 22 (.int .i64 0) (.int .i64 0)).run Tryz.prog w = .ok (.slice (some ⟨w.heap.size, 0, none⟩) 0 0) (w.alloc (.cells (bys (zs 0)).toArray 5)) := fun w => mk_bytes w 0 (by omega)
      clear hN
      go_wp2_with fail
      go_meet
      exact ⟨rfl, rfl⟩
    · by_cases h2 : 8192 < n
      · obtain rfl : N = 8192 := by omega
        have hmk : ∀ w : World, (Instr.makeSlice 22 (.int .i64 8192) (.int .i64 8192)).run Tryz.prog w = .ok (.slice (some ⟨w.heap.size, 0, none⟩) 8192 8192) (w.alloc (.cells (bys (zs 8192)).toArray 5)) := fun w => mk_bytes w 8192 (by omega)
        generalize (bys (zs 8192)).toArray = cs at *
        clear hN
        go_wp2_with fail
        go_meet
        exact ⟨rfl, rfl⟩
      · obtain rfl : n = N := by omega
        have hmk : ∀ w : World, (Instr.makeSlice 22 (.int .i64 N) (.int .i64 N)).run Tryz.prog w = .ok (.slice (some ⟨w.heap.size, 0, none⟩) N N) (w.alloc (.cells (bys (zs N)).toArray 5)) := fun w => mk_bytes w N (by omega)
        generalize (bys (zs N)).toArray = cs at *
        clear hN
        go_wp2_with fail
        go_meet
        exact ⟨rfl, rfl⟩
  case rest =>
  obtain ⟨rfl, rfl⟩ := hcut
  generalize hW1 : w.alloc _ = W1 at *
  clear hW1
  go_wp2_with (go_at_call 88; ((with_reducible refine HI.out.mono ?_); rintro e w1 ⟨rfl, rfl⟩))
  go_ret
  exact ⟨_, rfl, hF0, hR0, Nat.le_refl _⟩

set_option maxRecDepth 1000000 in
theorem lay_none {w : World} {v : Value} (h : NoneAt w v) (a : Int) (u : Value) :
    Calls Tryz.prog 41 #[v, .int .i64 a, u] w fun e w' => e = .returned (.tuple #[]) ∧ w = w' := by
  have HI := Lib.hid (is_none h)
  clear h
  go_enter Tryz.func41, Tryz.ntmps41
  go_wp2_with (go_at_call 88; ((with_reducible refine HI.out.mono ?_); rintro e w1 ⟨rfl, rfl⟩))
  refine bodyPost_ret (results_none rfl _ _ _) rfl ?_
  exact ⟨rfl, rfl⟩

theorem num_zs : numL (zs 8) 0 8 = 0 := by decide
set_option maxRecDepth 1000000 in
theorem get_none {w : World} {v : Value} (h : NoneAt w v) (a : Int) :
    Calls Tryz.prog 86 #[v, .int .i64 a] w fun e w' => e = .returned (.int .i64 0) ∧ Fr No w w' := by
  have HC : Calls Tryz.prog 47 #[v, .int .i64 a, .int .i64 8] w _ := load_none h a 8 8 (by decide)
  have HC' := Lib.hid HC
  have HL := Lib.hid (fun (b : Nat) (w1 : World) (hR : Row w1 b 5 (zs 8)) => (by have := lecell_calls (.slice (some ⟨b, 0, none⟩) 8 8) (zs 8) w1 (zs_length 8) (zs_rng 8) hR.sl; rw [num_zs] at this; exact this :
    Calls Tryz.prog 112 #[.slice (some ⟨b, 0, none⟩) 8 8, .int .i64 0] w1 fun e w' => e = .returned (.int .i64 (wrap64 0)) ∧ Fr No w1 w'))
  have h00 : wrap64 0 = 0 := by simp [wrap64]
  rw [h00] at HL
  clear HC h h00
  go_enter Tryz.func86, Tryz.ntmps86
  go_wp2_with fail
  refine HC'.out.mono ?_
  rintro e w1 ⟨b, rfl, hF1, hR, hlt⟩
  go_wp2_with fail
  refine (HL.out b w1 hR).mono ?_
  rintro e w2 ⟨rfl, hF⟩
  go_wp2
  go_ret
  exact ⟨rfl, hF1.trans hF⟩

set_option maxRecDepth 1000000 in
theorem set_none {w : World} {v : Value} (h : NoneAt w v) (a n : Int) :
    Calls Tryz.prog 95 #[v, .int .i64 a, .int .i64 n] w fun e w' => e = .returned (.tuple #[]) ∧ Fr No w w' := by
  have hmk : ∀ w : World, (Instr.makeSlice 22 (.int .i64 8) (.int .i64 8)).run Tryz.prog w = .ok (.slice (some ⟨w.heap.size, 0, none⟩) 8 8) (w.alloc (.cells (bys (zs 8)).toArray 5)) := fun w => mk_bytes w 8 (by omega)
  have hF0 : Fr No w (w.alloc (.cells (bys (zs 8)).toArray 5)) := (Fr.refl _ _).alloc _
  have HC := Lib.hid (leput_calls (.slice (some ⟨w.heap.size, 0, none⟩) 8 8) (w.alloc (.cells (bys (zs 8)).toArray 5)) n (Row.new w 5 (zs 8)).sl)
  have HH := Lib.hid h
  clear h
  go_enter Tryz.func95, Tryz.ntmps95
  go_wp2_with fail
  refine HC.out.mono ?_
  rintro e w1 ⟨r, rfl, hF1, hr⟩
  have hF01 := hF0.trans hF1
  have HL := Lib.hid (lay_none (HH.out.fr hF01) a r)
  clear hmk hr
  go_wp2_with fail
  refine HL.out.mono ?_
  rintro e w2 ⟨rfl, rfl⟩
  go_wp2
  go_end0
  exact ⟨rfl, hF01⟩

set_option maxRecDepth 1000000 in
theorem bytes_none {w : World} {v : Value} (h : NoneAt w v) :
    Calls Tryz.prog 16 #[v] w fun e w' => ∃ b, e = .returned (.slice (some ⟨b, 0, none⟩) 8192 8192) ∧ Fr No w w' ∧ Row w' b 5 (zs 8192) := by
  have HC : Calls Tryz.prog 47 #[v, .int .i64 0, .int .i64 8192] w _ := load_none h 0 8192 8192 (by decide)
  have HC' := Lib.hid HC
  clear h HC
  generalize zs 8192 = z at *
  go_enter Tryz.func16, Tryz.ntmps16
  go_wp2_with fail
  refine HC'.out.mono ?_
  rintro e w1 ⟨b, rfl, hF, hR, hlt⟩
  go_wp2
  go_ret
  exact ⟨b, rfl, hF, hR⟩
end Go.Proofs.YtoajnmbbgbpbgaaGreat
namespace Go.Proofs.YtoajnmbbgbpbgaaGreat
set_option linter.unusedVariables false
set_option linter.unusedSimpArgs false
open Go.RowKit Go.Shelf Go.Maps

end Go.Proofs.YtoajnmbbgbpbgaaGreat
namespace Go.Proofs.YtoajnmbbgbpbgaaGreat
set_option linter.unusedVariables false
set_option linter.unusedSimpArgs false
open Go.RowKit Go.Shelf Go.Maps

theorem ins1 (a low high : Int) : insF a 1 low high = if a < low ∨ a > high - 1 then -9 else 0 := by
  rw [insF]; split
  · rfl
  · rw [if_neg (by omega)]

theorem or_zero (x : Int) (hx : ∃ n : Nat, x = n ∧ n < 2 ^ 64) : bits .or .u64 x (IntKind.u64.wrap 0) = x := by
  obtain ⟨n, rfl, hn⟩ := hx
  have h0 : IntKind.u64.wrap 0 = ((0 : Nat) : Int) := by rw [IntKind.wrap_u64]; rfl
  rw [h0, or_u64 n 0 hn (by omega), Nat.or_zero]

set_option maxHeartbeats 1000000 in
set_option maxRecDepth 1000000 in
theorem rnum8_calls (v : Value) (B : List Int) (a : Int) (w : World) (hB : B.length = 8192) (h0 : ∀ b ∈ B, 0 ≤ b ∧ b < 256) (ha : -9223372036854775808 ≤ a ∧ a ≤ 9223372036854775807) (hv : Sl w v 8192 (bys B)) :
    Calls Tryz.prog 134 #[v, .int .i64 a, .int .i64 8] w fun e w' => e = .returned (.int .u64 (numL (loadF B a 8) 0 8)) ∧ w = w' := by
  obtain ⟨av, cap, rfl⟩ := hv.form
  obtain ⟨ha1, ha2⟩ := ha
  have HLR := Lib.hid (loadF_range B h0 a 8)
  go_enter Tryz.func134, Tryz.ntmps134
  go_wp2
  go_loop [7, 8] (fun s i => ∃ k : Nat, k ≤ 8 ∧ i = .int .i64 k ∧ s = .int .u64 (numL (loadF B a 8) 0 k)) (fun _ i => 8 - (intOf i).toNat)
  case atStart => exact ⟨0, Nat.zero_le _, rfl, rfl⟩
  case round =>
    obtain ⟨k, hk, rfl, rfl⟩ := hrel
    by_cases hlt : k < 8
    · have hstep : numL (loadF B a 8) 0 (k + 1) = bits .or .u64 (numL (loadF B a 8) 0 k) (IntKind.u64.wrap (byteAt B (a + k) * 2 ^ (8 * k))) := by
        rw [numL, Nat.zero_add, loadF_get B a 8 k hlt]
      have hnum := numL_sum (loadF B a 8) HLR.out 0 k (by omega)
      have hsl := sumL_lt (loadF B a 8) HLR.out 0 k
      have hp8 : 2 ^ (8 * k) ≤ 2 ^ 64 := Nat.pow_le_pow_right (by decide) (by omega)
      by_cases hbig : a ≤ 8192
      · have hw : IntKind.i64.wrap (a + (k : Int)) = a + k := IntWalk.i64_in _ (by omega)
        by_cases hin : 0 ≤ a + (k : Int) ∧ a + (k : Int) < 8192
        · obtain ⟨kk, hkk⟩ : ∃ kk : Nat, a + (k : Int) = kk := ⟨(a + (k : Int)).toNat, by omega⟩
          have hkx : kk < 8192 := by omega
          have hkl : kk < B.length := by rw [hB]; exact hkx
          have hby : byteAt B (a + k) = B[kk] := by rw [byteAt, if_pos hin, hkk]; simp [List.getD, hkl]
          rw [hby] at hstep
          rw [hkk] at hw
          obtain ⟨b, off, rfl, hb, hc⟩ := hv.at (bys_ne _ _ hkl)
          have hc1 := hc _ _ (bys_get _ _ hkl)
          have hxr := h0 _ (List.getElem_mem hkl)
          revert hc1 hstep hxr
          generalize B[kk] = x
          intro hstep hc1 hxr
          obtain ⟨hx0, hx1⟩ := hxr
          have HS := Lib.hid hstep
          clear hstep hv hc hby hin h0 hkl hnum hsl hp8
          go_wp2
          go_round
          case rel => exact ⟨k + 1, by omega, by go_num, by rw [HS.out]⟩
          case measure => simp [intOf]; omega
        · rw [byteAt, if_neg hin, Int.zero_mul, or_zero _ ⟨_, hnum, by omega⟩] at hstep
          have HS := Lib.hid hstep
          by_cases h0' : 0 ≤ a + (k : Int)
          · have h1 : ¬ (a + (k : Int) < 8192) := fun h => hin ⟨h0', h⟩
            clear hin hstep hnum hsl hp8 hv h0
            go_wp2
            go_round
            case rel => exact ⟨k + 1, by omega, by go_num, by rw [HS.out]⟩
            case measure => simp [intOf]; omega
          · clear hin hstep hnum hsl hp8 hv h0
            go_wp2
            go_round
            case rel => exact ⟨k + 1, by omega, by go_num, by rw [HS.out]⟩
            case measure => simp [intOf]; omega
      · rw [byteAt, if_neg (by omega), Int.zero_mul, or_zero _ ⟨_, hnum, by omega⟩] at hstep
        have HS := Lib.hid hstep
        clear hstep hnum hsl hp8 hv h0
        go_wp2
        go_round
        case rel => exact ⟨k + 1, by omega, by go_num, by rw [HS.out]⟩
        case measure => simp [intOf]; omega
    · clear hv h0
      go_wp2
      go_ret
      exact ⟨by rw [show k = 8 by omega]; rfl, rfl⟩

set_option maxRecDepth 1000000 in
theorem rcell01_calls (v : Value) (B : List Int) (a : Int) (w : World) (hB : B.length = 8192) (h0 : ∀ b ∈ B, 0 ≤ b ∧ b < 256) (ha : -9223372036854775808 ≤ a ∧ a ≤ 9223372036854775807) (hv : Sl w v 8192 (bys B)) :
    Calls Tryz.prog 126 #[v, .int .i64 a] w fun e w' => e = .returned (.int .i64 (getF B a)) ∧ w = w' := by
  have HC := Lib.hid (rnum8_calls v B a w hB h0 ha hv)
  have hg : getF B a = wrap64 (numL (loadF B a 8) 0 8) := rfl
  rw [hg]
  obtain ⟨av, cap, rfl⟩ := hv.form
  clear hv hg h0
  go_enter Tryz.func126, Tryz.ntmps126
  go_wp2_with (go_at_call 134; ((with_reducible refine HC.out.mono ?_); rintro e w1 ⟨rfl, rfl⟩))
  go_ret
  exact ⟨rfl, rfl⟩

set_option maxRecDepth 1000000 in
theorem rget_calls {w : World} {rb : Nat} {R : Nat → Prop} {F B : List Int} (h : RefAt w rb R F B) (a : Int) (ha : -9223372036854775808 ≤ a ∧ a ≤ 9223372036854775807) :
    Calls Tryz.prog 103 #[.pointer (some ⟨rb, 0, none⟩), .int .i64 a] w fun e w' => e = .returned (.int .i64 (getF B a)) ∧ w = w' := by
  obtain ⟨g, cap, gw, h⟩ := h.inn
  have c0 := heap_cell (o := 0) h.box rfl
  have HC := Lib.hid (rcell01_calls (.slice (some ⟨g, 0, none⟩) 8192 cap) B a w h.blen h.brange ha (Sl.of_owns h.row))
  clear h
  generalize getF B a = x at *
  go_enter Tryz.func103, Tryz.ntmps103
  go_wp2_with (go_at_call 126; ((with_reducible refine HC.out.mono ?_); rintro e w1 ⟨rfl, rfl⟩))
  go_ret
  exact ⟨rfl, rfl⟩

end Go.Proofs.YtoajnmbbgbpbgaaGreat
namespace Go.Proofs.YtoajnmbbgbpbgaaGreat
set_option linter.unusedVariables false
set_option linter.unusedSimpArgs false
open Go.RowKit Go.Shelf Go.Maps

/-- PutByte's bytes behind it. -/
def pbB (B : List Int) (a n : Int) : List Int := if insF a 1 768 5632 = 0 then layF B a [n % 256] else B
theorem layF_put1 (B : List Int) (a : Int) (x : Int) (h : 0 ≤ a ∧ a < 8192) : layF B a [x] = B.set a.toNat x := by
  rw [layF, List.length_singleton, layN, if_pos (by omega), layN]
  simp

end Go.Proofs.YtoajnmbbgbpbgaaGreat
namespace Go.Proofs.YtoajnmbbgbpbgaaGreat
set_option linter.unusedVariables false
set_option linter.unusedSimpArgs false
open Go.RowKit Go.Shelf Go.Maps

set_option maxHeartbeats 1000000 in
set_option maxRecDepth 1000000 in
theorem rload_calls {w : World} {rb : Nat} {R : Nat → Prop} {F B : List Int} (h : RefAt w rb R F B) (a n : Int) (N : Nat) (hN : min (max n 0) 8192 = (N : Int)) (ha : -9223372036854775808 ≤ a ∧ a ≤ 9223372036854775807) :
    Calls Tryz.prog 135 #[.pointer (some ⟨rb, 0, none⟩), .int .i64 a, .int .i64 n] w fun e w' => ∃ b, e = .returned (.slice (some ⟨b, 0, none⟩) N N) ∧ Fr No w w' ∧ Row w' b 5 (loadF B a N) ∧ w.heap.size ≤ b := by
  have hN2 : N ≤ 8192 := by omega
  have hR0 : Row (w.alloc (.cells (bys (zs N)).toArray 5)) w.heap.size 5 (zs N) := Row.new _ _ _
  have hF0 : Fr No w (w.alloc (.cells (bys (zs N)).toArray 5)) := (Fr.refl _ _).alloc _
  obtain ⟨g, cap, gw, h⟩ := h.inn
  have HM0 := Lib.hid (h.fr hF0 (fun _ h => h.elim))
  have HM := Lib.hid h
  have HN := Lib.hid hN
  obtain ⟨ha1, ha2⟩ := ha
  clear h hN
  go_enter Tryz.func135, Tryz.ntmps135
  go_upto_region 1 with fail
  go_cut [7] (fun s7 wx => s7 = .slice (some ⟨w.heap.size, 0, none⟩) N N ∧ wx = w.alloc (.cells (bys (zs N)).toArray 5))
  case first =>
    have hN := HN.out
    by_cases h1 : n < 0
    · obtain rfl : N = 0 := by omega
      have hmk : ∀ w : World, (Instr.makeSlice 22 (.int .i64 0) (.int .i64 0)).run Tryz.prog w = .ok (.slice (some ⟨w.heap.size, 0, none⟩) 0 0) (w.alloc (.cells (bys (zs 0)).toArray 5)) := fun w => mk_bytes w 0 (by omega)
      clear hN
      go_wp2_with fail
      go_meet
      exact ⟨rfl, rfl⟩
    · by_cases h2 : 8192 < n
      · obtain rfl : N = 8192 := by omega
        have hmk : ∀ w : World, (Instr.makeSlice 22 (.int .i64 8192) (.int .i64 8192)).run Tryz.prog w = .ok (.slice (some ⟨w.heap.size, 0, none⟩) 8192 8192) (w.alloc (.cells (bys (zs 8192)).toArray 5)) := fun w => mk_bytes w 8192 (by omega)
        generalize (bys (zs 8192)).toArray = cs at *
        clear hN
        go_wp2_with fail
        go_meet
        exact ⟨rfl, rfl⟩
      · obtain rfl : n = N := by omega
        have hmk : ∀ w : World, (Instr.makeSlice 22 (.int .i64 N) (.int .i64 N)).run Tryz.prog w = .ok (.slice (some ⟨w.heap.size, 0, none⟩) N N) (w.alloc (.cells (bys (zs N)).toArray 5)) := fun w => mk_bytes w N (by omega)
        generalize (bys (zs N)).toArray = cs at *
        clear hN
        go_wp2_with fail
        go_meet
        exact ⟨rfl, rfl⟩
  case rest =>
  obtain ⟨rfl, rfl⟩ := hcut
  generalize hW1 : w.alloc _ = W1 at *
  clear hW1
  go_wp2
  go_loopw [15] (fun i wr => ∃ j : Nat, j ≤ N ∧ i = .int .i64 j ∧ Fr (fun k => k = w.heap.size) W1 wr ∧ Row wr w.heap.size 5 (outN B a N j)) (fun i _ => N - (intOf i).toNat)
  case atStart => exact ⟨0, Nat.zero_le _, rfl, Fr.refl _ _, hR0⟩
  case round =>
    obtain ⟨j, hj, rfl, hF, hR⟩ := hrel
    by_cases hlt : j < N
    · have hjl : j < (outN B a N j).length := by rw [outN_length]; exact hlt
      have HF := Lib.hid hF
      have HR := Lib.hid hR
      by_cases hbig : a ≤ 8192
      · have hw : IntKind.i64.wrap (a + (j : Int)) = a + j := IntWalk.i64_in _ (by omega)
        by_cases hin : 0 ≤ a + (j : Int) ∧ a + (j : Int) < 8192
        · obtain ⟨kk, hkk⟩ : ∃ kk : Nat, a + (j : Int) = kk := ⟨(a + (j : Int)).toNat, by omega⟩
          have hk : kk < 8192 := by omega
          have hlow := HM.out.low
          have hMr := HM0.out.fr hF (fun k e hk => by subst e; exact Nat.lt_irrefl _ (hlow _ hk))
          have hkl : kk < B.length := by rw [HM.out.blen]; exact hk
          have hby : byteAt B (a + j) = B[kk] := by rw [byteAt, if_pos hin, hkk]; simp [List.getD, hkl]
          have c0 := heap_cell (o := 0) hMr.box rfl
          have q0 := (hMr.row.cellAt kk (by omega)).trans (bys_get _ _ hkl)
          have q1 := hR.cell hjl
          have q2 := hR.frozen j
          have hst := hR.set j B[kk]
          have hstep : outN B a N (j + 1) = (outN B a N j).set j B[kk] := by rw [outN, hby]
          revert q0 hst hstep
          generalize B[kk] = x
          intro q0 hst hstep
          rw [← hstep] at hst
          have HST := Lib.hid hst
          rw [hkk] at hw
          revert q1
          generalize (outN B a N j)[j] = y
          intro q1
          clear hst hstep hby hin hMr hF hR hkl hjl hlow
          go_wp2
          go_roundw
          case rel => exact ⟨j + 1, by omega, by go_num, HF.out.setCell (p := ⟨w.heap.size, j, none⟩) (fun _ => rfl) _, HST.out⟩
          case measure => simp [intOf]; omega
        · have hsk := outN_skip B a N j hlt (by rw [byteAt, if_neg hin])
          have HSK := Lib.hid hsk
          by_cases h0 : 0 ≤ a + (j : Int)
          · have h1 : ¬ (a + (j : Int) < 8192) := fun h => hin ⟨h0, h⟩
            clear hin hsk hF hR hjl
            go_wp2
            go_roundw
            case rel => exact ⟨j + 1, by omega, by go_num, HF.out, by rw [HSK.out]; exact HR.out⟩
            case measure => simp [intOf]; omega
          · clear hin hsk hF hR hjl
            go_wp2
            go_roundw
            case rel => exact ⟨j + 1, by omega, by go_num, HF.out, by rw [HSK.out]; exact HR.out⟩
            case measure => simp [intOf]; omega
      · have hsk := outN_skip B a N j hlt (by rw [byteAt, if_neg (by omega)])
        have HSK := Lib.hid hsk
        clear hsk hF hR hjl
        go_wp2
        go_roundw
        case rel => exact ⟨j + 1, by omega, by go_num, HF.out, by rw [HSK.out]; exact HR.out⟩
        case measure => simp [intOf]; omega
    · have HF := Lib.hid hF
      have HR := Lib.hid hR
      clear hF hR
      go_wp2
      go_ret
      refine ⟨_, rfl, hF0.trans' HF.out (fun i hi e => by omega), ?_, Nat.le_refl _⟩
      have : N = j := by omega
      subst this
      exact HR.out

/-- Both memories behind a call. -/
def Tp (w : World) (mb : Nat) (A : Nat → Prop) (rb : Nat) (R : Nat → Prop) (F : List Int) (w' : World) : Prop :=
  ∃ A' R' B', Two w' mb A' rb R' F B' B' ∧ Fr (fun k => A k ∨ R k) w w' ∧ Gr w A A' ∧ Gr w R R'
theorem Tp.of {w w1 w2 : World} {mb rb : Nat} {A A1 R R2 : Nat → Prop} {F B B2 : List Int} (h : Two w mb A rb R F B B) (hp : Mp w mb A F B2 w1 A1) (hq : Rp w1 rb R F B2 w2 R2) : Tp w mb A rb R F w2 :=
  ⟨A1, R2, B2, (h.mem hp).ref hq, (hp.2.1.mono (fun i _ h => .inl h)).trans (hq.2.1.mono (fun i _ h => .inr h)), hp.2.2, fun j hj => by
    rcases hq.2.2 j hj with h1 | h1
    · exact .inl h1
    · exact .inr (Nat.le_trans hp.2.1.size h1)⟩
theorem Tp.fr {w w1 w2 : World} {mb rb : Nat} {A R : Nat → Prop} {F : List Int} (h : Tp w mb A rb R F w1) (hF : Fr No w1 w2) : Tp w mb A rb R F w2 := by
  obtain ⟨A', R', B', h1, h2, h3, h4⟩ := h
  exact ⟨A', R', B', h1.fr0 hF, h2.trans hF.no, h3, h4⟩
theorem Tp.ahead {w w1 w2 : World} {mb rb : Nat} {A R : Nat → Prop} {F : List Int} (hF : Fr No w w1) (h : Tp w1 mb A rb R F w2) : Tp w mb A rb R F w2 := by
  obtain ⟨A', R', B', h1, h2, h3, h4⟩ := h
  refine ⟨A', R', B', h1, hF.no.trans h2, fun j hj => ?_, fun j hj => ?_⟩
  · rcases h3 j hj with h5 | h5
    · exact .inl h5
    · exact .inr (Nat.le_trans hF.size h5)
  · rcases h4 j hj with h5 | h5
    · exact .inl h5
    · exact .inr (Nat.le_trans hF.size h5)
end Go.Proofs.YtoajnmbbgbpbgaaGreat
