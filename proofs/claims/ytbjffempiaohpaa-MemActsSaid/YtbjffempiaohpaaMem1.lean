/-
  The memory of chapter 9: what 'a memory of bytes B' is in the world; its page at a place.
-/
import Derived.Test.YtbjffempiaohpaaRow2
import Derived.Test.YtbjffempiaohpaaPure1
import Derived.Maps.OwnSet
import Derived.Maps.Own
import Derived.Deep.DeepCutAuto
import Derived.Deep.CutBlock
import Derived.Deep.RegionHeld3
namespace Go.Proofs.Ytbjffempiaohpaa
set_option linter.unusedVariables false
set_option linter.unusedSimpArgs false
open Go.RowKit Go.Shelf Go.Maps

/-- copy(row[o:o+dLen], source), of bytes that lie elsewhere: as many as there are and fit. -/
theorem Row.copyAt {w : World} {b : Nat} {t : TypeId} {l : List Int} (h : Row w b t l) (m : List Int) (ad : Addr) (o dLen dCap sLen sCap : Nat) (hn : m.length = Nat.min sLen dLen) (hsrc : ∀ j v, (bys m)[j]? = some v → w.cell? (ad.add j) = some v) (hfit : o + m.length ≤ l.length) :
    ∃ w', Row w' b t (spl l o m) ∧ Fr (fun k => k = b) w w' ∧ ∀ ty, (Builtin.copy_ #[22, 22] ty #[.slice (some ⟨b, o, none⟩) dLen dCap, .slice (some ad) sLen sCap]).run Try.prog w = .ok (.int .i64 m.length) w' := by
  obtain ⟨q1, q2⟩ := h.setRow (spl l o m)
  refine ⟨_, q1, q2, fun ty => ?_⟩
  rw [run_copy_row (P := Try.prog) w 22 22 ty 5 b o dLen dCap ad sLen sCap (bys l).toArray t (bys m) Try.underlying22 (by kernel_rfl) h (by rw [bys_len]; exact hn) hsrc (by simpa [bys] using hfit) (bys_one m)]
  rw [bys_spl, bys_len]; rfl
theorem spl_nil (l : List Int) (o : Nat) : spl l o [] = l := by simp [spl]
/-- copy(row[o:o+dLen], s), whatever slice s is. -/
theorem Row.copyAny {w : World} {b : Nat} {t : TypeId} {l : List Int} (h : Row w b t l) (s : List Int) (a : Option Addr) (o dLen dCap cap : Nat) (hv : Sl w (.slice a s.length cap) s.length (bys s)) (hfit : o + dLen ≤ l.length) :
    ∃ w', Row w' b t (spl l o (s.take dLen)) ∧ Fr (fun k => k = b) w w' ∧ ∀ ty, (Builtin.copy_ #[22, 22] ty #[.slice (some ⟨b, o, none⟩) dLen dCap, .slice a s.length cap]).run Try.prog w = .ok (.int .i64 (s.take dLen).length) w' := by
  cases a with
  | none =>
    obtain ⟨a', cap', e, h0, -⟩ := hv
    injection e with e1 e2 e3
    obtain ⟨h1, h2⟩ := h0.1 e1.symm
    obtain rfl : cap = 0 := by omega
    obtain rfl : s = [] := by cases s with | nil => rfl | cons x s => simp at h1
    rw [List.take_nil, spl_nil]
    refine ⟨w, h, Fr.refl _ _, fun ty => ?_⟩
    have := run_copy_nil (P := Try.prog) w 22 22 ty 5 ⟨b, o, none⟩ dLen dCap Try.underlying22 (by kernel_rfl)
    simpa [goInt] using this
  | some ad =>
    obtain ⟨w', h1, h2, h3⟩ := h.copyAt (s.take dLen) ad o dLen dCap s.length cap (by rw [List.length_take, Nat.min_comm]) (fun j v hj => by
      have hj' : (bys s)[j]? = some v := by
        simp only [bys, List.map_take, List.getElem?_take] at hj ⊢
        split at hj
        · exact hj
        · cases hj
      obtain ⟨a', cap', e, h0, h1, h2⟩ := hv
      injection e with e1 e2 e3
      obtain ⟨b', off, e4⟩ := h1 (by intro e; rw [e] at hj'; cases hj')
      have := h2 b' off j v e4 hj'
      rw [← e1] at e4
      injection e4 with e4
      subst e4
      simp only [Addr.add]
      split
      · next hz => subst hz; simpa using this
      · exact this) (by rw [List.length_take]; omega)
    exact ⟨w', h1, h2, fun ty => h3 ty⟩

/-- How a page's pointer reads in the map: as its block's number. -/
def heldR : Value → Option (DataW Unit × List MemPlace)
  | .pointer none => some (.lit (.int .i64 (-1)), [])
  | .pointer (some ⟨b, 0, none⟩) => some (.lit (.int .i64 b), [])
  | _ => none
theorem heldR_inv {v : Value} {d : DataW Unit} {ps : List MemPlace} (h : heldR v = some (d, ps)) : (v = .pointer none ∧ d = .lit (.int .i64 (-1))) ∨ ∃ b : Nat, v = .pointer (some ⟨b, 0, none⟩) ∧ d = .lit (.int .i64 b) := by
  unfold heldR at h
  split at h
  · simp at h; exact .inl ⟨rfl, h.1.symm⟩
  · rename_i b; simp at h; exact .inr ⟨b, rfl, h.1.symm⟩
  · cases h
theorem heldR_mk (b : Nat) : heldR (.pointer (some ⟨b, 0, none⟩)) = some (.lit (.int .i64 b), []) := rfl

/-- A page's bytes. -/
def pg (B : List Int) (p : Nat) : List Int := (B.drop (64 * p)).take 64
theorem pg_length (B : List Int) (p : Nat) (h : B.length = 8192) (hp : p < 128) : (pg B p).length = 64 := by simp [pg, h]; omega
theorem pg_get (B : List Int) (p r : Nat) (hr : r < 64) : (pg B p).getD r 0 = B.getD (64 * p + r) 0 := by
  simp [pg, List.getD, List.getElem?_take, hr]
theorem pg_set (B : List Int) (p r : Nat) (x : Int) (hr : r < 64) : pg (B.set (64 * p + r) x) p = (pg B p).set r x := by
  rw [pg, List.drop_set, if_neg (by omega), show 64 * p + r - 64 * p = r by omega, List.take_set]; rfl
theorem pg_set_other (B : List Int) (p q r : Nat) (x : Int) (hr : r < 64) (h : q ≠ p) : pg (B.set (64 * p + r) x) q = pg B q := by
  rw [pg, pg]
  rcases Nat.lt_or_ge q p with h1 | h1
  · rw [List.drop_set, if_neg (by omega), List.take_set_of_le (by omega)]
  · rw [List.drop_set_of_lt (by omega)]
theorem pg_range (B : List Int) (p : Nat) (h : ∀ b ∈ B, 0 ≤ b ∧ b < 256) : ∀ b ∈ pg B p, 0 ≤ b ∧ b < 256 := fun b hb => h b (List.mem_of_mem_drop (List.mem_of_mem_take hb))

/-- How many pages the map lacks. -/
def miss (P : Nat → Option Nat) : Nat := ((List.range 128).filter fun q => (P q).isNone).length
theorem filter_lt {Q Q' : Nat → Bool} {p : Nat} (h : ∀ q, Q' q = true → Q q = true) (h1 : Q p = true) (h2 : Q' p = false) : ∀ l : List Nat, p ∈ l → (l.filter Q').length + 1 ≤ (l.filter Q).length := by
  have hle : ∀ l : List Nat, (l.filter Q').length ≤ (l.filter Q).length := by
    intro l
    induction l with
    | nil => simp
    | cons a l ih =>
      by_cases ha : Q' a = true
      · rw [List.filter_cons_of_pos ha, List.filter_cons_of_pos (h a ha)]; simp; omega
      · rw [List.filter_cons_of_neg ha]
        by_cases hq : Q a = true
        · rw [List.filter_cons_of_pos hq]; simp; omega
        · rw [List.filter_cons_of_neg hq]; exact ih
  intro l
  induction l with
  | nil => simp
  | cons a l ih =>
    intro hp
    by_cases e : a = p
    · subst e
      rw [List.filter_cons_of_neg (by simp [h2]), List.filter_cons_of_pos h1]
      have := hle l; simp; omega
    · have hp' : p ∈ l := by rcases List.mem_cons.1 hp with h3 | h3; exact absurd h3.symm e; exact h3
      have := ih hp'
      by_cases ha : Q' a = true
      · rw [List.filter_cons_of_pos ha, List.filter_cons_of_pos (h a ha)]; simp; omega
      · rw [List.filter_cons_of_neg ha]
        by_cases hq : Q a = true
        · rw [List.filter_cons_of_pos hq]; simp; omega
        · rw [List.filter_cons_of_neg hq]; exact this
def putP (P : Nat → Option Nat) (p b : Nat) : Nat → Option Nat := fun q => if q = p then some b else P q
theorem miss_put (P : Nat → Option Nat) (p b : Nat) (hp : p < 128) (h : P p = none) : miss (putP P p b) + 1 ≤ miss P := by
  refine filter_lt (p := p) (fun q hq => ?_) (by simp [h]) (by simp [putP]) _ (List.mem_range.2 hp)
  simp only [putP] at hq
  split at hq
  · cases hq
  · exact hq

abbrev pkey (p : Nat) : Lit := .int .i64 p
theorem intKey : Keyed Try.prog 3 := int_keyed Try.underlying3

/-- A memory of bytes B that was made of bytes F: its box mb, its first bytes' block fb, its map pm, its pages' blocks P; all of it lies in the blocks A. -/
structure MemIn (w : World) (mb fb pm n : Nat) (D : DataW Unit) (P : Nat → Option Nat) (A : Nat → Prop) (F B : List Int) : Prop where
  box : w.heap[mb]? = some (.cells #[.pointer none, .map (some pm), .slice (some ⟨fb, 0, none⟩) 8192 8192] 65 (0, 0))
  first : Row w fb 5 F
  flen : F.length = 8192
  blen : B.length = 8192
  frange : ∀ b ∈ F, 0 ≤ b ∧ b < 256
  brange : ∀ b ∈ B, 0 ≤ b ∧ b < 256
  map : w.ownsMap Try.prog 3 heldR pm n D
  cnt : n + miss P ≤ 128
  has : ∀ p, p < 128 → Maps.has D (pkey p) = (P p).isSome
  only : ∀ kl, Maps.has D kl = true → ∃ p, p < 128 ∧ kl = pkey p
  get : ∀ p b, p < 128 → P p = some b → D.atKey (pkey p) (.lit (.int .i64 (-1))) = .lit (.int .i64 b)
  held : ∀ p b, p < 128 → P p = some b → A b ∧ Row w b 87 (pg F p ++ pg B p)
  none_ : ∀ p, p < 128 → P p = none → pg B p = pg F p
  inj : ∀ p q b, p < 128 → q < 128 → P p = some b → P q = some b → p = q
  amb : A mb
  afb : A fb
  apm : A pm
  low : ∀ j, A j → j < w.heap.size
def MemAt (w : World) (mb : Nat) (A : Nat → Prop) (F B : List Int) : Prop := ∃ fb pm n D P, MemIn w mb fb pm n D P A F B

theorem ownsMap_fr {S : Nat → Prop} {w w' : World} {pm n : Nat} {D : DataW Unit} (h : w.ownsMap Try.prog 3 heldR pm n D) (hF : Fr S w w') (hn : ¬ S pm) : w'.ownsMap Try.prog 3 heldR pm n D := by
  obtain ⟨es, clock, hb, r⟩ := h
  exact ⟨es, clock, hF.heap hb hn, r⟩
/-- What leaves a memory's blocks as they are leaves the memory. -/
theorem MemIn.fr {S : Nat → Prop} {w w' : World} {mb fb pm n : Nat} {D : DataW Unit} {P : Nat → Option Nat} {A : Nat → Prop} {F B : List Int} (h : MemIn w mb fb pm n D P A F B) (hF : Fr S w w') (hn : ∀ k, S k → ¬ A k) : MemIn w' mb fb pm n D P A F B where
  box := hF.heap h.box (fun hs => hn _ hs h.amb)
  first := h.first.fr hF (fun hs => hn _ hs h.afb)
  flen := h.flen
  blen := h.blen
  frange := h.frange
  brange := h.brange
  map := ownsMap_fr h.map hF (fun hs => hn _ hs h.apm)
  cnt := h.cnt
  has := h.has
  only := h.only
  get := h.get
  held := fun p b hp hb => ⟨(h.held p b hp hb).1, (h.held p b hp hb).2.fr hF (fun hs => hn _ hs (h.held p b hp hb).1)⟩
  none_ := h.none_
  inj := h.inj
  amb := h.amb
  afb := h.afb
  apm := h.apm
  low := fun j hj => Nat.lt_of_lt_of_le (h.low j hj) hF.size
theorem MemAt.fr {S : Nat → Prop} {w w' : World} {mb : Nat} {A : Nat → Prop} {F B : List Int} (h : MemAt w mb A F B) (hF : Fr S w w') (hn : ∀ k, S k → ¬ A k) : MemAt w' mb A F B := by
  obtain ⟨fb, pm, n, D, P, h⟩ := h; exact ⟨fb, pm, n, D, P, h.fr hF hn⟩
theorem MemAt.fr0 {w w' : World} {mb : Nat} {A : Nat → Prop} {F B : List Int} (h : MemAt w mb A F B) (hF : Fr No w w') : MemAt w' mb A F B := h.fr hF (fun _ h => h.elim)

theorem heap_ty {w : World} {b : Nat} {cs cs' : Array Value} {t t' : TypeId} {fr fr' : Nat × Nat} (h : w.heap[b]? = some (.cells cs t fr)) (h' : w.heap[b]? = some (.cells cs' t' fr')) : t = t' := by
  rw [h] at h'; injection h' with h'; injection h'
/-- A byte of a page stored. -/
theorem MemIn.store {w : World} {mb fb pm n : Nat} {D : DataW Unit} {P : Nat → Option Nat} {A : Nat → Prop} {F B : List Int} (h : MemIn w mb fb pm n D P A F B) {p r b : Nat} (hp : p < 128) (hr : r < 64) (hb : P p = some b) (x : Int) (hx : 0 ≤ x ∧ x < 256) :
    MemIn (w.setCell ⟨b, 64 + r, none⟩ (.int .u8 x)) mb fb pm n D P A F (B.set (64 * p + r) x) := by
  obtain ⟨hA, hR⟩ := h.held p b hp hb
  have hF : Fr (fun k => k = b) w (w.setCell ⟨b, 64 + r, none⟩ (.int .u8 x)) := (Fr.refl (fun k => k = b) w).setCell (p := ⟨b, 64 + r, none⟩) (fun _ => rfl) (.int .u8 x)
  have n1 : mb ≠ b := fun e => by subst e; exact absurd (heap_ty h.box hR) (by decide)
  have n2 : fb ≠ b := fun e => by subst e; exact absurd (heap_ty h.first hR) (by decide)
  have n3 : pm ≠ b := fun e => by subst e; obtain ⟨es, clock, h1, _⟩ := h.map; rw [show w.heap[pm]? = _ from hR] at h1; cases h1
  exact
  { box := hF.heap h.box n1
    first := h.first.fr hF n2
    flen := h.flen
    blen := by rw [List.length_set]; exact h.blen
    frange := h.frange
    brange := fun y hy => by
      rcases List.mem_or_eq_of_mem_set hy with h1 | h1
      · exact h.brange y h1
      · rw [h1]; exact hx
    map := ownsMap_fr h.map hF n3
    cnt := h.cnt
    has := h.has
    only := h.only
    get := h.get
    held := fun q c hq hc => by
      by_cases e : q = p
      · subst e
        rw [hb] at hc; cases hc
        refine ⟨hA, ?_⟩
        have h2 := hR.set (64 + r) x
        rw [List.set_append_right _ _ (by rw [pg_length _ _ h.flen hp]; omega), pg_length _ _ h.flen hp, show 64 + r - 64 = r by omega] at h2
        rw [pg_set _ _ _ _ hr]
        exact h2
      · obtain ⟨g1, g2⟩ := h.held q c hq hc
        refine ⟨g1, ?_⟩
        rw [pg_set_other _ _ _ _ _ hr e]
        exact g2.fr hF (fun e2 => e (h.inj q p b hq hp (by rw [hc, e2]) hb))
    none_ := fun q hq hc => by
      have e : q ≠ p := fun e => by subst e; rw [hb] at hc; cases hc
      rw [pg_set_other _ _ _ _ _ hr e]; exact h.none_ q hq hc
    inj := h.inj
    amb := h.amb
    afb := h.afb
    apm := h.apm
    low := fun j hj => by have := h.low j hj; have := hF.size; omega }

/-- A page is read into the map: block b holds its bytes twice. -/
theorem MemIn.page {w w' : World} {mb fb pm n : Nat} {D : DataW Unit} {P : Nat → Option Nat} {A : Nat → Prop} {F B : List Int} (h : MemIn w mb fb pm n D P A F B) {p b : Nat} (hp : p < 128) (hb : P p = none) (hF : Fr (fun k => k = pm) w w') (hbl : w.heap.size ≤ b)
    (hm : w'.ownsMap Try.prog 3 heldR pm (n + 1) (D.put (pkey p) (.lit (.int .i64 b)))) (hR : Row w' b 87 (pg F p ++ pg F p)) : MemIn w' mb fb pm (n + 1) (D.put (pkey p) (.lit (.int .i64 b))) (putP P p b) (fun j => A j ∨ j = b) F B := by
  have n1 : mb ≠ pm := fun e => by subst e; obtain ⟨es, clock, h1, _⟩ := h.map; rw [h.box] at h1; cases h1
  have n2 : fb ≠ pm := fun e => by subst e; obtain ⟨es, clock, h1, _⟩ := h.map; rw [show w.heap[fb]? = _ from h.first] at h1; cases h1
  have hM := h.map.isMap
  have hne : ∀ q, q ≠ p → pkey q ≠ pkey p := fun q e e2 => e (by simp [pkey] at e2; omega)
  have hk : WideAt.IsKeyLit (pkey p) := by simp [WideAt.IsKeyLit]
  exact
  { box := hF.heap h.box n1
    first := h.first.fr hF n2
    flen := h.flen
    blen := h.blen
    frange := h.frange
    brange := h.brange
    map := hm
    cnt := by have := miss_put P p b hp hb; have := h.cnt; omega
    has := fun q hq => by
      by_cases e : q = p
      · subst e; rw [has_put_same hM hk]; simp [putP]
      · rw [has_put_other (hne q e), h.has q hq]; simp [putP, e]
    only := fun kl hkl => by
      by_cases e : kl = pkey p
      · exact ⟨p, hp, e⟩
      · rw [has_put_other e] at hkl; exact h.only kl hkl
    get := fun q c hq hc => by
      by_cases e : q = p
      · subst e; simp [putP] at hc; subst hc; rw [atKey_put_same hM hk]
      · rw [atKey_put_other (hne q e)]; simp [putP, e] at hc; exact h.get q c hq hc
    held := fun q c hq hc => by
      by_cases e : q = p
      · subst e; simp [putP] at hc; subst hc; rw [h.none_ q hq hb]; exact ⟨.inr rfl, hR⟩
      · simp [putP, e] at hc
        obtain ⟨g1, g2⟩ := h.held q c hq hc
        exact ⟨.inl g1, g2.fr hF (fun e2 => by subst e2; obtain ⟨es, clock, h1, _⟩ := h.map; rw [show w.heap[c]? = _ from g2] at h1; cases h1)⟩
    none_ := fun q hq hc => by
      by_cases e : q = p
      · subst e; simp [putP] at hc
      · simp [putP, e] at hc; exact h.none_ q hq hc
    inj := fun q r c hq hr hc hd => by
      by_cases e : q = p
      · by_cases e2 : r = p
        · omega
        · subst e; simp [putP] at hc; simp [putP, e2] at hd; subst hc
          have := (h.held r b hr hd).2.lt; omega
      · by_cases e2 : r = p
        · subst e2; simp [putP] at hd; simp [putP, e] at hc; subst hd
          have := (h.held q b hq hc).2.lt; omega
        · simp [putP, e] at hc; simp [putP, e2] at hd; exact h.inj q r c hq hr hc hd
    amb := .inl h.amb
    afb := .inl h.afb
    apm := .inl h.apm
    low := fun j hj => by
      rcases hj with hj | hj
      · have := h.low j hj; have := hF.size; omega
      · subst hj; exact hR.lt }
end Go.Proofs.Ytbjffempiaohpaa
