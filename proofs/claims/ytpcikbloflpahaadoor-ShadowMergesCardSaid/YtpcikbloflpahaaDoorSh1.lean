/-
  Chapter 7: Path, Merge.
-/
import Derived.Test.YtpcikbloflpahaaDoorSg
namespace Go.Proofs.YtpcikbloflpahaaDoor
set_option linter.unusedVariables false
set_option linter.unusedSimpArgs false
open Go.RowKit Go.Shelf Go.Maps

/-- Bytes as they came: where, capacity, bytes. -/
abbrev Byt := Option Addr × Nat × List Int
def bytC (y : Byt) : Value := .slice y.1 y.2.2.length y.2.1
/-- A change as it came. -/
abbrev ChA := Int × Byt
def chaC (y : ChA) : List Value := [.int .i64 y.1, bytC y.2]
def chaOk (W : World) (y : ChA) : Prop := (-9223372036854775808 ≤ y.1 ∧ y.1 ≤ 9223372036854775807) ∧ Sl W (bytC y.2) y.2.2.2.length (bys y.2.2.2) ∧ y.2.2.2.length ≤ 140737488355328 ∧ ∀ b ∈ y.2.2.2, 0 ≤ b ∧ b < 256
def goodC (y : ChA) : Prop := 0 ≤ y.1 ∧ y.1 < 128 ∧ y.2.2.2.length = 64
/-- What was said last of a page. -/
def lastG {α : Type} (L : List (Int × α)) (p : Int) : Option α := L.foldl (fun o c => if c.1 = p then some c.2 else o) none
theorem lastG_snoc {α : Type} (L : List (Int × α)) (c : Int × α) (p : Int) : lastG (L ++ [c]) p = if c.1 = p then some c.2 else lastG L p := by simp [lastG]
theorem lastG_take {α : Type} {L : List (Int × α)} {j : Nat} (h : j < L.length) (p : Int) : lastG (L.take (j + 1)) p = if L[j].1 = p then some L[j].2 else lastG (L.take j) p := by
  rw [List.take_succ_eq_append_getElem h, lastG_snoc]
theorem lastG_mem {α : Type} {L : List (Int × α)} {p : Int} {y : α} (h : lastG L p = some y) : (p, y) ∈ L := by
  suffices ∀ n ≤ L.length, lastG (L.take n) p = some y → (p, y) ∈ L by
    have := this L.length (Nat.le_refl _)
    rw [List.take_length] at this
    exact this h
  intro n
  induction n with
  | zero => intro _ h; simp [lastG] at h
  | succ n ih =>
    intro hn h
    rw [lastG_take (by omega)] at h
    split at h
    · next e => injection h with h; rw [← h, ← e]; exact List.getElem_mem (by omega)
    · exact ih (by omega) h
def pagesG (L : List ChA) : Nat → List ChA
  | 0 => []
  | n + 1 => pagesG L n ++ (match lastG L n with | some b => [((n : Int), b)] | none => [])
theorem pagesG_len (L : List ChA) (n : Nat) : (pagesG L n).length ≤ n := by
  induction n with
  | zero => exact Nat.le_refl _
  | succ n ih => rw [pagesG, List.length_append]; split <;> simp <;> omega
theorem pagesG_none {L : List ChA} {n : Nat} (h : lastG L n = none) : pagesG L (n + 1) = pagesG L n := by rw [pagesG, h]; simp
theorem pagesG_some {L : List ChA} {n : Nat} {b : Byt} (h : lastG L n = some b) : pagesG L (n + 1) = pagesG L n ++ [((n : Int), b)] := by rw [pagesG, h]
/-- Changes as the call has made them: bytes of its own. -/
abbrev Chg := Int × List Int
def outG (L : List ChA) : List Chg := L.map fun y => (y.1, y.2.2.2)
theorem outG_len (L : List ChA) : (outG L).length = L.length := List.length_map ..
theorem outG_snoc (L : List ChA) (y : ChA) : outG (L ++ [y]) = outG L ++ [(y.1, y.2.2.2)] := by simp [outG]
def chgCells (vs : List (Int × Value)) : List Value := vs.flatMap fun p => [.int .i64 p.1, p.2]
theorem chgCells_snoc (vs : List (Int × Value)) (s : Int) (v : Value) : chgCells (vs ++ [(s, v)]) = chgCells vs ++ [.int .i64 s, v] := by simp [chgCells]
def ChV (n0 : Nat) (cs : List Chg) (vs : List (Int × Value)) (W : World) : Prop :=
  cs.length = vs.length ∧ ∀ i (h1 : i < cs.length) (h2 : i < vs.length), vs[i].1 = cs[i].1 ∧ W.ownsRow n0 5 1 vs[i].2 cs[i].2.length (bys cs[i].2)
theorem ChV.nil (n0 : Nat) (W : World) : ChV n0 [] [] W := ⟨rfl, fun i h => absurd h (Nat.not_lt_zero i)⟩
theorem ChV.imp {n0 : Nat} {cs : List Chg} {vs : List (Int × Value)} {W W' : World} (h : ChV n0 cs vs W) (hi : ∀ n v xs, W.ownsRow n0 5 1 v n xs → W'.ownsRow n0 5 1 v n xs) : ChV n0 cs vs W' :=
  ⟨h.1, fun i h1 h2 => ⟨(h.2 i h1 h2).1, hi _ _ _ (h.2 i h1 h2).2⟩⟩
theorem ChV.fr0 {n0 : Nat} {cs : List Chg} {vs : List (Int × Value)} {W W' : World} (h : ChV n0 cs vs W) (hF : Fr No W W') : ChV n0 cs vs W' := h.imp (fun n v xs hv => ownsRow_fr7 hv hF (fun _ _ h => h))
theorem ChV.snoc {n0 : Nat} {cs : List Chg} {vs : List (Int × Value)} {W : World} (h : ChV n0 cs vs W) {x : Chg} {v : Value} (hv : W.ownsRow n0 5 1 v x.2.length (bys x.2)) : ChV n0 (cs ++ [x]) (vs ++ [(x.1, v)]) W := by
  refine ⟨by rw [List.length_append, List.length_append, h.1]; rfl, fun i h1 h2 => ?_⟩
  have hl := h.1
  by_cases hi : i < cs.length
  · rw [List.getElem_append_left hi, List.getElem_append_left (by omega)]
    exact h.2 i hi (by omega)
  · have e : i = cs.length := by simp at h1; omega
    subst e
    rw [List.getElem_append_right (Nat.le_refl _), List.getElem_append_right (by omega)]
    simp only [Nat.sub_self, List.getElem_cons_zero, hl]
    exact ⟨trivial, hv⟩
theorem el_chg : Elem Tryd.prog 22 32 (.agg #[.int .i64 0, .slice none 0 0]) 2 32 := ⟨by kernel_rfl, by kernel_rfl, rfl, by decide⟩
theorem flat_get7 {α : Type} (cells : α → List Value) (sz : Nat) (hcl : ∀ y, (cells y).length = sz) (L : List α) (k i : Nat) (hk : k < L.length) (hi : i < sz) : (L.flatMap cells)[k * sz + i]? = (cells L[k])[i]? := by
  induction L generalizing k with
  | nil => simp at hk
  | cons y L ih =>
    rw [List.flatMap_cons]
    cases k with
    | zero => rw [List.getElem?_append_left (by rw [hcl]; omega)]; simp
    | succ k =>
      rw [List.getElem?_append_right (by rw [hcl, Nat.succ_mul]; omega), hcl, show (k + 1) * sz + i - sz = k * sz + i by rw [Nat.succ_mul]; omega, ih k (by simpa using hk)]
      rfl

def pathF (p : Int) : Int × Int × Int := if 0 ≤ p ∧ p < 128 then (p / 32, p % 32, 0) else (0, 0, 1)
set_option maxRecDepth 100000 in
theorem path_calls (p : Int) (w : World) : Calls Tryd.prog 33 #[.int .i64 p] w fun e w' => e = .returned (.tuple #[.int .i64 (pathF p).1, .int .i64 (pathF p).2.1, .int .i64 (pathF p).2.2]) ∧ w = w' := by
  by_cases h : 0 ≤ p ∧ p < 128
  · have hr : pathF p = (p / 32, p % 32, 0) := if_pos h
    rw [hr]
    have d1 : decide (p < 0) = false := decide_eq_false (by omega)
    have d2 : decide (128 ≤ p) = false := decide_eq_false (by omega)
    have e1 : Int.tdiv p 32 = p / 32 := Int.tdiv_eq_ediv_of_nonneg h.1
    have e2 : Int.tmod p 32 = p % 32 := Int.tmod_eq_emod_of_nonneg h.1
    have W1 : RowKit.Hid (wrap64 (p / 32) = p / 32) := Lib.hid (by unfold wrap64; omega)
    clear h hr
    go_enter Tryd.func33, Tryd.ntmps33
    go_wp2
    go_ret3
    exact ⟨by show Ending.returned (.tuple #[.int .i64 (wrap64 (p / 32)), .int .i64 (p % 32), .int .i64 0]) = _; rw [W1.out], rfl⟩
  · have hr : pathF p = (0, 0, 1) := if_neg h
    rw [hr]
    have hd : decide (p < 0) = true ∨ (decide (p < 0) = false ∧ decide (128 ≤ p) = true) := by
      by_cases h0 : p < 0
      · exact .inl (decide_eq_true h0)
      · exact .inr ⟨decide_eq_false h0, decide_eq_true (by omega)⟩
    clear h hr
    rcases hd with d1 | ⟨d1, d2⟩
    all_goals
      go_enter Tryd.func33, Tryd.ntmps33
      go_wp2
      go_ret3
      exact ⟨rfl, rfl⟩

/-- What Merge hands back. -/
def MergeP (w : World) (L : List ChA) (e : Ending) (w' : World) : Prop :=
  ((∀ y ∈ L, goodC y) ∧ ∃ r vs, e = .returned (.tuple #[r, .int .i64 0]) ∧ Fr No w w' ∧ w'.ownsRow w.heap.size 32 2 r (pagesG L 128).length (chgCells vs) ∧ ChV w.heap.size (outG (pagesG L 128)) vs w') ∨
  ((∃ y ∈ L, ¬ goodC y) ∧ e = .returned (.tuple #[.slice none 0 0, .int .i64 1]) ∧ Fr No w w')

set_option maxHeartbeats 8000000 in
set_option maxRecDepth 1000000 in
theorem merge_calls (v : Value) (L : List ChA) (w : World) (hv : Sl w v L.length (L.flatMap chaC)) (hok : ∀ y ∈ L, chaOk w y) (hlen : L.length ≤ 140737488355328) :
    Calls Tryd.prog 10 #[v] w (MergeP w L) := by
  obtain ⟨av, cv, rfl⟩ := hv.form
  have hmm : ∀ w : World, (Instr.makeMap 77 none).run Tryd.prog w = .ok (.map (some w.heap.size)) (w.alloc (.map #[] 0)) := fun _ => rfl
  have hz : ∀ w : World, (zeroValue 30).run Tryd.prog w = .ok (.slice none 0 0) w := fun _ => by kernel_rfl
  have HV := Lib.hid hv
  have HOK := Lib.hid hok
  have HLEN := Lib.hid hlen
  clear hv hok
  go_enter Tryd.func10, Tryd.ntmps10
  go_wp2_with fail
  go_loopw [17] (fun i wr => ∃ (j c : Nat), j ≤ L.length ∧ c ≤ j ∧ i = .int .i64 j ∧ (∀ y ∈ L.take j, goodC y) ∧ MapAt Tryd.prog 3 wr w.heap.size c (fun p => (lastG (L.take j) p).map bytC) ∧ Fr No w wr) (fun i _ => L.length - (intOf i).toNat)
  case atStart => exact ⟨0, 0, Nat.zero_le _, Nat.le_refl _, rfl, by simp, MapAt.made _ _ _, (Fr.refl _ _).alloc _⟩
  case round =>
    obtain ⟨j, c, hj, hcj, rfl, hgd, hmap, hF⟩ := hrel
    by_cases hlt : j < L.length
    · have g0 := flat_get7 chaC 2 (fun _ => rfl) L j 0 hlt (by omega)
      have g1 := flat_get7 chaC 2 (fun _ => rfl) L j 1 hlt (by omega)
      have hyk := HOK.out _ (List.getElem_mem hlt)
      have htk := fun p => lastG_take (L := L) hlt p
      have hgt : ∀ y ∈ L.take (j + 1), y ∈ L.take j ∨ y = L[j] := fun y hy => by
        rw [List.take_succ_eq_append_getElem hlt, List.mem_append, List.mem_singleton] at hy; exact hy
      have hmem : L[j] ∈ L := List.getElem_mem hlt
      revert g0 g1 hyk htk hgt hmem
      generalize L[j] = y
      obtain ⟨pg, ad, cp, bs⟩ := y
      intro g0 g1 hyk htk hgt hmem
      simp only [chaC, bytC, List.getElem?_cons_zero, List.getElem?_cons_succ] at g0 g1
      obtain ⟨hpr, hsl, hbl, hbr⟩ := hyk
      dsimp only [bytC] at hpr hsl hbl hbr
      obtain ⟨b, off, rfl, hb, hc⟩ := HV.out.at (by intro e; rw [e] at g0; simp at g0)
      have c0 := hF.cell (hc _ _ g0) (fun h => h)
      have c1 := hF.cell (hc _ _ g1) (fun h => h)
      simp only [← Nat.add_assoc, Nat.add_zero] at c0 c1
      have HP := Lib.hid (path_calls pg)
      have HF := Lib.hid hF
      have HM := Lib.hid hmap
      have HGD := Lib.hid hgd
      have HGT := Lib.hid hgt
      have HTK := Lib.hid htk
      have HMEM := Lib.hid hmem
      clear g0 g1 hc hF hmap hgd hgt htk hmem hsl hbr
      by_cases hp : 0 ≤ pg ∧ pg < 128
      · have hpf : pathF pg = (pg / 32, pg % 32, 0) := if_pos hp
        rw [hpf] at HP
        dsimp only at HP
        by_cases hl : bs.length = 64
        · have q1 : ((bs.length : Int) != 64) = false := by simp; omega
          have HGJ := Lib.hid (show goodC (pg, ad, cp, bs) from ⟨hp.1, hp.2, hl⟩)
          clear hpf hp hl
          go_wp2_with fail
          refine (HP.out _).mono ?_
          rintro e w2 ⟨rfl, rfl⟩
          have HMA := Lib.hid (HM.out.fr ((Fr.refl No _).alloc (Obj.cells #[.int .i64 pg, .slice ad bs.length cp] 32)) (fun h => h))
          go_wp2_with (first | (at_mapUpdate; (refine map_put rfl (.tmp 36) (.tmp 38) (.tmp 40) 77 rfl rfl HMA.out Tryd.underlying3 Tryd.underlying77 (by unfold maxLen; have := HLEN.out; omega) pg hpr (.slice ad bs.length cp) rfl rfl ?_; intro w4 hmap4 hF4)) | fail "arm")
          have HF4 := Lib.hid (show Fr No w w4 from (HF.out.alloc (Obj.cells #[.int .i64 pg, .slice ad bs.length cp] 32)).trans' hF4 (fun i hi e => by omega))
          have HM4 := Lib.hid hmap4
          clear hmap4 hF4
          go_wp2_with fail
          go_roundw
          case rel =>
            refine ⟨j + 1, if ((fun p => (lastG (L.take j) p).map bytC) pg).isSome then c else c + 1, by omega, ?_, by go_num, fun y hy => ?_, ?_, HF4.out⟩
            rotate_left 2
            · have h4 := HM4.out
              have : upd (fun p => (lastG (L.take j) p).map bytC) pg (some (.slice ad bs.length cp)) = fun p => (lastG (L.take (j + 1)) p).map bytC := by
                funext p
                rw [HTK.out p]
                by_cases e : p = pg
                · subst e; rw [upd_same, if_pos rfl]; rfl
                · rw [upd_ne _ _ e, if_neg (fun h => e h.symm)]
              rw [this] at h4
              exact h4
            · split <;> omega
            · rcases HGT.out y hy with h | rfl
              · exact HGD.out y h
              · exact HGJ.out
          case measure => simp [intOf]; omega
        · have q1 : ((bs.length : Int) != 64) = true := by simp; omega
          have HBAD := Lib.hid (show ∃ y ∈ L, ¬ goodC y from ⟨_, HMEM.out, fun h => hl h.2.2⟩)
          clear hpf hp hl
          go_wp2_with fail
          refine (HP.out _).mono ?_
          rintro e w2 ⟨rfl, rfl⟩
          go_wp2
          go_ret2
          exact .inr ⟨HBAD.out, rfl, HF.out.alloc _⟩
      · have hpf : pathF pg = (0, 0, 1) := if_neg hp
        rw [hpf] at HP
        dsimp only at HP
        have HBAD := Lib.hid (show ∃ y ∈ L, ¬ goodC y from ⟨_, HMEM.out, fun h => hp ⟨h.1, h.2.1⟩⟩)
        clear hpf hp
        go_wp2_with fail
        refine (HP.out _).mono ?_
        rintro e w2 ⟨rfl, rfl⟩
        go_wp2
        go_ret2
        exact .inr ⟨HBAD.out, rfl, HF.out.alloc _⟩
    · obtain rfl : j = L.length := by omega
      rw [List.take_length] at hgd hmap
      have HGD := Lib.hid hgd
      have HM := Lib.hid hmap
      have HF := Lib.hid hF
      clear hgd hmap hF hlt
      go_wp2_with fail
      go_loopw [10, 42] (fun ov i wx => ∃ (n : Nat) (vs : List (Int × Value)), n ≤ 128 ∧ i = .int .i64 n ∧ MapAt Tryd.prog 3 wx w.heap.size c (fun p => (lastG L p).map bytC) ∧ Fr No w wx ∧ wx.ownsRow w.heap.size 32 2 ov (pagesG L n).length (chgCells vs) ∧ ChV w.heap.size (outG (pagesG L n)) vs wx) (fun _ i _ => 128 - (intOf i).toNat)
      case atStart => exact ⟨0, [], Nat.zero_le _, rfl, HM.out, HF.out, World.ownsRow_nil _ _ _ _, ChV.nil _ _⟩
      case round =>
        obtain ⟨n, vs, hn, rfl, hmp, hF, hown, hvs⟩ := hrel
        obtain ⟨ao, co, rfl⟩ := (Sl.of_owns hown).form
        have hlk := (hmp.look Tryd.underlying3 Tryd.underlying77 (hz _) (n : Int) (by omega)).1
        have HMP := Lib.hid hmp
        have HF2 := Lib.hid hF
        have HOW := Lib.hid hown
        have HVS := Lib.hid hvs
        have hpl := pagesG_len L n
        clear hmp hF hown hvs
        by_cases hlt : n < 128
        · have hd : decide ((n : Int) < 128) = true := decide_eq_true (by omega)
          cases hl : lastG L n with
          | none =>
            rw [hl] at hlk
            have HE := Lib.hid (pagesG_none hl)
            clear hl
            simp only [Option.map_none, Option.getD_none, Option.isSome_none] at hlk
            go_wp2_with fail
            go_roundw
            case rel => exact ⟨n + 1, vs, by omega, by go_num, HMP.out, HF2.out, by rw [HE.out]; exact HOW.out, by rw [HE.out]; exact HVS.out⟩
            case measure => simp [intOf]; omega
          | some y =>
            rw [hl] at hlk
            have HE := Lib.hid (pagesG_some hl)
            have hy := HOK.out _ (lastG_mem hl)
            have hgy := HGD.out _ (lastG_mem hl)
            clear hl
            obtain ⟨ad, cp, bs⟩ := y
            simp only [Option.map_some, Option.getD_some, Option.isSome_some, bytC] at hlk
            obtain ⟨-, hsl, -, -⟩ := hy
            have HB64 : RowKit.Hid (bs.length = 64) := Lib.hid hgy.2.2
            dsimp only [bytC] at hsl
            have HSL := Lib.hid (hsl.fr0 HF2.out)
            have HFS := Lib.hid HF2.out.size
            generalize hpg : (pagesG L n).length = pl at *
            have HPG := Lib.hid hpg
            clear hsl hgy hpg
            go_wp2_with (first
              | (at_builtin; (refine append_at7 el_u8 rfl _ (.tmp 54) rfl w.heap.size (.slice none 0 0) 0 [] rfl (World.ownsRow_nil _ _ _ _) rfl HSL.out (by simp [bys]) (bys_one _) (by unfold maxLen; have := HB64.out; omega) (by have := HB64.out; omega) HFS.out ?_; intro a3 n3 c3 w3 hown3 hgrow3 hlie3; rw [Nat.zero_add, List.nil_append] at hown3))
              | (at_builtin; (refine append_at7 (m := 1) el_chg rfl (.tmp 52) (.tmp 57) rfl w.heap.size (.slice ao pl co) pl (chgCells vs) rfl ((ownsRow_fr7 HOW.out (fr_grown7 hgrow3) (fun k _ e => by cases e)).alloc _) rfl (sl_new7 w3 [.int .i64 (n : Int), .slice a3 n3 c3] _ 1 (by simp) (by omega)) rfl (fun u hu => by simp at hu; rcases hu with rfl | rfl <;> rfl) (by unfold maxLen; omega) (by omega) (Nat.le_trans HFS.out (Nat.le_trans (fr_grown7 hgrow3).size ((Fr.refl No _).alloc _).size)) ?_; intro a5 n5 c5 w5 hown5 hgrow5 hlie5))
              | fail "arm")
            have hF3 : Fr No wr w3 := (Fr.refl No wr).trans' (fr_grown7 hgrow3) (fun i hi e => by cases e)
            have hFa := hF3.alloc (Obj.cells #[.int .i64 (n : Int), .slice a3 n3 c3] 32)
            have hO3 := HOW.out
            have hF5 : Fr (fun k => (Value.slice ao pl co).ownBlock = some k) wr w5 := hFa.no.trans (fr_grown7 hgrow5)
            have HF5 := Lib.hid (show Fr No w w5 from HF2.out.trans' hF5 (fun i hi e => by have := (hO3.lt i e).1; omega))
            have hap : ∀ {m : Nat} {v : Value} {xs : List Value}, (w3.alloc (Obj.cells #[.int .i64 (n : Int), .slice a3 n3 c3] 32)).ownsRow w.heap.size 5 1 v m xs → w5.ownsRow w.heap.size 5 1 v m xs := fun hv =>
              ownsRow_fr7 hv (fr_grown7 hgrow5) (fun q e e' => rows_apart7 ((ownsRow_fr7 hO3 hF3 (fun _ _ h => h)).alloc _) hv (by decide) q e' e)
            have HVS5 := Lib.hid ((HVS.out.fr0 hFa).imp (fun _ _ _ hv => hap hv))
            have HB5 := Lib.hid (hap (hown3.alloc (Obj.cells #[.int .i64 (n : Int), .slice a3 n3 c3] 32)))
            have HM5 := Lib.hid (HMP.out.fr hF5 (fun e => map_apart7 HMP.out hO3 e))
            have HO5 := Lib.hid hown5
            clear hF3 hFa hO3 hF5 hap hown3 hgrow3 hlie3 hown5 hgrow5 hlie5
            go_wp2_with fail
            go_roundw
            case rel =>
              refine ⟨n + 1, vs ++ [((n : Int), .slice a3 n3 c3)], by omega, by go_num, HM5.out, HF5.out, ?_, ?_⟩
              · rw [HE.out, List.length_append, HPG.out, chgCells_snoc]; exact HO5.out
              · rw [HE.out, outG_snoc]; exact HVS5.out.snoc HB5.out
            case measure => simp [intOf]; omega
        · obtain rfl : n = 128 := by omega
          have hd : decide (((128 : Nat) : Int) < 128) = false := by decide
          go_wp2
          go_ret2
          exact .inl ⟨HGD.out, _, vs, rfl, HF2.out, HOW.out, HVS.out⟩
end Go.Proofs.YtpcikbloflpahaaDoor
