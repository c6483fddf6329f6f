/-
  Chapter 7: the reference's Merge; few.
-/
import Derived.Test.YtpcikbloflpahaaDoorSh1
namespace Go.Proofs.YtpcikbloflpahaaDoor
set_option linter.unusedVariables false
set_option linter.unusedSimpArgs false
open Go.RowKit Go.Shelf Go.Maps

theorem foldl_last {α : Type} (p : Int) (B : List (Int × α)) : ∀ o : Option α, B.foldl (fun o c => if c.1 = p then some c.2 else o) o = ((lastG B p).or o) := by
  unfold lastG
  induction B with
  | nil => intro o; rfl
  | cons c B ih =>
    intro o
    rw [List.foldl_cons, List.foldl_cons, ih, ih (if c.1 = p then some c.2 else none)]
    split
    · cases (List.foldl (fun o c => if c.1 = p then some c.2 else o) none B) <;> rfl
    · cases (List.foldl (fun o c => if c.1 = p then some c.2 else o) none B) <;> rfl
theorem lastG_app {α : Type} (A B : List (Int × α)) (p : Int) : lastG (A ++ B) p = (lastG B p).or (lastG A p) := by
  conv => lhs; unfold lastG
  rw [List.foldl_append, foldl_last]; rfl
theorem last_drop {α : Type} {L : List (Int × α)} {m : Nat} (h : m < L.length) {p : Int} (hd : lastG (L.drop (m + 1)) p = none) : (L[m].1 = p → lastG L p = some L[m].2) ∧ (L[m].1 ≠ p → lastG (L.drop m) p = none) := by
  constructor
  · intro e
    conv => lhs; rw [← List.take_append_drop (m + 1) L]
    rw [lastG_app, hd, lastG_take h, if_pos e]; rfl
  · intro e
    rw [List.drop_eq_getElem_cons h]
    have := lastG_app [L[m]] (L.drop (m + 1)) p
    rw [List.singleton_append, hd] at this
    rw [this]
    show lastG [L[m]] p = none
    simp [lastG, e]

set_option maxHeartbeats 8000000 in
set_option maxRecDepth 1000000 in
theorem rmerge_calls (v : Value) (L : List ChA) (w : World) (hv : Sl w v L.length (L.flatMap chaC)) (hok : ∀ y ∈ L, chaOk w y) (hlen : L.length ≤ 140737488355328) :
    Calls Tryd.prog 11 #[v] w (MergeP w L) := by
  obtain ⟨av, cv, rfl⟩ := hv.form
  have HV := Lib.hid hv
  have HOK := Lib.hid hok
  clear hv hok
  go_enter Tryd.func11, Tryd.ntmps11
  go_wp2_with fail
  go_loopw [11] (fun i wr => ∃ (j : Nat), j ≤ L.length ∧ i = .int .i64 j ∧ (∀ y ∈ L.take j, goodC y) ∧ Fr No w wr) (fun i _ => L.length - (intOf i).toNat)
  case atStart => exact ⟨0, Nat.zero_le _, rfl, by simp, Fr.refl _ _⟩
  case round =>
    obtain ⟨j, hj, rfl, hgd, hF⟩ := hrel
    by_cases hlt : j < L.length
    · have g0 := flat_get7 chaC 2 (fun _ => rfl) L j 0 hlt (by omega)
      have g1 := flat_get7 chaC 2 (fun _ => rfl) L j 1 hlt (by omega)
      have hgt : ∀ y ∈ L.take (j + 1), y ∈ L.take j ∨ y = L[j] := fun y hy => by
        rw [List.take_succ_eq_append_getElem hlt, List.mem_append, List.mem_singleton] at hy; exact hy
      have hmem : L[j] ∈ L := List.getElem_mem hlt
      revert g0 g1 hgt hmem
      generalize L[j] = y
      obtain ⟨pg, ad, cp, bs⟩ := y
      intro g0 g1 hgt hmem
      simp only [chaC, bytC, List.getElem?_cons_zero, List.getElem?_cons_succ] at g0 g1
      obtain ⟨b, off, rfl, hb, hc⟩ := HV.out.at (by intro e; rw [e] at g0; simp at g0)
      have c0 := hF.cell (hc _ _ g0) (fun h => h)
      have c1 := hF.cell (hc _ _ g1) (fun h => h)
      simp only [← Nat.add_assoc, Nat.add_zero] at c0 c1
      have HF := Lib.hid hF
      have HGD := Lib.hid hgd
      have HGT := Lib.hid hgt
      have HMEM := Lib.hid hmem
      clear g0 g1 hc hF hgd hgt hmem
      have hcase : (decide (pg < 0) = true ∧ ¬ goodC (pg, ad, cp, bs)) ∨ (decide (pg < 0) = false ∧ decide (128 ≤ pg) = true ∧ ¬ goodC (pg, ad, cp, bs)) ∨ (decide (pg < 0) = false ∧ decide (128 ≤ pg) = false ∧ ((bs.length : Int) != 64) = true ∧ ¬ goodC (pg, ad, cp, bs)) ∨
          (decide (pg < 0) = false ∧ decide (128 ≤ pg) = false ∧ ((bs.length : Int) != 64) = false ∧ goodC (pg, ad, cp, bs)) := by
        unfold goodC
        dsimp only
        by_cases h1 : pg < 0
        · exact .inl ⟨decide_eq_true h1, by omega⟩
        · by_cases h2 : 128 ≤ pg
          · exact .inr (.inl ⟨decide_eq_false h1, decide_eq_true h2, by omega⟩)
          · by_cases h3 : bs.length = 64
            · exact .inr (.inr (.inr ⟨decide_eq_false h1, decide_eq_false h2, by simp; omega, by omega⟩))
            · exact .inr (.inr (.inl ⟨decide_eq_false h1, decide_eq_false h2, by simp; omega, by omega⟩))
      rcases hcase with ⟨d1, hg⟩ | ⟨d1, d2, hg⟩ | ⟨d1, d2, d3, hg⟩ | ⟨d1, d2, d3, hg⟩
      · have HB := Lib.hid hg
        clear hg
        go_wp2
        go_ret2
        exact .inr ⟨⟨_, HMEM.out, HB.out⟩, rfl, HF.out.alloc _⟩
      · have HB := Lib.hid hg
        clear hg
        go_wp2
        go_ret2
        exact .inr ⟨⟨_, HMEM.out, HB.out⟩, rfl, HF.out.alloc _⟩
      · have HB := Lib.hid hg
        clear hg
        go_wp2
        go_ret2
        exact .inr ⟨⟨_, HMEM.out, HB.out⟩, rfl, HF.out.alloc _⟩
      · have HB := Lib.hid hg
        clear hg
        go_wp2
        go_roundw
        case rel =>
          refine ⟨j + 1, by omega, by go_num, fun y hy => ?_, HF.out.alloc _⟩
          rcases HGT.out y hy with h | rfl
          · exact HGD.out y h
          · exact HB.out
        case measure => simp [intOf]; omega
    · obtain rfl : j = L.length := by omega
      rw [List.take_length] at hgd
      have HGD := Lib.hid hgd
      have HF := Lib.hid hF
      clear hgd hF hlt
      go_wp2_with fail
      go_loopw [6, 7] (fun ov i wx => ∃ (n : Nat) (vs : List (Int × Value)), n ≤ 128 ∧ i = .int .i64 n ∧ Fr No w wx ∧ wx.ownsRow w.heap.size 32 2 ov (pagesG L n).length (chgCells vs) ∧ ChV w.heap.size (outG (pagesG L n)) vs wx) (fun _ i _ => 128 - (intOf i).toNat)
      case atStart => exact ⟨0, [], Nat.zero_le _, rfl, HF.out, World.ownsRow_nil _ _ _ _, ChV.nil _ _⟩
      case round =>
        obtain ⟨n, vs, hn, rfl, hF, hown, hvs⟩ := hrel
        obtain ⟨ao, co, rfl⟩ := (Sl.of_owns hown).form
        have HF2 := Lib.hid hF
        have HOW := Lib.hid hown
        have HVS := Lib.hid hvs
        have hpl := pagesG_len L n
        clear hF hown hvs
        by_cases hlt : n < 128
        · have hd : decide ((n : Int) < 128) = true := decide_eq_true (by omega)
          have hww : IntKind.i64.wrap ((L.length : Int) - 1) = (L.length : Int) - 1 := IntWalk.i64_in _ (by omega)
          generalize hpg : (pagesG L n).length = pl at *
          have HPG := Lib.hid hpg
          clear hpg
          go_wp2_with fail
          go_loopw [6, 8] (fun ov iv wy => ∃ (m : Nat), m ≤ L.length ∧ ov = .slice ao pl co ∧ iv = .int .i64 ((m : Int) - 1) ∧ lastG (L.drop m) n = none ∧ wy = wr) (fun _ iv _ => (intOf iv + 1).toNat)
          case atStart => exact ⟨L.length, Nat.le_refl _, rfl, rfl, by rw [List.drop_length]; rfl, rfl⟩
          case round =>
            obtain ⟨m, hm, rfl, rfl, hdr, rfl⟩ := hrel
            by_cases h0 : m = 0
            · subst h0
              rw [List.drop_zero] at hdr
              have HE := Lib.hid (pagesG_none hdr)
              have hd0 : decide ((0 : Int) ≤ ((0 : Nat) : Int) - 1) = false := by decide
              clear hdr
              go_wp2_with fail
              go_roundw
              case rel => exact ⟨n + 1, vs, by omega, by go_num, HF2.out, by rw [HE.out, HPG.out]; exact HOW.out, by rw [HE.out]; exact HVS.out⟩
              case measure => simp [intOf]; omega
            · obtain ⟨q, rfl⟩ : ∃ q, m = q + 1 := ⟨m - 1, by omega⟩
              have hqe : (((q + 1 : Nat) : Int) - 1) = (q : Int) := by omega
              rw [hqe]
              have hq0 : decide ((0 : Int) ≤ (q : Int)) = true := decide_eq_true (by omega)
              have hql : q < L.length := by omega
              have g0 := flat_get7 chaC 2 (fun _ => rfl) L q 0 hql (by omega)
              have g1 := flat_get7 chaC 2 (fun _ => rfl) L q 1 hql (by omega)
              have hld := last_drop hql hdr
              have hy := HOK.out _ (List.getElem_mem hql)
              have hgy := HGD.out _ (List.getElem_mem hql)
              revert g0 g1 hld hy hgy
              generalize L[q] = y
              obtain ⟨pg, ad, cp, bs⟩ := y
              intro g0 g1 hld hy hgy
              simp only [chaC, bytC, List.getElem?_cons_zero, List.getElem?_cons_succ] at g0 g1
              obtain ⟨b, off, rfl, hb, hc⟩ := HV.out.at (by intro e; rw [e] at g0; simp at g0)
              have c0 := HF2.out.cell (hc _ _ g0) (fun h => h)
              have c1 := HF2.out.cell (hc _ _ g1) (fun h => h)
              simp only [← Nat.add_assoc, Nat.add_zero] at c0 c1
              obtain ⟨-, hsl, -, -⟩ := hy
              have HB64 : RowKit.Hid (bs.length = 64) := Lib.hid hgy.2.2
              dsimp only [bytC] at hsl hld
              have HSL := Lib.hid (hsl.fr0 HF2.out)
              have HFS := Lib.hid HF2.out.size
              have HLD := Lib.hid hld
              clear g0 g1 hc hsl hgy hld hdr
              by_cases hp : pg = n
              · have q1 : (pg == (n : Int)) = true := by simp [hp]
                have HE := Lib.hid (pagesG_some (HLD.out.1 hp))
                clear hp
                go_wp2_with (first
                  | (at_builtin; (refine append_at7 el_u8 rfl _ (.tmp 54) rfl w.heap.size (.slice none 0 0) 0 [] rfl (World.ownsRow_nil _ _ _ _) rfl HSL.out (by simp [bys]) (bys_one _) (by unfold maxLen; have := HB64.out; omega) (by have := HB64.out; omega) HFS.out ?_; intro a3 n3 c3 w3 hown3 hgrow3 hlie3; rw [Nat.zero_add, List.nil_append] at hown3))
                  | (at_builtin; (refine append_at7 (m := 1) el_chg rfl (.tmp 48) (.tmp 57) rfl w.heap.size (.slice ao pl co) pl (chgCells vs) rfl ((ownsRow_fr7 HOW.out (fr_grown7 hgrow3) (fun k _ e => by cases e)).alloc _) rfl (sl_new7 w3 [.int .i64 (n : Int), .slice a3 n3 c3] _ 1 (by simp) (by omega)) rfl (fun u hu => by simp at hu; rcases hu with rfl | rfl <;> rfl) (by unfold maxLen; omega) (by omega) (Nat.le_trans HFS.out (Nat.le_trans (fr_grown7 hgrow3).size ((Fr.refl No _).alloc _).size)) ?_; intro a5 n5 c5 w5 hown5 hgrow5 hlie5))
                  | fail "arm")
                have hF3 : Fr No wr w3 := (Fr.refl No wr).trans' (fr_grown7 hgrow3) (fun i hi e => by cases e)
                have hFa := hF3.alloc (Obj.cells #[.int .i64 (n : Int), .slice a3 n3 c3] 32)
                have hO3 := HOW.out
                have hF5 : Fr (fun k => (Value.slice ao pl co).ownBlock = some k) wr w5 := hFa.no.trans (fr_grown7 hgrow5)
                have HF5 := Lib.hid (show Fr No w w5 from HF2.out.trans' hF5 (fun i hi e => by have := (hO3.lt i e).1; omega))
                have hap : ∀ {m : Nat} {v : Value} {xs : List Value}, (w3.alloc (Obj.cells #[.int .i64 (n : Int), .slice a3 n3 c3] 32)).ownsRow w.heap.size 5 1 v m xs → w5.ownsRow w.heap.size 5 1 v m xs := fun hv =>
                  ownsRow_fr7 hv (fr_grown7 hgrow5) (fun q e e' => rows_apart7 ((ownsRow_fr7 hO3 hF3 (fun _ _ h => h)).alloc _) hv (by decide) q e' e)
                have HVS5 := Lib.hid ((HVS.out.fr0 hFa).imp (fun _ _ _ hv => hap hv))
                have HB5 := Lib.hid (hap (hown3.alloc (Obj.cells #[.int .i64 (n : Int), .slice a3 n3 c3] 32)))
                have HO5 := Lib.hid hown5
                clear hF3 hFa hO3 hF5 hap hown3 hgrow3 hlie3 hown5 hgrow5 hlie5
                go_wp2_with fail
                go_roundw
                case rel =>
                  refine ⟨n + 1, vs ++ [((n : Int), .slice a3 n3 c3)], by omega, by go_num, HF5.out, ?_, ?_⟩
                  · rw [HE.out, List.length_append, HPG.out, chgCells_snoc]; exact HO5.out
                  · rw [HE.out, outG_snoc]; exact HVS5.out.snoc HB5.out
                case measure => simp [intOf]; omega
              · have q1 : (pg == (n : Int)) = false := by simp [hp]
                have HDR := Lib.hid (HLD.out.2 hp)
                have hwq : IntKind.i64.wrap ((q : Int) - 1) = (q : Int) - 1 := IntWalk.i64_in _ (by omega)
                clear hp
                go_wp2_with fail
                go_roundw
                case rel => exact ⟨q, by omega, rfl, rfl, HDR.out, by first | rfl | trivial⟩
                case measure => first | (simp [intOf]; done) | (simp [intOf]; omega)
        · obtain rfl : n = 128 := by omega
          have hd : decide (((128 : Nat) : Int) < 128) = false := by decide
          go_wp2
          go_ret2
          exact .inl ⟨HGD.out, _, vs, rfl, HF2.out, HOW.out, HVS.out⟩

set_option maxHeartbeats 400000 in
set_option maxRecDepth 1000000 in
theorem few07_calls (u v : Value) (l : List Int) (L : List ChA) (w : World) (hlen : L.length ≤ 140737488355328) (hu : Sl w u l.length (bys l)) (hv : Sl w v L.length (L.flatMap chaC)) :
    Calls Tryd.prog 9 #[u, v] w fun e w' => ∃ b, e = .returned (.bool b) ∧ Fr No w w' := by
  obtain ⟨av, cap, rfl⟩ := hv.form
  obtain ⟨bu, capu, rfl⟩ := hu.form
  clear hu
  go_enter Tryd.func9, Tryd.ntmps9
  go_wp2
  go_loopw [5, 12] (fun s i wr => ∃ (j : Nat) (x : Int), j ≤ L.length ∧ i = .int .i64 j ∧ s = .int .i64 x ∧ Fr No w wr) (fun _ i _ => L.length - (intOf i).toNat)
  case atStart => exact ⟨0, l.length, Nat.zero_le _, rfl, rfl, Fr.refl _ _⟩
  case round =>
    obtain ⟨j, x, hj, rfl, rfl, hF⟩ := hrel
    by_cases hlt : j < L.length
    · have g0 := flat_get7 chaC 2 (fun _ => rfl) L j 0 hlt (by omega)
      have g1 := flat_get7 chaC 2 (fun _ => rfl) L j 1 hlt (by omega)
      revert g0 g1
      generalize L[j] = y
      obtain ⟨pg, ad, cp, bs⟩ := y
      intro g0 g1
      simp only [chaC, bytC, List.getElem?_cons_zero, List.getElem?_cons_succ] at g0 g1
      obtain ⟨b, off, rfl, hb, hc⟩ := hv.at (by intro e; rw [e] at g0; simp at g0)
      have c0 := hF.cell (hc _ _ g0) (fun h => h)
      have c1 := hF.cell (hc _ _ g1) (fun h => h)
      simp only [← Nat.add_assoc, Nat.add_zero] at c0 c1
      have HF := Lib.hid hF
      clear hc hv g0 g1 hF
      go_wp2
      all_goals exact ⟨⟨j + 1, _, by omega, by go_num, rfl, HF.out.alloc _⟩, by simp [intOf]; omega⟩
    · have HF := Lib.hid hF
      clear hF hv
      go_wp2
      go_ret
      exact ⟨_, rfl, HF.out⟩
end Go.Proofs.YtpcikbloflpahaaDoor
