/-
  Chapter 7: the reference's tree: Read.
-/
import Derived.Test.YtpcikbloflpahaaDoorZRf5
namespace Go.Proofs.YtpcikbloflpahaaDoor
set_option linter.unusedVariables false
set_option linter.unusedSimpArgs false
open Go.RowKit Go.Shelf Go.Maps

theorem trZ_len : trZ.length = 134 := trC_len rfl rfl
theorem trZ_one : ∀ u ∈ trZ, u.oneCell' = true := trC_one
/-- What Read comes to. -/
def TrQ (w : World) (N : Nat) (B : List Int) (top : Int) (e : Ending) (w' : World) : Prop := Fr No w w' ∧ ((∃ s v, treeB B N top = some s ∧ e = .returned (.tuple #[.agg (TrC top (lvB B top 4) (pgB B top 128) v).toArray, .int .i64 0]) ∧ w'.ownsRow (w.heap.size + 1) 3 1 v s.length (ints7 (s.map Prod.fst))) ∨ (treeB B N top = none ∧ e = .returned (.tuple #[.agg trZ.toArray, .int .i64 60])))
/-- Between its rounds. -/
def TrRd (w : World) (B : List Int) (top : Int) (i m : Nat) (s : List (Int × Int)) (wr : World) : Prop :=
  TrAt wr (w.heap.size + 1) (w.heap.size + 1) top (lvB B top i) (pgB B top m) (s.map Prod.fst) ∧ wr.heap[w.heap.size]? = some (.cells trZ.toArray 47 (0, 0)) ∧ Fr No w wr
theorem TrRd.fr0 {w wr wr' : World} {B : List Int} {top : Int} {i m : Nat} {s : List (Int × Int)} (h : TrRd w B top i m s wr) (hF : Fr No wr wr') : TrRd w B top i m s wr' := ⟨h.1.fr0 hF, hF.heap h.2.1 (fun h => h), h.2.2.trans hF⟩
theorem TrRd.to {w wr wr' : World} {B : List Int} {top : Int} {i m i' m' : Nat} {s s' : List (Int × Int)} (h : TrRd w B top i m s wr) (ht : TrAt wr' (w.heap.size + 1) (w.heap.size + 1) top (lvB B top i') (pgB B top m') (s'.map Prod.fst)) (hF : Fr (fun k => w.heap.size + 1 ≤ k) wr wr') : TrRd w B top i' m' s' wr' :=
  ⟨ht, hF.heap h.2.1 (fun (e : w.heap.size + 1 ≤ w.heap.size) => by omega), h.2.2.trans' hF (fun k hk (e : w.heap.size + 1 ≤ k) => by omega)⟩
theorem TrRd.size {w wr : World} {B : List Int} {top : Int} {i m : Nat} {s : List (Int × Int)} (h : TrRd w B top i m s wr) : w.heap.size + 1 ≤ wr.heap.size := by
  obtain ⟨-, -, -, v, h4, -⟩ := h.1
  have := heap_lt7 h4
  omega
theorem TrRd.leaf {w wr : World} {B : List Int} {top : Int} {i m : Nat} {s : List (Int × Int)} (h : TrRd w B top i m s wr) (hi : i < 4) : TrRd w B top (i + 1) m s (wr.setCell ⟨w.heap.size + 1, 1 + i, none⟩ (.int .i64 ((rdN B top).getD i 0))) := by
  have := h.1.put (o := 1 + i) (u := .int .i64 ((rdN B top).getD i 0)) (lv' := lvB B top (i + 1)) (lvB_len _ _ _) (pgB_len _ _ _) (fun v => by rw [trC_setl (by rw [lvB_len]; exact hi), lvB_step B top i hi])
  exact h.to this.1 this.2
theorem TrRd.page {w wr : World} {B : List Int} {top : Int} {j i k : Nat} {s : List (Int × Int)} (h : TrRd w B top j (32 * i + k) s wr) (hi : i < 4) (hk : k < 32) : TrRd w B top j (32 * i + (k + 1)) s (wr.setCell ⟨w.heap.size + 1, 5 + (32 * i + k), none⟩ (.int .i64 ((rdN B ((rdN B top).getD i 0)).getD k 0))) := by
  have := h.1.put (o := 5 + (32 * i + k)) (u := .int .i64 ((rdN B ((rdN B top).getD i 0)).getD k 0)) (pg' := pgB B top (32 * i + (k + 1))) (lvB_len _ _ _) (pgB_len _ _ _) (fun v => by rw [trC_setp (lvB_len _ _ _) (by rw [pgB_len]; omega), pgB_step B top i k hk])
  exact h.to this.1 this.2
theorem TrRd.cell {w wr : World} {B : List Int} {top : Int} {i m : Nat} {s : List (Int × Int)} (h : TrRd w B top i m s wr) (o : Nat) (ho : o < 133) : ∃ v, wr.cell? ⟨w.heap.size + 1, o, none⟩ = some (.int .i64 v) ∧ wr.frozen? ⟨w.heap.size + 1, o, none⟩ = false := by
  obtain ⟨h1, h2, -, v, h4, -⟩ := h.1
  have hl := trC_len (top := top) (v := v) h1 h2
  have : ∃ x, (TrC top (lvB B top i) (pgB B top m) v)[o]? = some (.int .i64 x) := by
    unfold TrC
    rcases o with _ | o
    · exact ⟨top, rfl⟩
    · rw [List.getElem?_cons_succ, ← List.append_assoc, List.getElem?_append_left (by rw [List.length_append, ints7_len, ints7_len]; omega), show ints7 (lvB B top i) ++ ints7 (pgB B top m) = ints7 (lvB B top i ++ pgB B top m) from by simp [ints7]]
      have hlt : o < (lvB B top i ++ pgB B top m).length := by rw [List.length_append]; omega
      exact ⟨(lvB B top i ++ pgB B top m)[o], by simp only [ints7, List.getElem?_map, List.getElem?_eq_getElem hlt]; rfl⟩
  obtain ⟨x, hx⟩ := this
  exact ⟨x, heap_cell h4 (by rw [List.getElem?_toArray]; exact hx), heap_frozen h4⟩
attribute [local irreducible] lvB pgB oT oP rdN ndB trZ
set_option maxHeartbeats 8000000 in
set_option maxRecDepth 1000000 in
theorem trread_calls {w : World} {db N : Nat} {B : List Int} (hd : RfR w db N B) (top : Int) (htop : -9223372036854775808 ≤ top ∧ top ≤ 9223372036854775807) :
    Calls Tryd.prog 16 #[.pointer (some ⟨db, 0, none⟩), .int .i64 top] w (TrQ w N B top) := by
  have HD := Lib.hid hd
  have hFa : Fr No w (w.alloc (.cells trZ.toArray 47)) := (Fr.refl No w).alloc _
  have hFb := hFa.alloc (.cells trZ.toArray 47)
  have HB0 := Lib.hid (heap_alloc (.cells trZ.toArray 47) (heap_new w (.cells trZ.toArray 47)))
  have HB1 := Lib.hid (heap_new2_7 w (.cells trZ.toArray 47) (.cells trZ.toArray 47))
  have HFB := Lib.hid hFb
  have HN2 : RowKit.Hid (N ≤ 2000) := Lib.hid hd.1
  clear hd hFa hFb
  have HT0 : RowKit.Hid (treeB B N 0 = some [] ∧ lvB B 0 4 = zs 4 ∧ pgB B 0 128 = zs 128 ∧ lvB B top 0 = zs 4 ∧ pgB B top (32 * 0) = zs 128) := Lib.hid ⟨by unfold treeB treeS; rw [if_pos rfl], lvB_top0 B 4, pgB_top0 B 128, lvB_zero B top, pgB_zero B top⟩
  go_enter Tryd.func16, Tryd.ntmps16
  by_cases htz : top = 0
  · subst htz
    have bt : ((0 : Int) == 0) = true := rfl
    go_wp2_with (first
      | (refine alloc_tr w.heap.size rfl rfl rfl ?_)
      | (refine build_tr1 rfl _ 0 rfl rfl ?_)
      | (refine alloc_tr (w.heap.size + 1) (by simp) rfl rfl ?_)
      | (refine store_tr rfl _ _ rfl (w.heap.size + 1) (TrC 0 (zs 4) (zs 128) (.slice none 0 0)) trZ rfl rfl HB1.out (trC_len rfl rfl) trZ_len trC_one ?_; intro w2 hF2 hb2; have HFW := Lib.hid (HFB.out.trans' hF2 (fun i hi (e : i = _) => by omega)); have HBZ := Lib.hid (hF2.heap HB0.out (fun (e : w.heap.size = _) => by omega)); have HBT := Lib.hid hb2; have c3 := (HD.out.fr0 HFW.out).cells.choose_spec.choose_spec.2.2; clear hF2 hb2)
      | (refine load_tr rfl _ rfl (w.heap.size + 1) (TrC 0 (zs 4) (zs 128) (.slice none 0 0)) rfl HBT.out (trC_len rfl rfl) ?_)
      | (refine store_tr rfl _ _ rfl w.heap.size (TrC 0 (zs 4) (zs 128) (.slice none 0 0)) trZ rfl rfl HBZ.out (trC_len rfl rfl) trZ_len trC_one ?_; intro w3 hF3 hb3)
      | fail "arm")
    refine ret_tr Tryd.results16 rfl rfl hb3 (trC_len rfl rfl) rfl ⟨HFW.out.trans' hF3 (fun i hi (e : i = _) => by omega), .inl ⟨[], .slice none 0 0, HT0.out.1, by rw [HT0.out.2.1, HT0.out.2.2.1]; rfl, World.ownsRow_nil _ _ _ _⟩⟩
  · have bt : (top == 0) = false := by simpa using htz
    have HTZ := Lib.hid htz
    clear htz
    go_wp2_with (first
      | (refine alloc_tr w.heap.size rfl rfl rfl ?_)
      | (refine build_tr1 rfl _ top rfl rfl ?_)
      | (refine alloc_tr (w.heap.size + 1) (by simp) rfl rfl ?_)
      | (refine store_tr rfl _ _ rfl (w.heap.size + 1) (TrC top (zs 4) (zs 128) (.slice none 0 0)) trZ rfl rfl HB1.out (trC_len rfl rfl) trZ_len trC_one ?_; intro w2 hF2 hb2; have HFW := Lib.hid (HFB.out.trans' hF2 (fun i hi (e : i = _) => by omega)); have HBZ := Lib.hid (hF2.heap HB0.out (fun (e : w.heap.size = _) => by omega)); have HBT := Lib.hid hb2; have c3 := (HD.out.fr0 HFW.out).cells.choose_spec.choose_spec.2.2; clear hF2 hb2)
      | fail "arm")
    have hI : TrRd w B top 0 (32 * 0) [] w2 := ⟨⟨lvB_len _ _ _, pgB_len _ _ _, Nat.le_refl _, .slice none 0 0, by rw [HT0.out.2.2.2.1, HT0.out.2.2.2.2]; exact HBT.out, World.ownsRow_nil _ _ _ _⟩, HBZ.out, HFW.out⟩
    refine (tadd_calls top (HD.out.fr0 HFW.out) hI.1 (by simp) hI.size).mono ?_
    rintro e w3 (⟨hok, rfl, ht, hF⟩ | ⟨hno, rfl, rfl⟩)
    · have HI := Lib.hid (show TrRd w B top 0 (32 * 0) [(top, -1)] w3 from hI.to ht hF)
      have HO := Lib.hid (show oT B N top 0 = some [(top, -1)] by rw [oT_zero]; exact metS_ok hok (-1))
      have HTB : RowKit.Hid (treeB B N top = oT B N top 32 ∧ rdN B top = ndB B top.toNat) := Lib.hid ⟨treeB_oT HTZ.out, by unfold rdN; rw [if_neg HTZ.out]⟩
      have HND := Lib.hid (rdnodeI_calls (HD.out.fr0 HI.out.2.2) top (by have := hok.1; omega) hok.2.1)
      have HRG := Lib.hid (fun k => ndB_range HD.out.2.2.1 top.toNat k)
      have HLN := Lib.hid (ndB_len B top.toNat)
      clear hI ht hF hok c3
      generalize hnt : ndB B top.toNat = tn at *
      have HNT := Lib.hid hnt
      clear hnt
      go_wp2_with fail
      refine HND.out.mono ?_
      rintro e w4 ⟨rfl, hF4⟩
      have HI4 := Lib.hid (HI.out.fr0 hF4)
      have HIX := Lib.hid (fun (w1 : World) j hj => run_index_nd w1 tn j hj HLN.out)
      clear hF4
      go_wp2_with fail
      go_loopw [29] (fun i wr => ∃ (j : Nat) (s : List (Int × Int)), j ≤ 32 ∧ i = .int .i64 (j : Int) ∧ oT B N top j = some s ∧ s.length ≤ 1 + 33 * j ∧ TrRd w B top j (32 * j) s wr) (fun i _ => 32 - (intOf i).toNat)
      case atStart => exact ⟨0, _, by omega, rfl, HO.out, by simp, HI4.out⟩
      case round =>
        obtain ⟨j, s, hj, rfl, ho, hsl, hI⟩ := hrel
        have HIj := Lib.hid hI
        have HOj := Lib.hid ho
        clear hI ho
        by_cases hlt : j < 32
        · have dj : decide ((j : Int) < 32) = true := decide_eq_true (by omega)
          have hjl : j < tn.length := by rw [HLN.out]; exact hlt
          have q := HIX.out wr j hjl
          have hrg := HRG.out j
          have hgd : tn.getD j 0 = tn[j] := by rw [List.getD_eq_getElem?_getD, List.getElem?_eq_getElem hjl]; rfl
          rw [hgd] at hrg
          have HGD := Lib.hid hgd
          revert q hrg HGD
          clear hgd
          generalize tn[j] = x
          intro q hrg HGD
          by_cases hx0 : x = 0
          · subst hx0
            have HOn := Lib.hid (show oT B N top (j + 1) = some s by rw [oT_skip (by rw [HNT.out]; exact HGD.out)]; exact HOj.out)
            have HIn := Lib.hid (show TrRd w B top (j + 1) (32 * (j + 1)) s wr by
              have := HIj.out
              unfold TrRd at this ⊢
              rw [← lvB_skip B top j (by rw [HTB.out.2]; exact HGD.out), ← pgB_skip B top j (by rw [HTB.out.2]; exact HGD.out)]
              exact this)
            go_wp2_with fail
            refine ⟨⟨j + 1, s, by omega, by go_num, HOn.out, by omega, HIn.out⟩, by simp [intOf]; omega⟩
          · have bx : (x == 0) = false := by simpa using hx0
            have HX0 := Lib.hid hx0
            clear hx0
            by_cases h4 : j < 4
            · have d4 : decide ((4 : Int) ≤ (j : Int)) = false := decide_eq_false (by omega)
              go_wp2_with fail
              refine (tadd_calls x (HD.out.fr0 HIj.out.2.2) HIj.out.1 (by rw [List.length_map]; omega) HIj.out.size).mono ?_
              rintro e w5 (⟨hok, rfl, ht, hF⟩ | ⟨hno, rfl, rfl⟩)
              · have HOK := Lib.hid hok
                have HI5 := Lib.hid (show TrRd w B top j (32 * j) (s ++ [(x, -1)]) w5 from HIj.out.to (by rw [List.map_append]; exact ht) hF)
                have HOP := Lib.hid (show oP B N top j x 0 = some (s ++ [(x, -1)]) by rw [oP_zero, HOj.out]; exact metS_ok hok (-1))
                clear hok ht hF
                obtain ⟨ov, cv5, fz5⟩ := HI5.out.cell (1 + j) (by omega)
                have HI6 := Lib.hid (HI5.out.leaf h4)
                rw [HTB.out.2, HGD.out] at HI6
                have HNX := Lib.hid (rdnodeI_calls (HD.out.fr0 HI6.out.2.2) x (by have := HOK.out.1; omega) HOK.out.2.1)
                have HRX := Lib.hid (fun k => ndB_range HD.out.2.2.1 x.toNat k)
                have HLX := Lib.hid (ndB_len B x.toNat)
                have HTX : RowKit.Hid (oT B N top (j + 1) = oP B N top j x 32 ∧ rdN B x = ndB B x.toNat) := Lib.hid ⟨by rw [oT_step h4 (by rw [HNT.out, HGD.out]; exact HX0.out), HNT.out, HGD.out], by unfold rdN; rw [if_neg HX0.out]⟩
                generalize hpn : ndB B x.toNat = pn at *
                have HPN := Lib.hid hpn
                clear hpn
                go_wp2_with fail
                refine HNX.out.mono ?_
                rintro e w7 ⟨rfl, hF7⟩
                have HI7 := Lib.hid (HI6.out.fr0 hF7)
                have HIY := Lib.hid (fun (w1 : World) j hj => run_index_nd w1 pn j hj HLX.out)
                clear hF7 cv5 fz5
                go_wp2_with fail
                go_loopw [51] (fun i wy => ∃ (k : Nat) (s2 : List (Int × Int)), k ≤ 32 ∧ i = .int .i64 (k : Int) ∧ oP B N top j x k = some s2 ∧ s2.length ≤ 2 + 33 * j + k ∧ TrRd w B top (j + 1) (32 * j + k) s2 wy) (fun i _ => 32 - (intOf i).toNat)
                case atStart => exact ⟨0, _, by omega, rfl, HOP.out, by simp; omega, HI7.out⟩
                case round =>
                  obtain ⟨k, s2, hk, rfl, ho2, hsl2, hI2⟩ := hrel
                  have HIk := Lib.hid hI2
                  have HOk := Lib.hid ho2
                  clear hI2 ho2
                  by_cases hkt : k < 32
                  · have dk : decide ((k : Int) < 32) = true := decide_eq_true (by omega)
                    have hkl : k < pn.length := by rw [HLX.out]; exact hkt
                    have q2 := HIY.out wr k hkl
                    have hrx := HRX.out k
                    have hgd2 : pn.getD k 0 = pn[k] := by rw [List.getD_eq_getElem?_getD, List.getElem?_eq_getElem hkl]; rfl
                    rw [hgd2] at hrx
                    have HGY := Lib.hid hgd2
                    revert q2 hrx HGY
                    clear hgd2
                    generalize pn[k] = y
                    intro q2 hrx HGY
                    by_cases hy0 : y = 0
                    · subst hy0
                      have HOn := Lib.hid (show oP B N top j x (k + 1) = some s2 by rw [oP_skip (by rw [HPN.out]; exact HGY.out)]; exact HOk.out)
                      have HIn := Lib.hid (show TrRd w B top (j + 1) (32 * j + (k + 1)) s2 wr by
                        have := HIk.out
                        unfold TrRd at this ⊢
                        rw [← pgB_skip1 B top j k hkt (by rw [HTB.out.2, HGD.out, HTX.out.2]; exact HGY.out)]
                        exact this)
                      go_wp2_with fail
                      refine ⟨⟨k + 1, s2, by omega, by go_num, HOn.out, by omega, HIn.out⟩, by simp [intOf]; omega⟩
                    · have byy : (y == 0) = false := by simpa using hy0
                      have HY0 := Lib.hid hy0
                      clear hy0
                      go_wp2_with fail
                      refine (tadd_calls y (HD.out.fr0 HIk.out.2.2) HIk.out.1 (by rw [List.length_map]; omega) HIk.out.size).mono ?_
                      rintro e w8 (⟨hok, rfl, ht, hF⟩ | ⟨hno, rfl, rfl⟩)
                      · have HI8 := Lib.hid (show TrRd w B top (j + 1) (32 * j + k) (s2 ++ [(y, (j : Int) * 32 + (k : Int))]) w8 from HIk.out.to (by rw [List.map_append]; exact ht) hF)
                        have HOY := Lib.hid (show oP B N top j x (k + 1) = some (s2 ++ [(y, (j : Int) * 32 + (k : Int))]) by rw [oP_step (by rw [HPN.out, HGY.out]; exact HY0.out), HOk.out, HPN.out, HGY.out]; exact metS_ok hok _)
                        clear hok ht hF
                        obtain ⟨ov, cv5, fz5⟩ := HI8.out.cell (5 + (32 * j + k)) (by omega)
                        have HI9 := Lib.hid (HI8.out.page h4 hkt)
                        rw [HTB.out.2, HGD.out, HTX.out.2, HGY.out] at HI9
                        have hw1 : IntKind.i64.wrap ((j : Int) * 32) = (j : Int) * 32 := IntWalk.i64_in _ (by omega)
                        have hw2 : IntKind.i64.wrap ((j : Int) * 32 + (k : Int)) = ((32 * j + k : Nat) : Int) := by rw [IntWalk.i64_in _ (by omega)]; omega
                        go_wp2_with fail
                        refine ⟨⟨k + 1, _, by omega, by go_num, HOY.out, by simp; omega, ?_⟩, by simp [intOf]; omega⟩
                        exact HI9.out
                      · have HX := Lib.hid (show treeB B N top = none by
                          rw [HTB.out.1]
                          refine oT_none (i := j + 1) (by omega) ?_
                          rw [HTX.out.1]
                          exact oP_none (k := k + 1) (by omega) (by rw [oP_step (by rw [HPN.out, HGY.out]; exact HY0.out), HOk.out, HPN.out, HGY.out]; exact metS_bad hno _))
                        clear hno
                        go_wp2_with (first
                          | (refine build_tr0 rfl rfl ?_)
                          | (refine store_tr rfl _ _ rfl w.heap.size trZ trZ rfl rfl HIk.out.2.1 trZ_len trZ_len trZ_one ?_; intro w9 hF9 hb9)
                          | fail "arm")
                        exact ret_tr Tryd.results16 rfl rfl hb9 trZ_len rfl ⟨HIk.out.2.2.trans' hF9 (fun i hi (e : i = _) => by omega), .inr ⟨HX.out, rfl⟩⟩
                  · obtain rfl : k = 32 := by omega
                    have HIn := Lib.hid (show TrRd w B top (j + 1) (32 * (j + 1)) s2 wr from HIk.out)
                    have HOn := Lib.hid (HTX.out.1.trans HOk.out)
                    have dk : decide (((32 : Nat) : Int) < 32) = false := by decide
                    go_wp2_with fail
                    refine ⟨⟨j + 1, s2, by omega, by go_num, HOn.out, by omega, HIn.out⟩, by simp [intOf]; omega⟩
              · have HX := Lib.hid (show treeB B N top = none by
                  rw [HTB.out.1]
                  refine oT_none (i := j + 1) (by omega) ?_
                  rw [oT_step h4 (by rw [HNT.out, HGD.out]; exact HX0.out), HNT.out, HGD.out]
                  exact oP_none (k := 0) (by omega) (by rw [oP_zero, HOj.out]; exact metS_bad hno (-1)))
                clear hno
                go_wp2_with (first
                  | (refine build_tr0 rfl rfl ?_)
                  | (refine store_tr rfl _ _ rfl w.heap.size trZ trZ rfl rfl HIj.out.2.1 trZ_len trZ_len trZ_one ?_; intro w5 hF5 hb5)
                  | fail "arm")
                exact ret_tr Tryd.results16 rfl rfl hb5 trZ_len rfl ⟨HIj.out.2.2.trans' hF5 (fun i hi (e : i = _) => by omega), .inr ⟨HX.out, rfl⟩⟩
            · have d4 : decide ((4 : Int) ≤ (j : Int)) = true := decide_eq_true (by omega)
              have HX := Lib.hid (show treeB B N top = none by rw [HTB.out.1]; exact oT_none (i := j + 1) (by omega) (oT_far h4 (by rw [HNT.out, HGD.out]; exact HX0.out)))
              go_wp2_with (first
                | (refine build_tr0 rfl rfl ?_)
                | (refine store_tr rfl _ _ rfl w.heap.size trZ trZ rfl rfl HIj.out.2.1 trZ_len trZ_len trZ_one ?_; intro w5 hF5 hb5)
                | fail "arm")
              exact ret_tr Tryd.results16 rfl rfl hb5 trZ_len rfl ⟨HIj.out.2.2.trans' hF5 (fun i hi (e : i = _) => by omega), .inr ⟨HX.out, rfl⟩⟩
        · obtain rfl : j = 32 := by omega
          have dj : decide (((32 : Nat) : Int) < 32) = false := by decide
          have HFL := Lib.hid (show lvB B top 32 = lvB B top 4 ∧ pgB B top (32 * 32) = pgB B top 128 from ⟨lvB_full B top, pgB_full B top⟩)
          obtain ⟨h1, h2, -, v, h4, h5⟩ := HIj.out.1
          rw [List.length_map] at h5
          rw [HFL.out.1, HFL.out.2] at h4
          have hl := trC_len (top := top) (v := v) (lvB_len B top 4) (pgB_len B top 128)
          obtain ⟨av, cv, rfl⟩ := (Sl.of_owns h5).form
          have H4 := Lib.hid h4
          have H5 := Lib.hid h5
          have HL := Lib.hid hl
          clear h1 h2 h4 h5 hl
          go_wp2_with (first
            | (refine load_tr rfl _ rfl (w.heap.size + 1) (TrC top (lvB B top 4) (pgB B top 128) (.slice av s.length cv)) rfl H4.out HL.out ?_)
            | (refine store_tr rfl _ _ rfl w.heap.size (TrC top (lvB B top 4) (pgB B top 128) (.slice av s.length cv)) trZ rfl rfl HIj.out.2.1 HL.out trZ_len trC_one ?_; intro w5 hF5 hb5)
            | fail "arm")
          have h5 := ownsRow_fr7 H5.out hF5 (fun k e (e2 : k = _) => by have := (H5.out.lt k e).1; omega)
          exact ret_tr Tryd.results16 rfl rfl hb5 HL.out rfl ⟨HIj.out.2.2.trans' hF5 (fun i hi (e : i = _) => by omega), .inl ⟨s, _, by rw [HTB.out.1]; exact HOj.out, rfl, h5⟩⟩
    · have HX := Lib.hid (show treeB B N top = none by rw [treeB_oT HTZ.out]; exact oT_none (i := 0) (by omega) (by rw [oT_zero]; exact metS_bad hno (-1)))
      clear hI hno
      go_wp2_with (first
        | (refine build_tr0 rfl rfl ?_)
        | (refine store_tr rfl _ _ rfl w.heap.size trZ trZ rfl rfl HBZ.out trZ_len trZ_len trZ_one ?_; intro w4 hF4 hb4)
        | fail "arm")
      exact ret_tr Tryd.results16 rfl rfl hb4 trZ_len rfl ⟨HFW.out.trans' hF4 (fun i hi (e : i = _) => by omega), .inr ⟨HX.out, rfl⟩⟩
end Go.Proofs.YtpcikbloflpahaaDoor
