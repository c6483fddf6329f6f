/-
  Chapter 7: the statement ShadowBuilds, behind the table: first calls.
-/
import Derived.Test.YtpcikbloflpahaaDoorZLw1
import Derived.Test.YtpcikbloflpahaaDoorZLw0
import Derived.Test.YtpcikbloflpahaaDoorZRf11
import Derived.Test.YtpcikbloflpahaaDoorYI
import Derived.Test.YtpcikbloflpahaaDoorZSh18
namespace Go.Proofs.YtpcikbloflpahaaDoor
set_option linter.unusedVariables false
set_option linter.unusedSimpArgs false
open Go.RowKit Go.Shelf Go.Maps

theorem tab7_of {w : World} (h : Tab64 w) : Tab7 w := ⟨h 3 (by omega), h 7 (by omega), h 15 (by omega)⟩
set_option maxHeartbeats 1000000 in
set_option maxRecDepth 1000000 in
theorem gacts_calls {w : World} {db : Nat} {A : Nat → Prop} {acts n : Nat} {B : List Int} (h : DkR w db A acts n B) : Calls Tryd.prog 22 #[.pointer (some ⟨db, 0, none⟩)] w fun e w' => e = .returned (.int .i64 (acts : Int)) ∧ w = w' := by
  obtain ⟨lb, cb, wv, c, f, L, h⟩ := h
  have c0 : w.cell? ⟨db, 4, none⟩ = some (.int .i64 (acts : Int)) := heap_cell (o := 4) h.box rfl
  clear h
  go_enter Tryd.func22, Tryd.ntmps22
  go_wp2
  go_ret
  exact ⟨rfl, rfl⟩
/-- The tree read, found or not. -/
theorem trq_one {w : World} {N : Nat} {B : List Int} {top : Int} {e : Ending} {w' : World} (h : TrQ w N B top e w') :
    ∃ (T : List Value) (av : Option Addr) (ac : Nat) (L0 : List Int) (en : Int), Fr No w w' ∧ e = .returned (.tuple #[.agg T.toArray, .int .i64 en]) ∧ T.length = 134 ∧ (∀ u ∈ T, u.oneCell' = true) ∧ T.toArray[133]? = some (.slice av L0.length ac) ∧ Sl w' (.slice av L0.length ac) L0.length (ints7 L0) ∧
      ((en = 0 ∧ ∃ s, treeB B N top = some s ∧ L0 = s.map Prod.fst) ∨ (en = 60 ∧ treeB B N top = none ∧ L0 = [])) := by
  obtain ⟨hF, ⟨s, v, hs, rfl, ho⟩ | ⟨hn, rfl⟩⟩ := h
  · obtain ⟨av, ac, rfl⟩ := (Sl.of_owns ho).form
    refine ⟨_, av, ac, s.map Prod.fst, 0, hF, rfl, trC_len (lvB_len _ _ _) (pgB_len _ _ _), trC_one, ?_, ?_, .inl ⟨rfl, s, hs, rfl⟩⟩
    · rw [List.length_map]; exact trC_v (lvB_len _ _ _) (pgB_len _ _ _)
    · rw [List.length_map]; exact Sl.of_owns ho
  · exact ⟨trZ, none, 0, [], 60, hF, rfl, trZ_len, trZ_one, trC_v rfl rfl, ⟨none, 0, rfl, ⟨fun _ => ⟨rfl, rfl⟩, Nat.le_refl _⟩, fun h => absurd rfl h, fun b off j u h => by cases h⟩, .inr ⟨rfl, hn, rfl⟩⟩
theorem treeB_len {B : List Int} {N : Nat} {top : Int} {s : List (Int × Int)} (hN : N ≤ 2000) (h : treeB B N top = some s) : s.length ≤ 133 := by
  by_cases hz : top = 0
  · subst hz
    rw [treeB_top0] at h
    injection h with h
    subst h
    exact Nat.zero_le _
  · obtain ⟨h1, rfl, -⟩ := (treeB_iff B N top hz s).1 h
    have := congrArg List.length (dfs_map hz ((ents_lt4 hz).1 h1))
    rw [List.length_map] at this
    rw [this]
    refine Nat.le_trans (List.length_filter_le _ _) ?_
    rw [List.length_map]
    decide +kernel
theorem costX_lit {B : List Int} {N : Nat} {top : Int} {L : List ChA} {n : Int} (h : CostX B N top L n) : n = 1 ∨ n = 60 := by
  rcases h with ⟨-, h⟩ | ⟨-, -, h⟩
  · exact .inl h
  · exact .inr h
theorem out_rng {L : List ChA} (h : ∀ y ∈ L, ∀ x ∈ y.2.2.2, 0 ≤ x ∧ x < 256) : ∀ x ∈ outG (pagesG L 128), ∀ b ∈ x.2, 0 ≤ b ∧ b < 256 := by
  intro x hx b hb
  unfold outG at hx
  obtain ⟨y, hy, rfl⟩ := List.mem_map.1 hx
  exact h y (pagesG_mem hy) b hb
theorem conv_64 {w : World} {a : Option Addr} {cap : Nat} {l : List Int} (hl : l.length = 64) (hv : Sl w (.slice a 64 cap) 64 (bys l)) : (convert 30 9 (.slice a 64 cap)).run Tryd.prog w = .ok (.string (strOfNums l)) w := by
  have := conv_sl (w := w) (a := a) (cap := cap) (l := l) (by rw [hl]; exact hv)
  rwa [hl] at this
theorem ints7_one (l : List Int) : ∀ u ∈ ints7 l, u.oneCell' = true := by
  intro u hu; simp only [ints7, List.mem_map] at hu; obtain ⟨x, _, rfl⟩ := hu; rfl
theorem ints7_app (l m : List Int) : ints7 l ++ ints7 m = ints7 (l ++ m) := by simp [ints7]
attribute [local irreducible] treeB costG countR ofB hasT lvT pagesG outG heldC TrQ CostX BldE freeN
set_option maxHeartbeats 8000000 in
set_option maxRecDepth 1000000 in
theorem shadowBuilds_of (w : World) (hT : Tab64 w) (u v m : Value) (b : List Int) (top : Int) (L : List ChA) (l : List Int) (hu : Sl w u b.length (bys b)) (hbl : b.length ≤ 140737488355328) (hbr : ∀ x ∈ b, 0 ≤ x ∧ x < 256) (htop : -9223372036854775808 ≤ top ∧ top ≤ 9223372036854775807)
    (hv : Sl w v L.length (L.flatMap chaC)) (hok : ∀ y ∈ L, chaOk w y) (hlen : L.length ≤ 140737488355328) (hm : Sl w m l.length (ints7 l)) (hll : l.length ≤ 140737488355328) :
    Calls Tryd.prog 6 #[u, .int .i64 top, v, m] w fun e w' => e = .returned (.bool true) ∧ Fr No w w' := by
  obtain ⟨au, cu, rfl⟩ := hu.form
  obtain ⟨av, cv, rfl⟩ := hv.form
  obtain ⟨am, cm, rfl⟩ := hm.form
  have HAW := Lib.hid (awake7_calls (tab7_of hT))
  have C3 := Lib.hid (fun w1 (h : Fr No w w1) => few07_calls (.slice au b.length cu) (.slice av L.length cv) b L w1 hlen (hu.fr0 h) (hv.fr0 h))
  have hokf : ∀ w1, Fr No w w1 → ∀ y ∈ L, chaOk w1 y := fun w1 h y hy => ⟨(hok y hy).1, (hok y hy).2.1.fr0 h, (hok y hy).2.2⟩
  have CD := Lib.hid (fun w1 (h : Fr No w w1) => dofS_calls (.slice au b.length cu) b hbl hbr (hu.fr0 h))
  have CR := Lib.hid (fun w1 (h : Fr No w w1) => rofx_calls (.slice au b.length cu) b hbl hbr (hu.fr0 h))
  have hN : manyS b.length ≤ 2000 := by unfold manyS; omega
  have CC := Lib.hid (fun w1 (h : Fr No w w1) rb (hd : RfR w1 rb (manyS b.length) (ofB b)) => rcost_calls hd top htop (.slice av L.length cv) L (hv.fr0 h) (hokf w1 h) hlen)
  have HM := Lib.hid (fun w1 (h : Fr No w w1) => hm.fr0 h)
  have HTB := Lib.hid (fun w1 (h : Fr No w w1) => hT.fr h (fun h => h))
  have HB := Lib.hid (And.intro (ofB_len b) (And.intro (ofB_range hbr) hN))
  have HP := Lib.hid (And.intro hT.pos htop)
  have HKB := Lib.hid (show ∀ y ∈ L, ∀ x ∈ y.2.2.2, 0 ≤ x ∧ x < 256 from fun y hy => (hok y hy).2.2.2)
  have HVV := Lib.hid (fun w1 (h : Fr No w w1) => hv.fr0 h)
  have HOK := Lib.hid hokf
  clear hu hv hok hm hT hokf hbr htop hbl
  generalize ofB b = B at *
  generalize manyS b.length = N at *
  go_enter Tryd.func6, Tryd.ntmps6
  go_wp2_with fail
  refine HAW.out.mono ?_
  rintro e w1 ⟨rfl, hF1⟩
  have HF1 := Lib.hid hF1
  clear hF1
  go_wp2_with fail
  refine (C3.out _ HF1.out).mono ?_
  rintro e w2 ⟨fw, rfl, hF2⟩
  have HF2 := Lib.hid (HF1.out.trans hF2)
  clear hF2
  cases fw
  · simp only [Bool.not_false]
    go_wp2_with fail
    go_ret
    exact ⟨rfl, HF2.out⟩
  · simp only [Bool.not_true]
    by_cases h300 : (300 : Int) < (l.length : Int)
    · have d1 : decide ((300 : Int) < (l.length : Int)) = true := decide_eq_true h300
      go_wp2_with fail
      go_ret
      exact ⟨rfl, HF2.out⟩
    have d1 : decide ((300 : Int) < (l.length : Int)) = false := decide_eq_false h300
    have HL3 := Lib.hid h300
    go_wp2_with fail
    refine (CD.out _ HF2.out).mono ?_
    rintro e w3 ⟨db, A, rfl, hdk, hF3, hA⟩
    have HDK := Lib.hid hdk
    have HF3 := Lib.hid (HF2.out.trans hF3)
    have HA := Lib.hid (fun k hk => And.intro (Nat.le_trans HF2.out.size (hA k hk)) (hdk.low k hk))
    clear hdk hF3 hA
    go_wp2_with fail
    refine (CR.out _ HF3.out).mono ?_
    rintro e w4 ⟨rb, rfl, hrx, hF4⟩
    have hrf := hrx.toR
    have HRX := Lib.hid hrx
    have HF34 := Lib.hid hF4
    have HDK4 := Lib.hid (HDK.out.fr0 hF4)
    have HRF := Lib.hid hrf
    have HF4 := Lib.hid (HF3.out.trans hF4)
    have HTR := Lib.hid (trread_calls hrf top HP.out.2)
    clear hrf hF4 HDK hrx
    go_wp2_with fail
    refine HTR.out.mono ?_
    rintro e w5 htq
    obtain ⟨T, a0, c0, L0, en, hF5, rfl, hT1, hT2, hT3, hT4, hen⟩ := trq_one htq
    have HF5 := Lib.hid (HF4.out.trans hF5)
    have HN5 := Lib.hid hF5
    have HDK5 := Lib.hid (HDK4.out.fr0 hF5)
    have HRF5 := Lib.hid (HRF.out.fr0 hF5)
    have HT := Lib.hid (And.intro hT1 (And.intro hT2 (And.intro hT3 (And.intro hT4 hen))))
    have hL0 : L0.length ≤ 133 := by
      rcases hen with ⟨-, s, hs, rfl⟩ | ⟨-, hn⟩
      · rw [List.length_map]; exact treeB_len HB.out.2.2 hs
      · rw [hn.2]; exact Nat.zero_le _
    have HL0 := Lib.hid hL0
    clear hF5 hT1 hT2 hT3 hT4 hen htq hL0
    go_wp2_with (first
      | (refine alloc_tr w5.heap.size rfl rfl rfl ?_)
      | (refine store_tr rfl _ _ rfl w5.heap.size T trZ rfl rfl (heap_new w5 _) HT.out.1 trZ_len HT.out.2.1 ?_; intro w6 hF6 hb6; have HB6 := Lib.hid hb6; have HF56 := Lib.hid (((Fr.refl No w5).alloc (.cells trZ.toArray 47)).trans' hF6 (fun i hi (e : i = _) => by omega)); clear hF6 hb6)
      | fail "arm")
    have HF6 := Lib.hid (HF5.out.trans HF56.out)
    have HN6 := Lib.hid (HN5.out.trans HF56.out)
    have HDK6 := Lib.hid (HDK5.out.fr0 HF56.out)
    have HRF6 := Lib.hid (HRF5.out.fr0 HF56.out)
    have HS6 := Lib.hid (HT.out.2.2.2.1.fr0 HF56.out)
    have HCC := Lib.hid (CC.out w6 HF6.out rb HRF6.out)
    have HEN := Lib.hid HT.out.2.2.2.2
    have HSZ := Lib.hid (show w.heap.size ≤ w5.heap.size from HF5.out.size)
    have HTB6 := Lib.hid HB6.out
    have HT3 := Lib.hid HT.out.2.2.1
    generalize htb : w5.heap.size = tb at *
    clear HT HF56 HDK4 HDK5 HRF HRF5 HF5 HTR
    refine HCC.out.mono ?_
    rintro e w7 ⟨hF7, hcq⟩
    obtain ⟨cst, cn, rfl, hcc⟩ : ∃ cst cn : Int, e = .returned (.tuple #[.int .i64 cst, .int .i64 cn]) ∧ ((cn = 0 ∧ (∀ y ∈ L, goodC y) ∧ (∃ s, treeB B N top = some s) ∧ cst = (countR (hasT B top) (lvT B top) (outG (pagesG L 128)) : Int)) ∨ CostX B N top L cn) := by
      rcases hcq with ⟨a, b', c⟩ | ⟨n, a, c⟩
      · exact ⟨_, _, c, .inl ⟨rfl, a, b', rfl⟩⟩
      · exact ⟨_, _, c, .inr a⟩
    have HCQ := Lib.hid hcc
    have HF7 := Lib.hid (HF6.out.trans hF7)
    have HN7 := Lib.hid (HN6.out.trans hF7)
    have HDK7 := Lib.hid (HDK6.out.fr0 hF7)
    have HRF7 := Lib.hid (HRF6.out.fr0 hF7)
    have HS7 := Lib.hid (HS6.out.fr0 hF7)
    have htb7 := hF7.heap HTB6.out (fun h => h)
    obtain ⟨pa, pc, hc0, -, -⟩ := (HRF7.out.fr0 (Fr.refl No _).drew).cells
    have hc1 : w7.drew.cell? ⟨tb, 133, none⟩ = some (.slice a0 L0.length c0) := heap_cell (w := w7) htb7 HT3.out
    have hFd := (Fr.refl No w7).drew
    have hfr : w7.drew.heap.size = w7.heap.size := rfl
    clear hF7 hcq hcc HCC HDK6 HRF6 HS6 HTB6 HB6 htb7
    go_upto_region 8 with fail
    refine wp_region_held_drew (S := (fun w' => w'.cell? ⟨rb, 0, none⟩ = some (.slice pa N pc) ∧ w'.cell? ⟨tb, 133, none⟩ = some (.slice a0 L0.length c0))) (by kernel_rfl) ⟨hc0, hc1⟩ (fun hS0 => ?_)
    refine take_at7 (i := 0) (d := some 52) (v := ?_) rfl rfl (by kernel_rfl) (by kernel_rfl) (by kernel_rfl) (fun _ _ _ h => h) (Or.inl ⟨by rfl, ?_⟩) (by assumption) ?_
    rotate_left
    · intro w hSw; go_simp; try (with_reducible rfl)
    try simp only [Act.put, List.setIfInBounds_toArray, List.set_cons_zero, List.set_cons_succ]
    refine take_at7 (i := 1) (d := some 53) (v := ?_) rfl rfl (by kernel_rfl) (by kernel_rfl) (by kernel_rfl) (fun _ _ _ h => h) (Or.inl ⟨by rfl, ?_⟩) (by assumption) ?_
    rotate_left
    · intro w hSw; go_simp; try (with_reducible rfl)
    try simp only [Act.put, List.setIfInBounds_toArray, List.set_cons_zero, List.set_cons_succ]
    refine take_at7 (i := 2) (d := some 54) (v := ?_) rfl rfl (by kernel_rfl) (by kernel_rfl) (by kernel_rfl) (fun _ _ _ h => h) (Or.inl ⟨by rfl, ?_⟩) (by assumption) ?_
    rotate_left
    · intro w hSw; go_simp; try (with_reducible rfl)
    try simp only [Act.put, List.setIfInBounds_toArray, List.set_cons_zero, List.set_cons_succ]
    refine take_at7 (i := 3) (d := some 55) (v := ?_) rfl rfl (by kernel_rfl) (by kernel_rfl) (by kernel_rfl) (fun _ _ _ h => h) (Or.inl ⟨by rfl, ?_⟩) (by assumption) ?_
    rotate_left
    · intro w hSw; go_simp; try (with_reducible rfl)
    try simp only [Act.put, List.setIfInBounds_toArray, List.set_cons_zero, List.set_cons_succ]
    refine take_at7 (i := 4) (d := some 56) (v := ?_) rfl rfl (by kernel_rfl) (by kernel_rfl) (by kernel_rfl) (fun _ _ _ h => h) (Or.inl ⟨by rfl, ?_⟩) (by assumption) ?_
    rotate_left
    · intro w hSw; go_simp; try (with_reducible rfl)
    try simp only [Act.put, List.setIfInBounds_toArray, List.set_cons_zero, List.set_cons_succ]
    refine take_at7 (i := 5) (d := some 57) (v := ?_) rfl rfl (by kernel_rfl) (by kernel_rfl) (by kernel_rfl) (fun _ _ _ h => h) (Or.inl ⟨by rfl, ?_⟩) (by assumption) ?_
    rotate_left
    · intro w hSw; go_simp; try (with_reducible rfl)
    try simp only [Act.put, List.setIfInBounds_toArray, List.set_cons_zero, List.set_cons_succ]
    refine take_at7 (i := 6) (d := some 58) (v := ?_) rfl rfl (by kernel_rfl) (by kernel_rfl) (by kernel_rfl) (fun _ _ _ h => h) (Or.inl ⟨by rfl, ?_⟩) (by assumption) ?_
    rotate_left
    · intro w hSw; go_simp; try (with_reducible rfl)
    try simp only [Act.put, List.setIfInBounds_toArray, List.set_cons_zero, List.set_cons_succ]
    refine take_at7 (i := 8) (d := some 60) (v := ?_) rfl rfl (by kernel_rfl) (by kernel_rfl) (by kernel_rfl) (fun _ _ _ h => h) (Or.inl ⟨by rfl, ?_⟩) (by assumption) ?_
    rotate_left
    · intro w hSw; go_simp; try (with_reducible rfl)
    try simp only [Act.put, List.setIfInBounds_toArray, List.set_cons_zero, List.set_cons_succ]
    refine one_H7 (i := 7) (d := some 59) rfl rfl rfl (by kernel_rfl) (fun K hK => ?_)
    refine wp_append_sl7 el_int7 rfl _ (.tmp 58) rfl w7.heap.size (.slice none 0 0) 0 [] rfl (World.ownsRow_nil _ _ _ _) rfl (HS7.out.fr0 hFd) (by rw [ints7_len]; omega) (ints7_one _) (by unfold maxLen; have := HL0.out; omega) (by have := HL0.out; omega) (by rw [hfr]; exact Nat.le_refl _) ?_
    intro a3 n3 c3 w8 hown8 hgrow8 hlie8
    rw [Nat.zero_add, List.nil_append] at hown8
    have hF8 : Fr No w7.drew w8 := (fr_grown7 hgrow8).mono (fun k _ e => by cases e)
    have HO8 := Lib.hid hown8
    have HFD8 := Lib.hid (hFd.trans hF8)
    refine hK.out _ _ ⟨hF8.cell hc0 (fun h => h), hF8.cell hc1 (fun h => h)⟩ (fun hHeld => ?_)
    clear hK K hown8 hgrow8 hlie8
    obtain ⟨ea, ec, ee⟩ := (Sl.of_owns HO8.out).form
    injection ee with e1 e2 e3
    subst e1 e2 e3
    try simp only [Act.put, List.setIfInBounds_toArray, List.set_cons_zero, List.set_cons_succ]
    refine one_H7 (i := 9) (d := some 61) rfl rfl rfl (by kernel_rfl) (fun K hK => ?_)
    refine wp_append_sl7 el_int7 rfl _ (.tmp 60) rfl w7.heap.size (.slice a3 L0.length c3) L0.length (ints7 L0) rfl HO8.out rfl (HM.out _ (HF7.out.trans HFD8.out)) (by rw [ints7_len]; omega) (ints7_one _) (by unfold maxLen; have := HL0.out; have := HL3.out; omega) (by have := HL0.out; have := HL3.out; omega) HFD8.out.size ?_
    intro a4 n4 c4 w9 hown9 hgrow9 hlie9
    rw [ints7_app] at hown9
    have hF9 : Fr No w7 w9 := HFD8.out.trans' (fr_grown7 hgrow9) (fun i hi e => by have := (HO8.out.lt i e).1; omega)
    have HO9 := Lib.hid (Sl.of_owns hown9)
    have hc0w : w7.cell? ⟨rb, 0, none⟩ = some (.slice pa N pc) := hc0
    have hc1w : w7.cell? ⟨tb, 133, none⟩ = some (.slice a0 L0.length c0) := hc1
    refine hK.out _ _ ⟨hF9.cell hc0w (fun h => h), hF9.cell hc1w (fun h => h)⟩ (fun hHeld => ?_)
    clear hK K hown9 hgrow9 hlie9
    obtain ⟨ea, ec, ee⟩ := HO9.out.form
    injection ee with e1 e2 e3
    subst e1 e2 e3
    try simp only [Act.put, List.setIfInBounds_toArray, List.set_cons_zero, List.set_cons_succ]
    have HHD := Lib.hid (held_calls (w := w9) N HB.out.2.2 (.slice a4 (L0.length + l.length) c4) (L0 ++ l) (by rw [List.length_append]; have := HL0.out; have := HL3.out; omega) (by rw [List.length_append]; exact HO9.out))
    have HF9 := Lib.hid (HF7.out.trans hF9)
    have hn7 := hF9
    have k0 := hF9.cell hc0w (fun h => h)
    have k1 := hF9.cell hc1w (fun h => h)
    clear hF9 hc0w hc1w hF8 hFd hc0 hc1 hS0 hHeld
    refine one_H7 (i := 10) (d := some 62) rfl rfl rfl (by kernel_rfl) (fun K hK => ?_)
    go_simp
    (go_at_call 18; ((with_reducible refine HHD.out.mono ?_); rintro e w10 ⟨mb, cb, fb, hb, gb, rfl, hsp, hrm, hF10, hz1, hz2, hz3, hz4, hz5, hz6⟩))
    refine hK.out _ _ ⟨hF10.cell k0 (fun h => h), hF10.cell k1 (fun h => h)⟩ (fun hHeld => ?_)
    clear hK K
    try simp only [Act.put, List.setIfInBounds_toArray, List.set_cons_zero, List.set_cons_succ]
    refine take_at7 (i := 11) (d := some 51) (v := ?_) rfl rfl (by kernel_rfl) (by kernel_rfl) (by kernel_rfl) (fun _ _ _ h => h) (Or.inl ⟨by rfl, ?_⟩) (by assumption) ?_
    rotate_left
    · intro w hSw; go_simp; try (with_reducible rfl)
    try simp only [Act.put, List.setIfInBounds_toArray, List.set_cons_zero, List.set_cons_succ]
    refine take_at7 (i := 12) (d := some 63) (v := ?_) rfl rfl (by kernel_rfl) (by kernel_rfl) (by kernel_rfl) (fun _ _ _ h => h) (Or.inl ⟨by rfl, ?_⟩) (by assumption) ?_
    rotate_left
    · intro w hSw; go_simp; try (with_reducible rfl)
    try simp only [Act.put, List.setIfInBounds_toArray, List.set_cons_zero, List.set_cons_succ]
    refine take_at7 (i := 13) (d := some 64) (v := ?_) rfl rfl (by kernel_rfl) (by kernel_rfl) (by kernel_rfl) (fun _ _ _ h => h) (Or.inl ⟨by rfl, ?_⟩) (by assumption) ?_
    rotate_left
    · intro w hSw; go_simp; try (with_reducible rfl)
    try simp only [Act.put, List.setIfInBounds_toArray, List.set_cons_zero, List.set_cons_succ]
    refine take_at7 (i := 14) (d := some 15) (v := ?_) rfl rfl (by kernel_rfl) (by kernel_rfl) (by kernel_rfl) (fun _ _ _ h => h) (Or.inl ⟨by rfl, ?_⟩) (by assumption) ?_
    rotate_left
    · intro w hSw; go_simp; try (with_reducible rfl)
    try simp only [Act.put, List.setIfInBounds_toArray, List.set_cons_zero, List.set_cons_succ]
    refine take_at7 (i := 15) (d := some 16) (v := ?_) rfl rfl (by kernel_rfl) (by kernel_rfl) (by kernel_rfl) (fun _ _ _ h => h) (Or.inl ⟨by rfl, ?_⟩) (by assumption) ?_
    rotate_left
    · intro w hSw; go_simp; try (with_reducible rfl)
    try simp only [Act.put, List.setIfInBounds_toArray, List.set_cons_zero, List.set_cons_succ]
    refine wpAnyH_done (by kernel_rfl) ?_ _
    have HF10 := Lib.hid (HF9.out.trans hF10)
    have HDK10 := Lib.hid (HDK7.out.fr0 (hn7.trans hF10))
    have HN10 := Lib.hid (HN7.out.trans (hn7.trans hF10))
    have hs9 : w4.heap.size ≤ w9.heap.size := (HN7.out.trans hn7).size
    have hs3 := HF34.out.size
    have hp0 := HP.out.1
    have hs0 := HF2.out.size
    have hw9 := HF9.out.size
    have HRM := Lib.hid hrm
    have HBD := Lib.hid (show BdG w10 db mb cb fb N A 0 B [] (heldC N (L0 ++ l)) from ⟨HDK10.out, hsp, heldC_len _ _, HTB.out _ HF10.out, fun h => by have := (HA.out _ h).2; omega, fun h => by have := (HA.out _ h).2; omega, fun h => by have := (HA.out _ h).2; omega, fun h => by have := (HA.out _ h).1; omega, by omega, by omega⟩)
    have HZ := Lib.hid (show (∀ k, A k ∨ k = cb ∨ k = fb → (w.heap.size ≤ k ∧ (k < w3.heap.size ∨ w4.heap.size ≤ k)) ∧ k ≠ hb ∧ k ≠ gb) from fun k hk => by
      rcases hk with hk | hk | hk
      · have := HA.out k hk
        exact ⟨⟨this.1, .inl this.2⟩, by omega, by omega⟩
      · exact ⟨⟨by omega, .inr (by omega)⟩, hz6 k (.inr (.inl hk))⟩
      · exact ⟨⟨by omega, .inr (by omega)⟩, hz6 k (.inr (.inr hk))⟩)
    have HBG := Lib.hid (buildg_calls HBD.out (by omega) top HP.out.2 (.slice av L.length cv) L (HVV.out _ HF10.out) (HOK.out _ HF10.out) hlen)
    have HCL : RowKit.Hid ((heldC N (L0 ++ l)).length = N) := Lib.hid (heldC_len _ _)
    have HHE : RowKit.Hid (∀ s, L0 = s.map Prod.fst → treeB B N top = some s → ∀ n ∈ s.map Prod.fst, (heldC N (L0 ++ l)).getD n.toNat 0 ≠ 0) := Lib.hid (fun s e hs n hn => by
      obtain ⟨a, ha, e1, e2⟩ := (tree_mem_any hs n).1 hn
      have hr := ((tree_any B N top).1 ⟨s, hs⟩).2.1 a ha (by rw [e1]; exact e2)
      rw [e1] at hr
      refine heldC_at ?_ (by omega) (by omega)
      rw [Int.toNat_of_nonneg (by omega), List.mem_append]
      left; rw [e]; exact hn)
    clear hsp hrm hF10 hn7 hz1 hz2 hz3 hz4 hz5 hz6 k0 k1 HHD HO8 HO9 HFD8 HS7 HDK7 HRF7 hs9 hs3 hp0 hs0 hw9 HDK10 hHeld
    generalize heldC N (L0 ++ l) = c at *
    go_wp2_with fail
    refine HBG.out.mono ?_
    rintro e w11 ⟨hF11, hbq⟩
    obtain ⟨z, bn, rfl, hbb⟩ : ∃ z bn : Int, e = .returned (.tuple #[.int .i64 z, .int .i64 bn]) ∧ ((bn = 0 ∧ (∀ y ∈ L, goodC y) ∧ (∃ s, treeB B N top = some s) ∧ costG B top L ≤ (freeN c : Int) ∧ BldE w10 db mb cb fb N A 0 B [] c top L z w11) ∨ (z = 0 ∧ Fr No w10 w11 ∧ (CostX B N top L bn ∨ ((∀ y ∈ L, goodC y) ∧ (∃ s, treeB B N top = some s) ∧ (freeN c : Int) < costG B top L ∧ bn = 50)))) := by
      rcases hbq with ⟨a1, a2, a3, z, rfl, a5⟩ | ⟨n, rfl, a2, a3⟩
      · exact ⟨z, 0, rfl, .inl ⟨rfl, a1, a2, a3, a5⟩⟩
      · exact ⟨0, n, rfl, .inr ⟨rfl, a2, a3⟩⟩
    have HF11 := Lib.hid hF11
    have HFW := Lib.hid (HF10.out.trans' hF11 (fun k hk e => by have := (HZ.out k e).1.1; omega))
    have HRM11 := Lib.hid (HRM.out.fr hF11 (fun e => (HZ.out hb e).2.1 rfl) (fun e => (HZ.out gb e).2.2 rfl))
    clear hF11 hbq
    rcases HCQ.out with ⟨rfl, hg, htr, hcst⟩ | hX
    · obtain ⟨s, hs⟩ := htr
      obtain ⟨rfl, hLs⟩ : en = 0 ∧ L0 = s.map Prod.fst := by
        rcases HEN.out with ⟨a1, s2, a2, a3⟩ | ⟨-, a2, -⟩
        · rw [hs] at a2; injection a2 with a2; subst a2; exact ⟨a1, a3⟩
        · rw [hs] at a2; cases a2
      have hcs := cost_same HB.out.2.1 hs L hg
      rw [← hcst] at hcs
      have HFR := Lib.hid (rmfree_calls HRM11.out)
      rcases hbb with ⟨rfl, -, -, hroom, hbe⟩ | ⟨rfl, hFN, hX | ⟨-, -, hroom, rfl⟩⟩
      · obtain ⟨A', B2, c', ac, hq⟩ := blt_of HB.out.1 HB.out.2.1 HB.out.2.2 HCL.out hg (out_rng HKB.out) hs (HHE.out s hLs hs) hroom hbe
        rw [hcs] at hroom
        obtain rfl : cst = (ac : Int) := hcs.symm.trans hq.cost
        have hfa := hq.free
        have hfc := freeN_le c
        rw [HCL.out] at hfc
        have hN2 := HB.out.2.2
        have hwr : IntKind.i64.wrap (((freeN c : Nat) : Int) - (ac : Int)) = ((freeN c' : Nat) : Int) := by rw [IntWalk.i64_in _ (by omega)]; omega
        have dr : decide (((freeN c : Nat) : Int) < (ac : Int)) = false := decide_eq_false (by omega)
        have dn : decide (freeN c < ac) = false := decide_eq_false (by omega)
        have dn2 : (freeN c < ac) = False := eq_false (by omega)
        obtain ⟨ps, hdk, hap⟩ := hq.dk
        have hdr : DkR w11 db A' ac N B2 := hap ▸ hdk.toR
        have HX11 := Lib.hid ((HRX.out.up (Nat.le_refl _) HN10.out w11 HF11.out (fun k hk => (HZ.out k hk).1.2)).toR)
        have HAC := Lib.hid (fun w1 (h : Fr No w11 w1) => gacts_calls (hdr.fr0 h))
        have HRD := Lib.hid (fun w1 (h : Fr No w11 w1) i hi => gread_calls (hdr.fr0 h) i hi)
        have HSF := Lib.hid (fun w1 (h : Fr No w11 w1) => sfreeg_calls (hq.sp.fr0 h))
        have HSC := Lib.hid (fun w1 (h : Fr No w11 w1) => scount_calls (hq.sp.fr0 h))
        have HRC := Lib.hid (fun w1 (h : Fr No w11 w1) => rmcount_calls (HRM11.out.fr0 h))
        have HRF2 := Lib.hid (fun w1 (h : Fr No w11 w1) => rmfree_calls (HRM11.out.fr0 h))
        have HRU := Lib.hid (fun w1 (h : Fr No w11 w1) => rmused_calls (HRM11.out.fr0 h))
        have HSM := Lib.hid (fun w1 (h : Fr No w11 w1) => same7_calls (hdr.fr0 h) HB.out.2.2 hq.rng.1 hq.rng.2 (HX11.out.fr0 h) z top (by have := hq.zr; have := HP.out.2; omega) HP.out.2 hq.ok ⟨s, hs⟩ (.slice av L.length cv) L (HVV.out _ (HFW.out.trans h)) (HOK.out _ (HFW.out.trans h)) hlen hg hq.mem)
        have HOLD := Lib.hid hq.old
        have HCL2 := Lib.hid hq.len
        have HRNG := Lib.hid hq.rng.1
        have HU : RowKit.Hid (∀ n ∈ usedJ c c.length, ∃ m : Nat, n = (m : Int) ∧ 2 ≤ m ∧ m < N) := Lib.hid (fun n hn => by
          obtain ⟨m, h1, h2, h3, -⟩ := used_mem.1 hn
          exact ⟨m, h1, h3, by rw [HCL.out] at h2; exact h2⟩)
        have hUL : (usedJ c c.length).length ≤ 2000 := by
          have h1 : (usedJ c c.length).length ≤ c.length := by
            unfold usedJ
            rw [List.length_map]
            exact Nat.le_trans (List.length_filter_le _ _) (by rw [List.length_range]; exact Nat.le_refl _)
          exact Nat.le_trans h1 (by rw [HCL.out]; exact hN2)
        clear hs hLs hcs hcst hg HCQ hdr hdk hap hq hbe hroom hfa hfc
        generalize usedJ c c.length = U at *
        generalize freeN c = fc at *
        generalize freeN c' = fc' at *
        go_wp2_with fail
        refine HFR.out.mono ?_
        rintro e w12 ⟨rfl, hF12⟩
        have HF12 := Lib.hid hF12
        clear hF12
        go_wp2_with fail
        refine (HAC.out _ HF12.out).mono ?_
        rintro e w13 ⟨rfl, rfl⟩
        go_wp2_with fail
        refine (HSF.out _ HF12.out).mono ?_
        rintro e w13 ⟨rfl, rfl⟩
        go_wp2_with fail
        refine (HRF2.out _ HF12.out).mono ?_
        rintro e w14 ⟨rfl, hF14⟩
        have HF14 := Lib.hid (HF12.out.trans hF14)
        clear hF14
        go_wp2_with fail
        refine (HRU.out _ HF14.out).mono ?_
        rintro e w15 ⟨r, rfl, hF15, ho15⟩
        have HF15 := Lib.hid (HF14.out.trans hF15)
        have HO15 := Lib.hid (Sl.of_owns ho15)
        obtain ⟨ua, uc, rfl⟩ := (Sl.of_owns ho15).form
        clear hF15 ho15
        go_wp2_with fail
        go_loopw [139] (fun i wr => ∃ j : Nat, j ≤ U.length ∧ i = .int .i64 (j : Int) ∧ Fr No w15 wr) (fun i _ => U.length - (intOf i).toNat)
        case atStart => exact ⟨0, by omega, rfl, Fr.refl _ _⟩
        case round =>
          obtain ⟨j, hj, rfl, hF⟩ := hrel
          by_cases hlt : j < U.length
          · have dj : decide ((j : Int) < (U.length : Int)) = true := decide_eq_true (by omega)
            obtain ⟨n, hn, hn2, hnN⟩ := HU.out _ (List.getElem_mem hlt)
            obtain ⟨ho1, ho2⟩ := HOLD.out _ (List.getElem_mem hlt)
            have hget := ints7_get U j hlt
            rw [List.getD_eq_getElem?_getD, List.getElem?_eq_getElem hlt, Option.getD_some] at hget
            rw [hn] at hget ho1 ho2
            rw [Int.toNat_natCast] at ho1 ho2
            obtain ⟨ug, uo, hag, -, hc⟩ := (HO15.out.fr0 hF).at (by intro e; rw [e] at hget; simp at hget)
            have x1 := hc _ _ hget
            subst hag
            have HR1 := Lib.hid (HRD.out wr (HF15.out.trans hF) n hnN)
            have HO12 := Lib.hid (And.intro ho1 ho2)
            have HFr := Lib.hid hF
            clear hn ho1 ho2 hget hc hF
            go_wp2_with fail
            refine HR1.out.mono ?_
            rintro e w16 ⟨r, rfl, hF16, hrg⟩
            have hF16d := (HFr.out.trans hF16).drew
            have hs1 := readG_sl hrg (Fr.refl No _).drew HRNG.out hnN
            obtain ⟨rg, rfl, -, -⟩ := hrg
            have z1 := conv_64 (by exact secB_len (by rw [HRNG.out]; omega)) hs1
            obtain ⟨sg, so, spc, sb, y0, y1, hrw⟩ := (HX11.out.fr0 (HF15.out.trans hF16d)).sec n hnN
            have hl64 : (secB B n).length = 64 := secB_len (by rw [HB.out.1]; omega)
            have hs2 := hrw.sl
            rw [hl64] at hs2
            have z2 := conv_64 hl64 hs2
            rw [← HO12.out.1] at z2
            have HCA := Lib.hid (fun w1 (h : Fr No w16.drew w1) => HSC.out w1 ((HF15.out.trans hF16d).trans h) n hn2 (by rw [HCL2.out]; exact hnN))
            have HCB := Lib.hid (fun w1 (h : Fr No w16.drew w1) => HRC.out w1 ((HF15.out.trans hF16d).trans h) n hn2 (by rw [HCL.out]; exact hnN))
            rw [HO12.out.2] at HCA
            have HFD := Lib.hid hF16d
            have hI0 : (0 : Int) ≤ (n : Int) := by omega
            have hI1 : (n : Int) < (N : Int) := by omega
            clear hF16 hs1 hs2 hrw hl64 hF16d
            generalize c.getD n 0 = cc at *
            generalize strOfNums (secB B2 n) = st at *
            go_upto_region 22 with fail
            refine wp_region_held_drew (S := (fun w' => w'.cell? ⟨rb, 0, none⟩ = some (.slice (some ⟨sg, so, none⟩) N spc) ∧ w'.cell? ⟨sg, so + n, none⟩ = some (.slice (some ⟨sb, 0, none⟩) 64 64) ∧ (convert 30 9 (.slice (some ⟨rg, 0, none⟩) 64 64)).run Tryd.prog w' = .ok (.string st) w' ∧ (convert 30 9 (.slice (some ⟨sb, 0, none⟩) 64 64)).run Tryd.prog w' = .ok (.string st) w')) (by kernel_rfl) ⟨y0, y1, z1, z2⟩ (fun hS0 => ?_)
            refine take_at7 (i := 0) (d := some 149) (v := ?_) rfl rfl (by kernel_rfl) (by kernel_rfl) (by kernel_rfl) (fun _ _ _ h => h) (Or.inl ⟨by rfl, ?_⟩) (by assumption) ?_
            rotate_left
            · intro w hSw; go_simp; try (with_reducible rfl)
            try simp only [Act.put, List.setIfInBounds_toArray, List.set_cons_zero, List.set_cons_succ]
            refine take_at7 (i := 1) (d := some 150) (v := ?_) rfl rfl (by kernel_rfl) (by kernel_rfl) (by kernel_rfl) (fun _ _ _ h => h) (Or.inl ⟨by rfl, ?_⟩) (by assumption) ?_
            rotate_left
            · intro w hSw; go_simp; try (with_reducible rfl)
            try simp only [Act.put, List.setIfInBounds_toArray, List.set_cons_zero, List.set_cons_succ]
            refine take_at7 (i := 2) (d := some 151) (v := ?_) rfl rfl (by kernel_rfl) (by kernel_rfl) (by kernel_rfl) (fun _ _ _ h => h) (Or.inl ⟨by rfl, ?_⟩) (by assumption) ?_
            rotate_left
            · intro w hSw; go_simp; try (with_reducible rfl)
            try simp only [Act.put, List.setIfInBounds_toArray, List.set_cons_zero, List.set_cons_succ]
            refine take_at7 (i := 3) (d := some 152) (v := ?_) rfl rfl (by kernel_rfl) (by kernel_rfl) (by kernel_rfl) (fun _ _ _ h => h) (Or.inl ⟨by rfl, ?_⟩) (by assumption) ?_
            rotate_left
            · intro w hSw; go_simp; try (with_reducible rfl)
            try simp only [Act.put, List.setIfInBounds_toArray, List.set_cons_zero, List.set_cons_succ]
            refine take_at7 (i := 4) (d := some 153) (v := ?_) rfl rfl (by kernel_rfl) (by kernel_rfl) (by kernel_rfl) (fun _ _ _ h => h) (Or.inl ⟨by rfl, ?_⟩) (by assumption) ?_
            rotate_left
            · intro w hSw; go_simp; try (with_reducible rfl)
            try simp only [Act.put, List.setIfInBounds_toArray, List.set_cons_zero, List.set_cons_succ]
            refine take_at7 (i := 5) (d := some 154) (v := ?_) rfl rfl (by kernel_rfl) (by kernel_rfl) (by kernel_rfl) (fun _ _ _ h => h) (Or.inl ⟨by rfl, ?_⟩) (by assumption) ?_
            rotate_left
            · intro w hSw; go_simp; try (with_reducible rfl)
            try simp only [Act.put, List.setIfInBounds_toArray, List.set_cons_zero, List.set_cons_succ]
            refine take_at7 (i := 6) (d := some 155) (v := ?_) rfl rfl (by kernel_rfl) (by kernel_rfl) (by kernel_rfl) (fun _ _ _ h => h) (Or.inl ⟨by rfl, ?_⟩) (by assumption) ?_
            rotate_left
            · intro w hSw; go_simp; try (with_reducible rfl)
            try simp only [Act.put, List.setIfInBounds_toArray, List.set_cons_zero, List.set_cons_succ]
            refine take_at7 (i := 7) (d := some 156) (v := ?_) rfl rfl (by kernel_rfl) (by kernel_rfl) (by kernel_rfl) (fun _ _ _ h => h) (Or.inl ⟨by rfl, ?_⟩) (by assumption) ?_
            rotate_left
            · intro w hSw; go_simp; try (with_reducible rfl)
            try simp only [Act.put, List.setIfInBounds_toArray, List.set_cons_zero, List.set_cons_succ]
            refine take_at7 (i := 8) (d := some 157) (v := ?_) rfl rfl (by kernel_rfl) (by kernel_rfl) (by kernel_rfl) (fun _ _ _ h => h) (Or.inl ⟨by rfl, ?_⟩) (by assumption) ?_
            rotate_left
            · intro w hSw; go_simp; try (with_reducible rfl)
            try simp only [Act.put, List.setIfInBounds_toArray, List.set_cons_zero, List.set_cons_succ]
            refine take_at7 (i := 9) (d := some 158) (v := ?_) rfl rfl (by kernel_rfl) (by kernel_rfl) (by kernel_rfl) (fun _ _ _ h => h) (Or.inl ⟨by rfl, ?_⟩) (by assumption) ?_
            rotate_left
            · intro w hSw; go_simp; try (with_reducible rfl)
            try simp only [Act.put, List.setIfInBounds_toArray, List.set_cons_zero, List.set_cons_succ]
            refine take_at7 (i := 10) (d := some 159) (v := ?_) rfl rfl (by kernel_rfl) (by kernel_rfl) (by kernel_rfl) (fun _ _ _ h => h) (Or.inl ⟨by rfl, ?_⟩) (by assumption) ?_
            rotate_left
            · intro w hSw; go_simp; try (with_reducible rfl)
            try simp only [Act.put, List.setIfInBounds_toArray, List.set_cons_zero, List.set_cons_succ]
            refine take_at7 (i := 11) (d := some 160) (v := ?_) rfl rfl (by kernel_rfl) (by kernel_rfl) (by kernel_rfl) (fun _ _ _ h => h) (Or.inl ⟨by rfl, ?_⟩) (by assumption) ?_
            rotate_left
            · intro w hSw; go_simp; try (with_reducible rfl)
            try simp only [Act.put, List.setIfInBounds_toArray, List.set_cons_zero, List.set_cons_succ]
            refine take_at7 (i := 12) (d := some 161) (v := ?_) rfl rfl (by kernel_rfl) (by kernel_rfl) (by kernel_rfl) (fun _ _ _ h => h) (Or.inl ⟨by rfl, ?_⟩) (by assumption) ?_
            rotate_left
            · intro w hSw; go_simp; try (with_reducible rfl)
            try simp only [Act.put, List.setIfInBounds_toArray, List.set_cons_zero, List.set_cons_succ]
            refine take_at7 (i := 13) (d := some 162) (v := ?_) rfl rfl (by kernel_rfl) (by kernel_rfl) (by kernel_rfl) (fun _ _ _ h => h) (Or.inl ⟨by rfl, ?_⟩) (by assumption) ?_
            rotate_left
            · intro w hSw; go_simp; try (with_reducible rfl)
            try simp only [Act.put, List.setIfInBounds_toArray, List.set_cons_zero, List.set_cons_succ]
            refine take_at7 (i := 15) (d := some 164) (v := ?_) rfl rfl (by kernel_rfl) (by kernel_rfl) (by kernel_rfl) (fun _ _ _ h => h) (Or.inl ⟨by rfl, ?_⟩) (by assumption) ?_
            rotate_left
            · intro w hSw; go_simp; try (with_reducible rfl)
            try simp only [Act.put, List.setIfInBounds_toArray, List.set_cons_zero, List.set_cons_succ]
            refine take_at7 (i := 16) (d := some 165) (v := ?_) rfl rfl (by kernel_rfl) (by kernel_rfl) (by kernel_rfl) (fun _ _ _ h => h) (Or.inl ⟨by rfl, ?_⟩) (by assumption) ?_
            rotate_left
            · intro w hSw; go_simp; try (with_reducible rfl)
            try simp only [Act.put, List.setIfInBounds_toArray, List.set_cons_zero, List.set_cons_succ]
            refine wpAnyH_ready (rs := [14]) (by kernel_rfl) (by simp) ?_
            refine AllReadyH.cons rfl (fun K hK => ?_) AllReadyH.nil
            go_simp
            go_wp2_with (go_at_call 27; ((with_reducible refine (HCA.out w16.drew (Fr.refl _ _)).mono ?_); rintro e w17 ⟨rfl, rfl⟩))
            refine hK.out _ _ hS0 (fun hHeld => ?_)
            clear hK K
            try simp only [Act.put, List.setIfInBounds_toArray, List.set_cons_zero, List.set_cons_succ]
            refine wpAnyH_ready (rs := [17]) (by kernel_rfl) (by simp) ?_
            refine AllReadyH.cons rfl (fun K hK => ?_) AllReadyH.nil
            go_simp
            go_wp2_with (go_at_call 28; ((with_reducible refine (HCB.out w16.drew (Fr.refl _ _)).mono ?_); rintro e w17 ⟨rfl, rfl⟩))
            refine hK.out _ _ hS0 (fun hHeld => ?_)
            clear hK K
            try simp only [Act.put, List.setIfInBounds_toArray, List.set_cons_zero, List.set_cons_succ]
            refine take_at7 (i := 18) (d := some 167) (v := ?_) rfl rfl (by kernel_rfl) (by kernel_rfl) (by kernel_rfl) (fun _ _ _ h => h) (Or.inl ⟨by rfl, ?_⟩) (by assumption) ?_
            rotate_left
            · intro w hSw; go_simp; try (with_reducible rfl)
            try simp only [Act.put, List.setIfInBounds_toArray, List.set_cons_zero, List.set_cons_succ]
            refine take_at7 (i := 19) (d := some 168) (v := ?_) rfl rfl (by kernel_rfl) (by kernel_rfl) (by kernel_rfl) (fun _ _ _ h => h) (Or.inl ⟨by rfl, ?_⟩) (by assumption) ?_
            rotate_left
            · intro w hSw; go_simp; try (with_reducible rfl)
            try simp only [Act.put, List.setIfInBounds_toArray, List.set_cons_zero, List.set_cons_succ]
            refine wpAnyH_done (by kernel_rfl) ?_ _
            go_wp2_with fail
            refine ⟨⟨j + 1, by omega, by go_num, HFD.out⟩, by simp [intOf]; omega⟩
          · obtain rfl : j = U.length := by omega
            have dj : decide ((U.length : Int) < (U.length : Int)) = false := decide_eq_false (by omega)
            have HS := Lib.hid (HSM.out _ (HF15.out.trans hF))
            have HFr := Lib.hid hF
            clear hF
            go_wp2_with fail
            refine HS.out.mono ?_
            rintro e w16 ⟨rfl, hF16⟩
            have HE := Lib.hid (((HFW.out.trans HF15.out).trans HFr.out).trans hF16)
            clear hF16
            go_wp2_with fail
            go_ret
            exact ⟨rfl, HE.out⟩
      · exact (costX_not hX hg ⟨s, hs⟩).elim
      · rw [hcs] at hroom
        have HAC := Lib.hid (fun w1 (h : Fr No w11 w1) => gacts_calls ((HBD.out.fr0 (hFN.trans h)).dk.toR))
        have HSF := Lib.hid (fun w1 (h : Fr No w11 w1) => sfreeg_calls (HBD.out.fr0 (hFN.trans h)).sp)
        have HRF2 := Lib.hid (fun w1 (h : Fr No w11 w1) => rmfree_calls (HRM11.out.fr0 h))
        generalize freeN c = fc at *
        have dr : decide ((fc : Int) < cst) = true := decide_eq_true hroom
        clear hs hLs hcs hcst hFN hg HCQ
        go_wp2_with fail
        refine HFR.out.mono ?_
        rintro e w12 ⟨rfl, hF12⟩
        have HF12 := Lib.hid hF12
        clear hF12
        go_wp2_with fail
        refine (HAC.out _ HF12.out).mono ?_
        rintro e w13 ⟨rfl, rfl⟩
        go_wp2_with fail
        refine (HSF.out _ HF12.out).mono ?_
        rintro e w13 ⟨rfl, rfl⟩
        go_wp2_with fail
        refine (HRF2.out _ HF12.out).mono ?_
        rintro e w14 ⟨rfl, hF14⟩
        have HF14 := Lib.hid hF14
        clear hF14
        go_wp2_with fail
        go_ret
        exact ⟨rfl, (HFW.out.trans HF12.out).trans HF14.out⟩
    · have hxn := fun hg ht => costX_not hX hg ht
      obtain ⟨rfl, hFN, rfl⟩ : z = 0 ∧ Fr No w10 w11 ∧ bn = cn := by
        rcases hbb with ⟨-, a1, a2, -⟩ | ⟨rfl, a1, a2 | ⟨a2, a3, -⟩⟩
        · exact (hxn a1 a2).elim
        · exact ⟨rfl, a1, costX_one a2 hX⟩
        · exact (hxn a2 a3).elim
      have HAC := Lib.hid (gacts_calls ((HBD.out.fr0 hFN).dk.toR))
      clear hbb hFN hxn HCQ
      rcases costX_lit hX with rfl | rfl
      · clear hX
        go_wp2_with fail
        refine HAC.out.mono ?_
        rintro e w12 ⟨rfl, rfl⟩
        go_wp2_with fail
        go_ret
        exact ⟨rfl, HFW.out⟩
      · clear hX
        go_wp2_with fail
        refine HAC.out.mono ?_
        rintro e w12 ⟨rfl, rfl⟩
        go_wp2_with fail
        go_ret
        exact ⟨rfl, HFW.out⟩
end Go.Proofs.YtpcikbloflpahaaDoor
