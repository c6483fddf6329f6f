/-
  Chapter 7: ShadowMerges (behind awake).
-/
import Derived.Test.YtpcikbloflpahaaDoorYB
namespace Go.Proofs.YtpcikbloflpahaaDoor
set_option linter.unusedVariables false
set_option linter.unusedSimpArgs false
open Go.RowKit Go.Shelf Go.Maps

theorem chgCells_len (vs : List (Int × Value)) : (chgCells vs).length = 2 * vs.length := by
  induction vs with
  | nil => rfl
  | cons y vs ih => simp [chgCells] at ih ⊢; omega
theorem chgCells_get (vs : List (Int × Value)) (k : Nat) (h : k < vs.length) : (chgCells vs)[k * 2]? = some (.int .i64 vs[k].1) ∧ (chgCells vs)[k * 2 + 1]? = some vs[k].2 := by
  have h0 := flat_get7 (fun p : Int × Value => [Value.int .i64 p.1, p.2]) 2 (fun _ => rfl) vs k 0 h (by omega)
  have h1 := flat_get7 (fun p : Int × Value => [Value.int .i64 p.1, p.2]) 2 (fun _ => rfl) vs k 1 h (by omega)
  exact ⟨h0, h1⟩
theorem chgs_at {n0 : Nat} {cs : List Chg} {vs : List (Int × Value)} {w : World} {a : Option Addr} {c n : Nat} (hn : cs.length = n) (hv : Sl w (.slice a n c) n (chgCells vs)) (h : ChV n0 cs vs w) (j : Nat) (hj : j < n) :
    ∃ g o b d l, a = some ⟨g, o, none⟩ ∧ (cs[j]'(by omega)).2 = l ∧ w.cell? ⟨g, o + j * 2, none⟩ = some (.int .i64 (cs[j]'(by omega)).1) ∧ w.cell? ⟨g, o + j * 2 + 1, none⟩ = some (.slice b l.length d) ∧ Sl w (.slice b l.length d) l.length (bys l) := by
  subst hn
  have hl := h.1
  obtain ⟨e1, e2⟩ := h.2 j hj (by omega)
  obtain ⟨b, d, e3⟩ := (Sl.of_owns e2).form
  obtain ⟨q0, q1⟩ := chgCells_get vs j (by omega)
  obtain ⟨g, o, rfl, -, hc⟩ := hv.at (by intro e; rw [e] at q0; simp at q0)
  refine ⟨g, o, b, d, _, rfl, rfl, ?_, ?_, ?_⟩
  · have := hc _ _ q0
    rw [e1] at this; exact this
  · have := hc _ _ q1
    rw [e3, ← Nat.add_assoc] at this; exact this
  · rw [← e3]; exact Sl.of_owns e2

set_option maxHeartbeats 8000000 in
set_option maxRecDepth 1000000 in
theorem shadowMerges_of (w : World) (HAW : Calls Tryd.prog 8 #[] w fun e w' => e = .returned (.bool true) ∧ Fr No w w') (v : Value) (L : List ChA) (hv : Sl w v L.length (L.flatMap chaC)) (hok : ∀ y ∈ L, chaOk w y) (hlen : L.length ≤ 140737488355328) :
    Calls Tryd.prog 3 #[v] w fun e w' => e = .returned (.bool true) ∧ Fr No w w' := by
  have C3 := Lib.hid (fun w1 (h : Fr No w w1) => few07_calls (.slice none 0 0) v [] L w1 hlen (Sl.nil w1) (hv.fr0 h))
  have hokf : ∀ w1, Fr No w w1 → ∀ y ∈ L, chaOk w1 y := fun w1 h y hy => ⟨(hok y hy).1, (hok y hy).2.1.fr0 h, (hok y hy).2.2⟩
  have CM := Lib.hid (fun w1 (h : Fr No w w1) => merge_calls v L w1 (hv.fr0 h) (hokf w1 h) hlen)
  have CR := Lib.hid (fun w1 (h : Fr No w w1) => rmerge_calls v L w1 (hv.fr0 h) (hokf w1 h) hlen)
  obtain ⟨av, cv, rfl⟩ := hv.form
  have HA := Lib.hid HAW
  clear hv hok hokf HAW
  go_enter Tryd.func3, Tryd.ntmps3
  go_wp2_with fail
  refine HA.out.mono ?_
  rintro e w1 ⟨rfl, hF1⟩
  go_wp2_with fail
  refine (C3.out _ hF1).mono ?_
  rintro e wf ⟨bf, rfl, hFf⟩
  have HF01 := Lib.hid (hF1.trans hFf)
  clear hFf hF1
  cases bf
  · go_wp2
    go_ret
    exact ⟨rfl, HF01.out⟩
  go_wp2_with fail
  refine (CM.out _ HF01.out).mono ?_
  rintro e w2 (⟨hg, r1, vs1, rfl, hF2, hown1, hv1⟩ | ⟨hb, rfl, hF2⟩)
  · obtain ⟨a1, c1, rfl⟩ := (Sl.of_owns hown1).form
    have HS1 := Lib.hid (Sl.of_owns hown1)
    have HV1 := Lib.hid hv1
    have HF02 := Lib.hid (HF01.out.trans hF2)
    have HG := Lib.hid hg
    clear hown1 hv1 hF2 hg
    go_wp2_with fail
    refine (CR.out _ HF02.out).mono ?_
    rintro e w3 (⟨-, r2, vs2, rfl, hF3, hown2, hv2⟩ | ⟨hb, rfl, hF3⟩)
    · obtain ⟨a2, c2, rfl⟩ := (Sl.of_owns hown2).form
      have HF03 := Lib.hid (HF02.out.trans hF3)
      have hnn := outG_len (pagesG L 128)
      have hn8 := pagesG_len L 128
      have H1 := Lib.hid (fun wr (hF : Fr No w3 wr) j hj => chgs_at hnn ((HS1.out.fr0 hF3).fr0 hF) ((HV1.out.fr0 hF3).fr0 hF) j hj)
      have H2 := Lib.hid (fun wr (hF : Fr No w3 wr) j hj => chgs_at hnn ((Sl.of_owns hown2).fr0 hF) (hv2.fr0 hF) j hj)
      generalize outG (pagesG L 128) = cs at *
      generalize (pagesG L 128).length = n at *
      have HN := Lib.hid hnn
      clear hown2 hv2 hF3
      go_wp2_with fail
      go_loopw [35] (fun i wr => ∃ j : Nat, j ≤ n ∧ i = .int .i64 j ∧ Fr No w3 wr) (fun i _ => n - (intOf i).toNat)
      case atStart => exact ⟨0, Nat.zero_le _, rfl, Fr.refl _ _⟩
      case round =>
        obtain ⟨j, hj, rfl, hF⟩ := hrel
        by_cases hlt : j < n
        · obtain ⟨g1, o1, b1, d1, l1, rfl, el1, x1, y1, s1⟩ := H1.out wr.drew hF.drew j hlt
          obtain ⟨g2, o2, b2, d2, l2, rfl, el2, x2, y2, s2⟩ := H2.out wr.drew hF.drew j hlt
          obtain rfl : l1 = l2 := el1.symm.trans el2
          have z1 := conv_sl s1
          have z2 := conv_sl s2
          generalize strOfNums l1 = st at *
          obtain ⟨nm, hnm⟩ : ∃ nm, (cs[j]'(by rw [HN.out]; exact hlt)).1 = nm := ⟨_, rfl⟩
          have x1' : wr.drew.cell? ⟨g1, o1 + j * 2, none⟩ = some (.int .i64 nm) := x1.trans (by rw [← hnm])
          have x2' : wr.drew.cell? ⟨g2, o2 + j * 2, none⟩ = some (.int .i64 nm) := x2.trans (by rw [← hnm])
          have HF := Lib.hid hF
          clear x1 x2 el1 el2 s1 s2 hnm hF
          generalize l1.length = m at *
          go_upto_region 12 with fail
          refine wp_region_held_drew (S := (fun w' => w'.cell? ⟨g1, o1 + j * 2, none⟩ = some (.int .i64 nm) ∧ w'.cell? ⟨g1, o1 + j * 2 + 1, none⟩ = some (.slice b1 m d1) ∧ w'.cell? ⟨g2, o2 + j * 2, none⟩ = some (.int .i64 nm) ∧ w'.cell? ⟨g2, o2 + j * 2 + 1, none⟩ = some (.slice b2 m d2) ∧ (convert 30 9 (.slice b1 m d1)).run Tryd.prog w' = .ok (.string st) w' ∧ (convert 30 9 (.slice b2 m d2)).run Tryd.prog w' = .ok (.string st) w')) (by kernel_rfl) ⟨x1', y1, x2', y2, z1, z2⟩ (fun hS0 => ?_)
          refine take_at7 (i := 0) (d := some 38) (v := ?_) rfl rfl (by kernel_rfl) (by kernel_rfl) (by kernel_rfl) (fun _ _ _ h => h) (Or.inl ⟨by rfl, ?_⟩) (by assumption) ?_
          rotate_left
          · intro w hSw; go_simp; try (with_reducible rfl)
          try simp only [Act.put, List.setIfInBounds_toArray, List.set_cons_zero, List.set_cons_succ]
          refine take_at7 (i := 1) (d := some 39) (v := ?_) rfl rfl (by kernel_rfl) (by kernel_rfl) (by kernel_rfl) (fun _ _ _ h => h) (Or.inl ⟨by rfl, ?_⟩) (by assumption) ?_
          rotate_left
          · intro w hSw; go_simp; try (with_reducible rfl)
          try simp only [Act.put, List.setIfInBounds_toArray, List.set_cons_zero, List.set_cons_succ]
          refine take_at7 (i := 2) (d := some 40) (v := ?_) rfl rfl (by kernel_rfl) (by kernel_rfl) (by kernel_rfl) (fun _ _ _ h => h) (Or.inl ⟨by rfl, ?_⟩) (by assumption) ?_
          rotate_left
          · intro w hSw; go_simp; try (with_reducible rfl)
          try simp only [Act.put, List.setIfInBounds_toArray, List.set_cons_zero, List.set_cons_succ]
          refine take_at7 (i := 3) (d := some 41) (v := ?_) rfl rfl (by kernel_rfl) (by kernel_rfl) (by kernel_rfl) (fun _ _ _ h => h) (Or.inl ⟨by rfl, ?_⟩) (by assumption) ?_
          rotate_left
          · intro w hSw; go_simp; try (with_reducible rfl)
          try simp only [Act.put, List.setIfInBounds_toArray, List.set_cons_zero, List.set_cons_succ]
          refine take_at7 (i := 4) (d := some 42) (v := ?_) rfl rfl (by kernel_rfl) (by kernel_rfl) (by kernel_rfl) (fun _ _ _ h => h) (Or.inl ⟨by rfl, ?_⟩) (by assumption) ?_
          rotate_left
          · intro w hSw; go_simp; try (with_reducible rfl)
          try simp only [Act.put, List.setIfInBounds_toArray, List.set_cons_zero, List.set_cons_succ]
          refine take_at7 (i := 5) (d := some 43) (v := ?_) rfl rfl (by kernel_rfl) (by kernel_rfl) (by kernel_rfl) (fun _ _ _ h => h) (Or.inl ⟨by rfl, ?_⟩) (by assumption) ?_
          rotate_left
          · intro w hSw; go_simp; try (with_reducible rfl)
          try simp only [Act.put, List.setIfInBounds_toArray, List.set_cons_zero, List.set_cons_succ]
          refine take_at7 (i := 6) (d := some 44) (v := ?_) rfl rfl (by kernel_rfl) (by kernel_rfl) (by kernel_rfl) (fun _ _ _ h => h) (Or.inl ⟨by rfl, ?_⟩) (by assumption) ?_
          rotate_left
          · intro w hSw; go_simp; try (with_reducible rfl)
          try simp only [Act.put, List.setIfInBounds_toArray, List.set_cons_zero, List.set_cons_succ]
          refine take_at7 (i := 7) (d := some 45) (v := ?_) rfl rfl (by kernel_rfl) (by kernel_rfl) (by kernel_rfl) (fun _ _ _ h => h) (Or.inl ⟨by rfl, ?_⟩) (by assumption) ?_
          rotate_left
          · intro w hSw; go_simp; try (with_reducible rfl)
          try simp only [Act.put, List.setIfInBounds_toArray, List.set_cons_zero, List.set_cons_succ]
          refine take_at7 (i := 8) (d := some 46) (v := ?_) rfl rfl (by kernel_rfl) (by kernel_rfl) (by kernel_rfl) (fun _ _ _ h => h) (Or.inl ⟨by rfl, ?_⟩) (by assumption) ?_
          rotate_left
          · intro w hSw; go_simp; try (with_reducible rfl)
          try simp only [Act.put, List.setIfInBounds_toArray, List.set_cons_zero, List.set_cons_succ]
          refine take_at7 (i := 9) (d := some 47) (v := ?_) rfl rfl (by kernel_rfl) (by kernel_rfl) (by kernel_rfl) (fun _ _ _ h => h) (Or.inl ⟨by rfl, ?_⟩) (by assumption) ?_
          rotate_left
          · intro w hSw; go_simp; try (with_reducible rfl)
          try simp only [Act.put, List.setIfInBounds_toArray, List.set_cons_zero, List.set_cons_succ]
          refine take_at7 (i := 10) (d := some 48) (v := ?_) rfl rfl (by kernel_rfl) (by kernel_rfl) (by kernel_rfl) (fun _ _ _ h => h) (Or.inl ⟨by rfl, ?_⟩) (by assumption) ?_
          rotate_left
          · intro w hSw; go_simp; try (with_reducible rfl)
          try simp only [Act.put, List.setIfInBounds_toArray, List.set_cons_zero, List.set_cons_succ]
          refine take_at7 (i := 11) (d := some 49) (v := ?_) rfl rfl (by kernel_rfl) (by kernel_rfl) (by kernel_rfl) (fun _ _ _ h => h) (Or.inl ⟨by rfl, ?_⟩) (by assumption) ?_
          rotate_left
          · intro w hSw; go_simp; try (with_reducible rfl)
          try simp only [Act.put, List.setIfInBounds_toArray, List.set_cons_zero, List.set_cons_succ]
          refine take_at7 (i := 12) (d := some 50) (v := ?_) rfl rfl (by kernel_rfl) (by kernel_rfl) (by kernel_rfl) (fun _ _ _ h => h) (Or.inl ⟨by rfl, ?_⟩) (by assumption) ?_
          rotate_left
          · intro w hSw; go_simp; try (with_reducible rfl)
          try simp only [Act.put, List.setIfInBounds_toArray, List.set_cons_zero, List.set_cons_succ]
          refine take_at7 (i := 13) (d := some 51) (v := ?_) rfl rfl (by kernel_rfl) (by kernel_rfl) (by kernel_rfl) (fun _ _ _ h => h) (Or.inl ⟨by rfl, ?_⟩) (by assumption) ?_
          rotate_left
          · intro w hSw; go_simp; try (with_reducible rfl)
          try simp only [Act.put, List.setIfInBounds_toArray, List.set_cons_zero, List.set_cons_succ]
          refine take_at7 (i := 14) (d := some 52) (v := ?_) rfl rfl (by kernel_rfl) (by kernel_rfl) (by kernel_rfl) (fun _ _ _ h => h) (Or.inl ⟨by rfl, ?_⟩) (by assumption) ?_
          rotate_left
          · intro w hSw; go_simp; try (with_reducible rfl)
          try simp only [Act.put, List.setIfInBounds_toArray, List.set_cons_zero, List.set_cons_succ]
          refine take_at7 (i := 15) (d := some 53) (v := ?_) rfl rfl (by kernel_rfl) (by kernel_rfl) (by kernel_rfl) (fun _ _ _ h => h) (Or.inl ⟨by rfl, ?_⟩) (by assumption) ?_
          rotate_left
          · intro w hSw; go_simp; try (with_reducible rfl)
          try simp only [Act.put, List.setIfInBounds_toArray, List.set_cons_zero, List.set_cons_succ]
          refine take_at7 (i := 16) (d := some 54) (v := ?_) rfl rfl (by kernel_rfl) (by kernel_rfl) (by kernel_rfl) (fun _ _ _ h => h) (Or.inl ⟨by rfl, ?_⟩) (by assumption) ?_
          rotate_left
          · intro w hSw; go_simp; try (with_reducible rfl)
          try simp only [Act.put, List.setIfInBounds_toArray, List.set_cons_zero, List.set_cons_succ]
          refine take_at7 (i := 17) (d := some 55) (v := ?_) rfl rfl (by kernel_rfl) (by kernel_rfl) (by kernel_rfl) (fun _ _ _ h => h) (Or.inl ⟨by rfl, ?_⟩) (by assumption) ?_
          rotate_left
          · intro w hSw; go_simp; try (with_reducible rfl)
          try simp only [Act.put, List.setIfInBounds_toArray, List.set_cons_zero, List.set_cons_succ]
          refine take_at7 (i := 18) (d := some 56) (v := ?_) rfl rfl (by kernel_rfl) (by kernel_rfl) (by kernel_rfl) (fun _ _ _ h => h) (Or.inl ⟨by rfl, ?_⟩) (by assumption) ?_
          rotate_left
          · intro w hSw; go_simp; try (with_reducible rfl)
          try simp only [Act.put, List.setIfInBounds_toArray, List.set_cons_zero, List.set_cons_succ]
          refine take_at7 (i := 19) (d := some 57) (v := ?_) rfl rfl (by kernel_rfl) (by kernel_rfl) (by kernel_rfl) (fun _ _ _ h => h) (Or.inl ⟨by rfl, ?_⟩) (by assumption) ?_
          rotate_left
          · intro w hSw; go_simp; try (with_reducible rfl)
          try simp only [Act.put, List.setIfInBounds_toArray, List.set_cons_zero, List.set_cons_succ]
          refine take_at7 (i := 20) (d := some 58) (v := ?_) rfl rfl (by kernel_rfl) (by kernel_rfl) (by kernel_rfl) (fun _ _ _ h => h) (Or.inl ⟨by rfl, ?_⟩) (by assumption) ?_
          rotate_left
          · intro w hSw; go_simp; try (with_reducible rfl)
          try simp only [Act.put, List.setIfInBounds_toArray, List.set_cons_zero, List.set_cons_succ]
          refine take_at7 (i := 21) (d := some 59) (v := ?_) rfl rfl (by kernel_rfl) (by kernel_rfl) (by kernel_rfl) (fun _ _ _ h => h) (Or.inl ⟨by rfl, ?_⟩) (by assumption) ?_
          rotate_left
          · intro w hSw; go_simp; try (with_reducible rfl)
          try simp only [Act.put, List.setIfInBounds_toArray, List.set_cons_zero, List.set_cons_succ]
          refine take_at7 (i := 22) (d := some 60) (v := ?_) rfl rfl (by kernel_rfl) (by kernel_rfl) (by kernel_rfl) (fun _ _ _ h => h) (Or.inl ⟨by rfl, ?_⟩) (by assumption) ?_
          rotate_left
          · intro w hSw; go_simp; try (with_reducible rfl)
          try simp only [Act.put, List.setIfInBounds_toArray, List.set_cons_zero, List.set_cons_succ]
          refine take_at7 (i := 23) (d := some 61) (v := ?_) rfl rfl (by kernel_rfl) (by kernel_rfl) (by kernel_rfl) (fun _ _ _ h => h) (Or.inl ⟨by rfl, ?_⟩) (by assumption) ?_
          rotate_left
          · intro w hSw; go_simp; try (with_reducible rfl)
          try simp only [Act.put, List.setIfInBounds_toArray, List.set_cons_zero, List.set_cons_succ]
          refine take_at7 (i := 24) (d := some 62) (v := ?_) rfl rfl (by kernel_rfl) (by kernel_rfl) (by kernel_rfl) (fun _ _ _ h => h) (Or.inl ⟨by rfl, ?_⟩) (by assumption) ?_
          rotate_left
          · intro w hSw; go_simp; try (with_reducible rfl)
          try simp only [Act.put, List.setIfInBounds_toArray, List.set_cons_zero, List.set_cons_succ]
          refine take_at7 (i := 25) (d := some 63) (v := ?_) rfl rfl (by kernel_rfl) (by kernel_rfl) (by kernel_rfl) (fun _ _ _ h => h) (Or.inl ⟨by rfl, ?_⟩) (by assumption) ?_
          rotate_left
          · intro w hSw; go_simp; try (with_reducible rfl)
          try simp only [Act.put, List.setIfInBounds_toArray, List.set_cons_zero, List.set_cons_succ]
          refine wpAnyH_done (by kernel_rfl) ?_ _
          go_wp2_with fail
          go_roundw
          case rel => exact ⟨j + 1, by omega, by go_num, HF.out.drew⟩
          case measure => simp [intOf]; omega
        · obtain rfl : j = n := by omega
          have HF := Lib.hid hF
          clear hF
          go_wp2
          go_ret
          exact ⟨rfl, HF03.out.trans HF.out⟩
    · exact absurd HG.out (by obtain ⟨y, hy, h⟩ := hb; exact fun h2 => h (h2 y hy))
  · have HF02 := Lib.hid (HF01.out.trans hF2)
    have HB := Lib.hid hb
    clear hF2 hb
    go_wp2_with fail
    refine (CR.out _ HF02.out).mono ?_
    rintro e w3 (⟨hg, -⟩ | ⟨-, rfl, hF3⟩)
    · obtain ⟨y, hy, h⟩ := HB.out
      exact absurd (hg y hy) h
    · have HF03 := Lib.hid (HF02.out.trans hF3)
      clear hF3
      go_wp2_with fail
      go_loopw [35] (fun i wr => i = .int .i64 0 ∧ wr = w3) (fun _ _ => 0)
      case atStart => exact ⟨rfl, rfl⟩
      case round =>
        obtain ⟨rfl, rfl⟩ := hrel
        go_wp2
        go_ret
        exact ⟨rfl, HF03.out⟩
end Go.Proofs.YtpcikbloflpahaaDoor
