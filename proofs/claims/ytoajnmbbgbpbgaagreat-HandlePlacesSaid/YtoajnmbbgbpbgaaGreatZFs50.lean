/-
  Chapter 12, the reference: Write. (Printed by wip/tools/fs50.py.)
-/
import Derived.Test.YtoajnmbbgbpbgaaGreatZFs49
import Derived.Test.YtoajnmbbgbpbgaaGreatZJ
namespace Go.Proofs.YtoajnmbbgbpbgaaGreat
set_option linter.unusedVariables false
set_option linter.unusedSimpArgs false
open Go.RowKit Go.Shelf Go.Maps

set_option maxHeartbeats 8000000 in
set_option maxRecDepth 1000000 in
theorem rwrite_fits {w : World} {rb : Nat} {R : Nat → Prop} {F B : List Int} (h : RefAt w rb R F B) {L : List Nd} {u k : Nat} (ht : tableF B = some (L, u)) (hk : k < 8) {nm : ByteArray} {sz : Int} {xs : List (Int × Int)} (hx : L.getD k Nd.free = ⟨nm, sz, xs⟩) (hnm : nm ≠ noName)
    (oo : Nat) (hos : (oo : Int) ≤ sz) (hsz : sz ≤ 1472) (av : Option Addr) (cv : Nat) (l : List Int) {n : Nat} (hn : l.length = n) (hv : Sl w (.slice av n cv) n (bys l)) (hvR : ∀ k, (Value.slice av n cv).ownBlock = some k → bys l ≠ [] → ¬ R k) (h0 : ∀ b ∈ l, 0 ≤ b ∧ b < 256) (hfit : (oo : Int) + n ≤ sz) (hyb : oo + n ≤ 64 * (listF xs).length) (hx23 : xs.length ≤ 23) :
    Calls Tryz.prog 74 #[.pointer (some ⟨rb, 0, none⟩), .int .i64 (k : Int), .int .i64 (oo : Int), .slice av n cv] w (RsP w rb R F (wrF B xs oo l) (.int .i64 0)) := by
  have HM := Lib.hid h
  have HND := Lib.hid (rnode_good h ht hk hx hnm)

  have q1 : decide ((oo : Int) < 0) = false := decide_eq_false (by omega)
  have q2 : decide (sz < (oo : Int)) = false := decide_eq_false (by omega)
  have q3 : decide (sz < (oo : Int) + (n : Int)) = false := decide_eq_false (by omega)
  have hw0 : IntKind.i64.wrap ((oo : Int) + (n : Int)) = (oo : Int) + (n : Int) := IntWalk.i64_in _ (by omega)
  obtain ⟨yl, hyl⟩ : ∃ yl, (listF xs).length = yl := ⟨_, rfl⟩
  have HBC := Lib.hid (fun w1 v (hv : Sl w1 v xs.length (extCells xs)) => rblocks_len v xs w1 (by omega) hv hyl)
  have HFIT : RowKit.Hid (oo + n ≤ 64 * yl) := Lib.hid (by rw [← hyl]; exact hyb)
  have HYL := Lib.hid hyl
  have hyl33 : yl ≤ 33 := by rw [← hyl]; exact listF_length xs
  have HN := Lib.hid hn
  have HR0 := Lib.hid h0
  have HVN := Lib.hid hvR
  have HV := Lib.hid hv
  have hnb : n ≤ 1472 := by omega
  have hob : oo ≤ 1472 := by omega
  clear h ht hk hx hnm hos hfit hyb hx23 hyl hv hvR h0 hn hsz
  go_enter Tryz.func74, Tryz.ntmps74
  go_wp2_with fail
  refine HND.out.mono ?_
  rintro e w1 ⟨a, cp, rfl, hF1, hs⟩
  have HS1 := Lib.hid hs.1
  have HF1 := Lib.hid hF1
  clear hs hF1
  go_upto_region 11 with fail
  have HFa : RowKit.Hid (Fr No w1 (w1.alloc (Obj.cells #[.string nm, .int .i64 sz, .slice a xs.length cp] 95))) := Lib.hid ((Fr.refl _ _).alloc _)
  have HB5 := Lib.hid (heap_new w1 (Obj.cells #[.string nm, .int .i64 sz, .slice a xs.length cp] 95))
  generalize w1.alloc (Obj.cells #[.string nm, .int .i64 sz, .slice a xs.length cp] 95) = W5 at *
  generalize w1.heap.size = b7 at *
  have RT := Lib.hid ((Rp.refl HM.out).thenFr (HF1.out.trans HFa.out))
  have HS5 := Lib.hid (HS1.out.fr0 HFa.out)
  have HV5 := Lib.hid (HV.out.fr0 (HF1.out.trans HFa.out))

  have c2 := heap_cell (o := 2) HB5.out rfl
  have HS5 := Lib.hid HS5.out
  go_wp2_with fail
  refine (HBC.out _ _ HS5.out).mono ?_
  rintro e w6 ⟨hF6, ov, bov, rfl, ho⟩
  obtain ⟨ao, co, rfl⟩ := (Sl.of_owns ho).form
  have HO := Lib.hid (Sl.of_owns ho)
  have HOO : RowKit.Hid (∀ q, (Value.slice ao yl co).ownBlock = some q → ¬ R q) := Lib.hid (fun q e hR => by
    have h1 := (ho.lt q e).1
    have h2 := RT.out.1.low _ hR
    omega)
  have HT6 := Lib.hid (RT.out.thenFr hF6)
  have HV6 := Lib.hid (HV5.out.fr0 hF6)
  clear hF6 ho c2
  go_wp2_with fail
  go_loopw [67] (fun i wx => ∃ q : Nat, q ≤ n ∧ i = .int .i64 q ∧ Rp w rb R F (wrN B xs oo l q) wx R ∧ Fr R w6 wx) (fun i _ => n - (intOf i).toNat)
  case atStart => exact ⟨0, Nat.zero_le _, rfl, HT6.out, Fr.refl _ _⟩
  case round =>
    obtain ⟨q, hq, rfl, hp, hF⟩ := hrel
    by_cases hqt : q < n
    · obtain ⟨kk, hkk⟩ : ∃ kk, oo + q = kk := ⟨_, rfl⟩
      obtain ⟨kq, hkq⟩ : ∃ kq, kk / 64 = kq := ⟨_, rfl⟩
      obtain ⟨km, hkm⟩ : ∃ km, kk % 64 = km := ⟨_, rfl⟩
      have hky : kq < yl := by have := HFIT.out; omega
      have hkl : kq < (listF xs).length := by rw [HYL.out]; exact hky
      obtain ⟨cb, hcb⟩ : ∃ cb : Nat, (listF xs)[kq] = (cb : Int) ∧ cb < 32 := ⟨((listF xs)[kq]).toNat, by have := listF_range xs _ (List.getElem_mem hkl); omega⟩
      have hg : (ints (listF xs))[kq]? = some (.int .i64 (cb : Int)) := by rw [ints_get _ _ hkl, hcb.1]
      obtain ⟨vb, off, rfl, -, hc⟩ := (HO.out.fr hF (fun t e _ hR => HOO.out t e hR)).at (by intro e; rw [e] at hg; simp at hg)
      have x1 : wr.drew.cell? ⟨vb, off + kq, none⟩ = some (.int .i64 (cb : Int)) := hc _ _ hg
      have HVB : RowKit.Hid (¬ R vb) := Lib.hid (HOO.out vb rfl)
      have hcb2 := hcb.2
      have HAD : RowKit.Hid (addrF xs kk = 6144 + (cb : Int) * 64 + (km : Int)) := Lib.hid (by
        rw [addrF, hkq, hkm, List.getD_eq_getElem?_getD, List.getElem?_eq_getElem hkl, Option.getD_some, hcb.1]; omega)
      have hw1 : IntKind.i64.wrap ((oo : Int) + (q : Int)) = (kk : Int) := by rw [← hkk]; exact IntWalk.i64_in _ (by omega)
      have hd0 : (kk : Int) / 64 = (kq : Int) := by omega
      have hd1 : Int.tdiv (kk : Int) 64 = (kq : Int) := by rw [Int.tdiv_eq_ediv_of_nonneg (by omega)]; exact hd0
      have hm0 : (kk : Int) % 64 = (km : Int) := by omega
      have hm1 : Int.tmod (kk : Int) 64 = (km : Int) := by rw [Int.tmod_eq_emod_of_nonneg (by omega)]; exact hm0
      have hm2 : km < 64 := by omega
      have hw2 : IntKind.i64.wrap (kq : Int) = (kq : Int) := IntWalk.i64_in _ (by omega)
      have hw3 : IntKind.i64.wrap ((cb : Int) * 64) = (cb : Int) * 64 := IntWalk.i64_in _ (by omega)
      have hw4 : IntKind.i64.wrap (6144 + (cb : Int) * 64) = 6144 + (cb : Int) * 64 := IntWalk.i64_in _ (by omega)
      have hw5 : IntKind.i64.wrap (6144 + (cb : Int) * 64 + (km : Int)) = 6144 + (cb : Int) * 64 + (km : Int) := IntWalk.i64_in _ (by omega)
      obtain ⟨q1, hq1⟩ : ∃ q1, q + 1 = q1 := ⟨_, rfl⟩
      have hw6 : IntKind.i64.wrap ((q : Int) + 1) = (q1 : Int) := by rw [← hq1]; exact IntWalk.i64_in _ (by omega)
      have hq2 : q ≤ q1 := by omega
      have hq3 : q1 ≤ cv := by have := HV6.out.le; omega
      have hq4 : cv ≠ q := by omega
      have hq5 : q1 - q = 1 := by omega
      have HKK := Lib.hid hkk
      have HQ1 := Lib.hid hq1
      have hsv := HV6.out.fr hF (fun t e hne hR => HVN.out t e hne hR)
      have hsd := (hsv.take (show q1 ≤ n by omega) 1).drop (k := q) hq2 (size := 1) (by rw [List.length_take, bys_len, HN.out]; omega)
      rw [if_neg hq4, Nat.mul_one, Nat.mul_one, bys_take, bys_drop, hq5] at hsd
      have hone : (l.take q1).drop q = [l.getD q 0] := by
        refine List.ext_getElem (by rw [List.length_drop, List.length_take, HN.out]; simp; omega) (fun i h1 h2 => ?_)
        have hi : i = 0 := by simp at h2; omega
        subst hi
        rw [List.getElem_drop, List.getElem_take, List.getElem_singleton, List.getD_eq_getElem?_getD, List.getElem?_eq_getElem (by rw [HN.out]; exact hqt), Option.getD_some]; rfl
      rw [hone] at hsd
      have HLY : RowKit.Hid (Calls Tryz.prog 91 #[.pointer (some ⟨rb, 0, none⟩), .int .i64 (6144 + (cb : Int) * 64 + (km : Int)), .slice (Option.map (fun x => x.add q) av) 1 (cv - q)] wr.drew fun e w' => e = .returned (.tuple #[]) ∧ Rp wr.drew rb R F (layF (wrN B xs oo l q) (addrF xs kk) [l.getD q 0]) w' R) := Lib.hid (by
        have hr0 : ∀ b ∈ [l.getD q 0], 0 ≤ b ∧ b < 256 := by
          intro b hb; rw [List.mem_singleton] at hb; subst hb
          rw [List.getD_eq_getElem?_getD, List.getElem?_eq_getElem (by rw [HN.out]; exact hqt), Option.getD_some]
          exact HR0.out _ (List.getElem_mem _)
        have := rlay_calls (hp.1.fr0 (Fr.refl No wr).drew) (6144 + (cb : Int) * 64 + (km : Int)) (.slice (Option.map (fun x => x.add q) av) 1 (cv - q)) [l.getD q 0] (hsd.fr0 (Fr.refl No wr).drew) (fun t e _ hR => by
          refine HVN.out t ?_ (by intro h; have := congrArg List.length h; rw [bys_len, HN.out] at this; simp at this; omega) hR
          cases av with
          | none => simp [Value.ownBlock] at e
          | some ad =>
            obtain ⟨bq, oq, sq⟩ := ad
            simp only [Option.map_some, Value.ownBlock] at e ⊢
            simp only [Addr.add] at e
            split at e <;> simpa using e) hr0 (by simp) (by omega)
        rw [HAD.out]
        exact this)
      have HP := Lib.hid hp
      have HF := Lib.hid hF
      clear hsv hsd hone hg hcb hc hp hF hkl hkk hkq hkm hq1
      go_upto_region 16 with fail
      refine wp_region_held_drew (S := (fun w' => w'.cell? ⟨vb, off + kq, none⟩ = some (.int .i64 (cb : Int)))) (by kernel_rfl) x1 (fun hS0 => ?_)
      refine take_at (i := 0) (d := some 73) (v := ?_) rfl rfl (by kernel_rfl) (by kernel_rfl) (by kernel_rfl) (fun _ _ _ h => h) (Or.inl ⟨by rfl, ?_⟩) (by assumption) ?_
      rotate_left
      · intro w hSw; go_simp; try (with_reducible rfl)
      try simp only [Act.put, List.setIfInBounds_toArray, List.set_cons_zero, List.set_cons_succ]
      refine take_at (i := 1) (d := some 74) (v := ?_) rfl rfl (by kernel_rfl) (by kernel_rfl) (by kernel_rfl) (fun _ _ _ h => h) (Or.inl ⟨by rfl, ?_⟩) (by assumption) ?_
      rotate_left
      · intro w hSw; go_simp; try (with_reducible rfl)
      try simp only [Act.put, List.setIfInBounds_toArray, List.set_cons_zero, List.set_cons_succ]
      refine take_at (i := 2) (d := some 75) (v := ?_) rfl rfl (by kernel_rfl) (by kernel_rfl) (by kernel_rfl) (fun _ _ _ h => h) (Or.inl ⟨by rfl, ?_⟩) (by assumption) ?_
      rotate_left
      · intro w hSw; go_simp; try (with_reducible rfl)
      try simp only [Act.put, List.setIfInBounds_toArray, List.set_cons_zero, List.set_cons_succ]
      refine take_at (i := 3) (d := some 76) (v := ?_) rfl rfl (by kernel_rfl) (by kernel_rfl) (by kernel_rfl) (fun _ _ _ h => h) (Or.inl ⟨by rfl, ?_⟩) (by assumption) ?_
      rotate_left
      · intro w hSw; go_simp; try (with_reducible rfl)
      try simp only [Act.put, List.setIfInBounds_toArray, List.set_cons_zero, List.set_cons_succ]
      refine take_at (i := 4) (d := some 77) (v := ?_) rfl rfl (by kernel_rfl) (by kernel_rfl) (by kernel_rfl) (fun _ _ _ h => h) (Or.inl ⟨by rfl, ?_⟩) (by assumption) ?_
      rotate_left
      · intro w hSw; go_simp; try (with_reducible rfl)
      try simp only [Act.put, List.setIfInBounds_toArray, List.set_cons_zero, List.set_cons_succ]
      refine take_at (i := 5) (d := some 78) (v := ?_) rfl rfl (by kernel_rfl) (by kernel_rfl) (by kernel_rfl) (fun _ _ _ h => h) (Or.inl ⟨by rfl, ?_⟩) (by assumption) ?_
      rotate_left
      · intro w hSw; go_simp; try (with_reducible rfl)
      try simp only [Act.put, List.setIfInBounds_toArray, List.set_cons_zero, List.set_cons_succ]
      refine take_at (i := 6) (d := some 79) (v := ?_) rfl rfl (by kernel_rfl) (by kernel_rfl) (by kernel_rfl) (fun _ _ _ h => h) (Or.inl ⟨by rfl, ?_⟩) (by assumption) ?_
      rotate_left
      · intro w hSw; go_simp; try (with_reducible rfl)
      try simp only [Act.put, List.setIfInBounds_toArray, List.set_cons_zero, List.set_cons_succ]
      refine take_at (i := 7) (d := some 80) (v := ?_) rfl rfl (by kernel_rfl) (by kernel_rfl) (by kernel_rfl) (fun _ _ _ h => h) (Or.inl ⟨by rfl, ?_⟩) (by assumption) ?_
      rotate_left
      · intro w hSw; go_simp; try (with_reducible rfl)
      try simp only [Act.put, List.setIfInBounds_toArray, List.set_cons_zero, List.set_cons_succ]
      refine take_at (i := 8) (d := some 81) (v := ?_) rfl rfl (by kernel_rfl) (by kernel_rfl) (by kernel_rfl) (fun _ _ _ h => h) (Or.inl ⟨by rfl, ?_⟩) (by assumption) ?_
      rotate_left
      · intro w hSw; go_simp; try (with_reducible rfl)
      try simp only [Act.put, List.setIfInBounds_toArray, List.set_cons_zero, List.set_cons_succ]
      refine take_at (i := 9) (d := some 82) (v := ?_) rfl rfl (by kernel_rfl) (by kernel_rfl) (by kernel_rfl) (fun _ _ _ h => h) (Or.inl ⟨by rfl, ?_⟩) (by assumption) ?_
      rotate_left
      · intro w hSw; go_simp; try (with_reducible rfl)
      try simp only [Act.put, List.setIfInBounds_toArray, List.set_cons_zero, List.set_cons_succ]
      refine take_at (i := 10) (d := some 83) (v := ?_) rfl rfl (by kernel_rfl) (by kernel_rfl) (by kernel_rfl) (fun _ _ _ h => h) (Or.inl ⟨by rfl, ?_⟩) (by assumption) ?_
      rotate_left
      · intro w hSw; go_simp; try (with_reducible rfl)
      try simp only [Act.put, List.setIfInBounds_toArray, List.set_cons_zero, List.set_cons_succ]
      refine take_at (i := 11) (d := some 84) (v := ?_) rfl rfl (by kernel_rfl) (by kernel_rfl) (by kernel_rfl) (fun _ _ _ h => h) (Or.inl ⟨by rfl, ?_⟩) (by assumption) ?_
      rotate_left
      · intro w hSw; go_simp; try (with_reducible rfl)
      try simp only [Act.put, List.setIfInBounds_toArray, List.set_cons_zero, List.set_cons_succ]
      refine take_at (i := 12) (d := some 85) (v := ?_) rfl rfl (by kernel_rfl) (by kernel_rfl) (by kernel_rfl) (fun _ _ _ h => h) (Or.inl ⟨by rfl, ?_⟩) (by assumption) ?_
      rotate_left
      · intro w hSw; go_simp; try (with_reducible rfl)
      try simp only [Act.put, List.setIfInBounds_toArray, List.set_cons_zero, List.set_cons_succ]
      refine take_at (i := 13) (d := some 86) (v := ?_) rfl rfl (by kernel_rfl) (by kernel_rfl) (by kernel_rfl) (fun _ _ _ h => h) (Or.inl ⟨by rfl, ?_⟩) (by assumption) ?_
      rotate_left
      · intro w hSw; go_simp; try (with_reducible rfl)
      try simp only [Act.put, List.setIfInBounds_toArray, List.set_cons_zero, List.set_cons_succ]
      refine take_at (i := 14) (d := some 87) (v := ?_) rfl rfl (by kernel_rfl) (by kernel_rfl) (by kernel_rfl) (fun _ _ _ h => h) (Or.inl ⟨by rfl, ?_⟩) (by assumption) ?_
      rotate_left
      · intro w hSw; go_simp; try (with_reducible rfl)
      try simp only [Act.put, List.setIfInBounds_toArray, List.set_cons_zero, List.set_cons_succ]
      refine take_at (i := 15) (d := some 88) (v := ?_) rfl rfl (by kernel_rfl) (by kernel_rfl) (by kernel_rfl) (fun _ _ _ h => h) (Or.inl ⟨by rfl, ?_⟩) (by assumption) ?_
      rotate_left
      · intro w hSw; go_simp; try (with_reducible rfl)
      try simp only [Act.put, List.setIfInBounds_toArray, List.set_cons_zero, List.set_cons_succ]
      refine wpAnyH_ready (rs := [16]) (by kernel_rfl) (by simp) ?_
      refine AllReadyH.cons rfl (fun K hK => ?_) AllReadyH.nil
      go_simp
      go_wp2_with (go_at_call 91; ((with_reducible refine HLY.out.mono ?_); rintro e w7 ⟨rfl, hp7⟩; have g0 := hp7.2.1.cell x1 (fun h => HVB.out h)))
      refine hK.out _ _ g0 (fun hHeld => ?_)
      clear hK K
      try simp only [Act.put, List.setIfInBounds_toArray, List.set_cons_zero, List.set_cons_succ]
      refine wpAnyH_done (by kernel_rfl) ?_ _
      go_wp2_with fail
      go_roundw
      case rel =>
        refine ⟨q1, by omega, rfl, ?_, (HF.out.trans (Fr.refl No _).drew.no).trans hp7.2.1⟩
        rw [← HQ1.out, wrN, HKK.out]
        have h9 := HP.out.trans (Rp.ahead (Fr.refl No _).drew hp7)
        exact h9
      case measure => have := HQ1.out; simp [intOf]; omega
    · obtain rfl : q = n := by omega
      have HP := Lib.hid hp
      clear hp hF
      go_wp2
      go_ret
      refine ⟨R, rfl, ?_⟩
      have h9 := HP.out
      rw [wrF, HN.out]
      exact h9

set_option maxHeartbeats 8000000 in
set_option maxRecDepth 1000000 in
theorem rwrite_grows {w : World} {rb : Nat} {R : Nat → Prop} {F B : List Int} (h : RefAt w rb R F B) {L : List Nd} {u k : Nat} (ht : tableF B = some (L, u)) (hk : k < 8) {nm : ByteArray} {sz : Int} {xs : List (Int × Int)} (hx : L.getD k Nd.free = ⟨nm, sz, xs⟩) (hnm : nm ≠ noName)
    (oo : Nat) (hos : (oo : Int) ≤ sz) (hsz : sz ≤ 1472) (av : Option Addr) (cv : Nat) (l : List Int) {n : Nat} (hn : l.length = n) (hv : Sl w (.slice av n cv) n (bys l)) (hvR : ∀ k, (Value.slice av n cv).ownBlock = some k → bys l ≠ [] → ¬ R k) (h0 : ∀ b ∈ l, 0 ≤ b ∧ b < 256) (hg : sz < (oo : Int) + n) (hg2 : (oo : Int) + n ≤ 1472) {x1 : Nd} {u1 : Nat} (hr : resizeT ⟨nm, sz, xs⟩ u ((oo : Int) + n) = some (x1, u1)) :
    Calls Tryz.prog 74 #[.pointer (some ⟨rb, 0, none⟩), .int .i64 (k : Int), .int .i64 (oo : Int), .slice av n cv] w (RsP w rb R F (wrF (resizeB B L k x1 u1 (listF xs).length) x1.ext oo l) (.int .i64 0)) := by
  have HM := Lib.hid h
  have HND := Lib.hid (rnode_good h ht hk hx hnm)

  have htab := (tableF_iff _ _ _).1 ht
  obtain ⟨hR, hT2⟩ := resize_tab h.blen htab hk hx hnm (m := (oo : Int) + n) (by omega) hg2 hr
  have hl8 := htab.len
  have ht2 := (tableF_iff _ _ _).2 hT2
  have hyn := hR.name
  have hysz := hR.size
  have hylen := hR.len
  obtain ⟨-, -, -, -, hx23⟩ := inoOk_small hR.ok
  have hx2 : (L.set k x1).getD k Nd.free = x1 := by
    rw [List.getD_eq_getElem?_getD, List.getElem?_set_self (by omega)]; rfl
  obtain ⟨mm, hmm⟩ : ∃ mm : Nat, oo + n = mm := ⟨_, rfl⟩
  have hmI : (oo : Int) + n = (mm : Int) := by omega
  rw [hmI] at hg2 hr hg
  have hres : resizeR B k (mm : Int) = (resizeB B L k x1 u1 (listF xs).length, 0) := by
    have hr' : resizeT (L.getD k Nd.free) u (mm : Int) = some (x1, u1) := by rw [hx]; exact hr
    rw [resizeR_good ht hk (by rw [hx]; exact hnm), if_neg (by omega), if_neg (by omega), resizeW_some (B := B) hr', hx]
  obtain ⟨nm2, sz2, ys⟩ := x1
  dsimp only at hyn hysz hylen hx23
  subst hyn
  obtain ⟨B1, hB1⟩ : ∃ B1, resizeB B L k ⟨nm2, sz2, ys⟩ u1 (listF xs).length = B1 := ⟨_, rfl⟩
  rw [hB1] at hres ht2
  rw [hB1]
  have HRZ := Lib.hid (fun w1 (hF : Fr No w w1) => (by
    have := rresize12_calls (h.fr0 hF) (k : Int) (mm : Int)
    rw [hres] at this; exact this))
  have HND2 := Lib.hid (fun w1 R1 (hR1 : RefAt w1 rb R1 F B1) => rnode_good hR1 ht2 hk hx2 hnm)
  have q1 : decide ((oo : Int) < 0) = false := decide_eq_false (by omega)
  have q2 : decide (sz < (oo : Int)) = false := decide_eq_false (by omega)
  have q3 : decide (sz < (mm : Int)) = true := decide_eq_true hg
  have hw0 : IntKind.i64.wrap ((oo : Int) + (n : Int)) = (mm : Int) := by rw [hmI]; exact IntWalk.i64_in _ (by omega)
  obtain ⟨yl, hyl⟩ : ∃ yl, (listF ys).length = yl := ⟨_, rfl⟩
  have HBC := Lib.hid (fun w1 v (hv : Sl w1 v ys.length (extCells ys)) => rblocks_len v ys w1 (by omega) hv hyl)
  have HFIT : RowKit.Hid (oo + n ≤ 64 * yl) := Lib.hid (by rw [← hyl, hylen, needF]; split <;> omega)
  have HYL := Lib.hid hyl
  have hyl33 : yl ≤ 33 := by rw [← hyl]; exact listF_length ys
  have HN := Lib.hid hn
  have HR0 := Lib.hid h0
  have HV := Lib.hid hv
  have HVR := Lib.hid hvR
  have hnb : n ≤ 1472 := by omega
  have hob : oo ≤ 1472 := by omega
  clear h ht hk hx hos hx23 hyl hv hvR h0 hn hsz htab hR hT2 hl8 ht2 hysz hylen hx2 hmm hmI hg hg2 hr hres hB1 hnm
  go_enter Tryz.func74, Tryz.ntmps74
  go_wp2_with fail
  refine HND.out.mono ?_
  rintro e w1 ⟨a, cp, rfl, hF1, hs⟩
  have HF1 := Lib.hid hF1
  clear hs hF1
  go_upto_region 7 with fail
  have HFa : RowKit.Hid (Fr No w1 (w1.alloc (Obj.cells #[.string nm2, .int .i64 sz, .slice a xs.length cp] 95))) := Lib.hid ((Fr.refl _ _).alloc _)
  have HB2 := Lib.hid (heap_new w1 (Obj.cells #[.string nm2, .int .i64 sz, .slice a xs.length cp] 95))
  have HB7 : RowKit.Hid (w.heap.size ≤ w1.heap.size) := Lib.hid HF1.out.size
  generalize w1.alloc (Obj.cells #[.string nm2, .int .i64 sz, .slice a xs.length cp] 95) = W2 at *
  generalize w1.heap.size = b7 at *
  have HF2 := Lib.hid (HF1.out.trans HFa.out)
  have HB72 : RowKit.Hid (b7 < W2.heap.size) := Lib.hid (heap_lt HB2.out)
  go_wp2_with fail
  refine (HRZ.out _ HF2.out).mono ?_
  rintro e w3 ⟨R1, rfl, hp3⟩
  have HP3 := Lib.hid (Rp.ahead HF2.out hp3)
  have HB3 : RowKit.Hid (w3.heap[b7]? = some (.cells #[.string nm2, .int .i64 sz, .slice a xs.length cp] 95 (0, 0))) := Lib.hid (hp3.2.1.heap HB2.out (fun hR => by have := HM.out.low _ hR; have := HB7.out; omega))
  have HR1 : RowKit.Hid (∀ j, R1 j → R j ∨ W2.heap.size ≤ j) := Lib.hid hp3.2.2
  clear hp3
  go_wp2_with fail
  refine (HND2.out _ _ HP3.out.1).mono ?_
  rintro e w4 ⟨ax, cx, rfl, hF4, hs4⟩
  have HS4 := Lib.hid hs4.1
  have HX4 : RowKit.Hid (∀ t, (Value.slice ax ys.length cx).ownBlock = some t → extCells ys ≠ [] → t ≠ b7) := Lib.hid (fun t e hne e' => by
    have h1 := hs4.2 t e hne
    have h2 := heap_lt HB3.out
    omega)
  have HP4 := Lib.hid (HP3.out.thenFr hF4)
  have HB4 := Lib.hid (hF4.heap HB3.out (fun h => h))
  clear hs4 hF4
  have c0 := heap_cell (o := 0) HB4.out rfl
  have c1 := heap_cell (o := 1) HB4.out rfl
  have c2 := heap_cell (o := 2) HB4.out rfl
  have f0 := heap_frozen (o := 0) HB4.out
  have f1 := heap_frozen (o := 1) HB4.out
  have f2 := heap_frozen (o := 2) HB4.out
  go_upto_region 11 with fail
  have HF3s : RowKit.Hid (Fr (fun k => k = b7) w4 (((w4.setCell ⟨b7, 0, none⟩ (.string nm2)).setCell ⟨b7, 1, none⟩ (.int .i64 sz2)).setCell ⟨b7, 2, none⟩ (.slice ax ys.length cx))) := Lib.hid (fr_set3 _ _ _ _ _)
  have HB5 : RowKit.Hid ((((w4.setCell ⟨b7, 0, none⟩ (.string nm2)).setCell ⟨b7, 1, none⟩ (.int .i64 sz2)).setCell ⟨b7, 2, none⟩ (.slice ax ys.length cx)).heap[b7]? = some (.cells #[.string nm2, .int .i64 sz2, .slice ax ys.length cx] 95 (0, 0))) := Lib.hid (heap_set3' _ _ _ HB4.out)
  generalize ((w4.setCell ⟨b7, 0, none⟩ (.string nm2)).setCell ⟨b7, 1, none⟩ (.int .i64 sz2)).setCell ⟨b7, 2, none⟩ (.slice ax ys.length cx) = W5 at *
  clear c0 c1 c2 f0 f1 f2
  have HNR : RowKit.Hid (¬ R1 b7) := Lib.hid (fun hR => by
    rcases HR1.out _ hR with h1 | h1
    · have := HM.out.low _ h1; have := HB7.out; omega
    · have := HB72.out; omega)
  have RT : RowKit.Hid (Rp w rb R F B1 W5 R1) := Lib.hid ⟨HP4.out.1.fr HF3s.out (fun j e hR => by subst e; exact HNR.out hR), HP4.out.2.1.trans' HF3s.out (fun i hi e => by have := HB7.out; omega), HP4.out.2.2⟩
  have HS5 : RowKit.Hid (Sl W5 (.slice ax ys.length cx) ys.length (extCells ys)) := Lib.hid (HS4.out.fr HF3s.out (fun t e hne e' => HX4.out t e hne e'))
  have HVN : RowKit.Hid (∀ t, (Value.slice av n cv).ownBlock = some t → bys l ≠ [] → ¬ R1 t) := Lib.hid (fun t e hne hR => by
    rcases HR1.out _ hR with h1 | h1
    · exact HVR.out t e hne h1
    · have := HV.out.lt e hne; have := HF2.out.size; omega)
  have HV5 : RowKit.Hid (Sl W5 (.slice av n cv) n (bys l)) := Lib.hid (HV.out.fr RT.out.2.1 (fun t e hne hR => HVR.out t e hne hR))

  have c2 := heap_cell (o := 2) HB5.out rfl
  have HS5 := Lib.hid HS5.out
  go_wp2_with fail
  refine (HBC.out _ _ HS5.out).mono ?_
  rintro e w6 ⟨hF6, ov, bov, rfl, ho⟩
  obtain ⟨ao, co, rfl⟩ := (Sl.of_owns ho).form
  have HO := Lib.hid (Sl.of_owns ho)
  have HOO : RowKit.Hid (∀ q, (Value.slice ao yl co).ownBlock = some q → ¬ R1 q) := Lib.hid (fun q e hR => by
    have h1 := (ho.lt q e).1
    have h2 := RT.out.1.low _ hR
    omega)
  have HT6 := Lib.hid (RT.out.thenFr hF6)
  have HV6 := Lib.hid (HV5.out.fr0 hF6)
  clear hF6 ho c2
  go_wp2_with fail
  go_loopw [67] (fun i wx => ∃ q : Nat, q ≤ n ∧ i = .int .i64 q ∧ Rp w rb R F (wrN B1 ys oo l q) wx R1 ∧ Fr R1 w6 wx) (fun i _ => n - (intOf i).toNat)
  case atStart => exact ⟨0, Nat.zero_le _, rfl, HT6.out, Fr.refl _ _⟩
  case round =>
    obtain ⟨q, hq, rfl, hp, hF⟩ := hrel
    by_cases hqt : q < n
    · obtain ⟨kk, hkk⟩ : ∃ kk, oo + q = kk := ⟨_, rfl⟩
      obtain ⟨kq, hkq⟩ : ∃ kq, kk / 64 = kq := ⟨_, rfl⟩
      obtain ⟨km, hkm⟩ : ∃ km, kk % 64 = km := ⟨_, rfl⟩
      have hky : kq < yl := by have := HFIT.out; omega
      have hkl : kq < (listF ys).length := by rw [HYL.out]; exact hky
      obtain ⟨cb, hcb⟩ : ∃ cb : Nat, (listF ys)[kq] = (cb : Int) ∧ cb < 32 := ⟨((listF ys)[kq]).toNat, by have := listF_range ys _ (List.getElem_mem hkl); omega⟩
      have hg : (ints (listF ys))[kq]? = some (.int .i64 (cb : Int)) := by rw [ints_get _ _ hkl, hcb.1]
      obtain ⟨vb, off, rfl, -, hc⟩ := (HO.out.fr hF (fun t e _ hR => HOO.out t e hR)).at (by intro e; rw [e] at hg; simp at hg)
      have x1 : wr.drew.cell? ⟨vb, off + kq, none⟩ = some (.int .i64 (cb : Int)) := hc _ _ hg
      have HVB : RowKit.Hid (¬ R1 vb) := Lib.hid (HOO.out vb rfl)
      have hcb2 := hcb.2
      have HAD : RowKit.Hid (addrF ys kk = 6144 + (cb : Int) * 64 + (km : Int)) := Lib.hid (by
        rw [addrF, hkq, hkm, List.getD_eq_getElem?_getD, List.getElem?_eq_getElem hkl, Option.getD_some, hcb.1]; omega)
      have hw1 : IntKind.i64.wrap ((oo : Int) + (q : Int)) = (kk : Int) := by rw [← hkk]; exact IntWalk.i64_in _ (by omega)
      have hd0 : (kk : Int) / 64 = (kq : Int) := by omega
      have hd1 : Int.tdiv (kk : Int) 64 = (kq : Int) := by rw [Int.tdiv_eq_ediv_of_nonneg (by omega)]; exact hd0
      have hm0 : (kk : Int) % 64 = (km : Int) := by omega
      have hm1 : Int.tmod (kk : Int) 64 = (km : Int) := by rw [Int.tmod_eq_emod_of_nonneg (by omega)]; exact hm0
      have hm2 : km < 64 := by omega
      have hw2 : IntKind.i64.wrap (kq : Int) = (kq : Int) := IntWalk.i64_in _ (by omega)
      have hw3 : IntKind.i64.wrap ((cb : Int) * 64) = (cb : Int) * 64 := IntWalk.i64_in _ (by omega)
      have hw4 : IntKind.i64.wrap (6144 + (cb : Int) * 64) = 6144 + (cb : Int) * 64 := IntWalk.i64_in _ (by omega)
      have hw5 : IntKind.i64.wrap (6144 + (cb : Int) * 64 + (km : Int)) = 6144 + (cb : Int) * 64 + (km : Int) := IntWalk.i64_in _ (by omega)
      obtain ⟨q1, hq1⟩ : ∃ q1, q + 1 = q1 := ⟨_, rfl⟩
      have hw6 : IntKind.i64.wrap ((q : Int) + 1) = (q1 : Int) := by rw [← hq1]; exact IntWalk.i64_in _ (by omega)
      have hq2 : q ≤ q1 := by omega
      have hq3 : q1 ≤ cv := by have := HV6.out.le; omega
      have hq4 : cv ≠ q := by omega
      have hq5 : q1 - q = 1 := by omega
      have HKK := Lib.hid hkk
      have HQ1 := Lib.hid hq1
      have hsv := HV6.out.fr hF (fun t e hne hR => HVN.out t e hne hR)
      have hsd := (hsv.take (show q1 ≤ n by omega) 1).drop (k := q) hq2 (size := 1) (by rw [List.length_take, bys_len, HN.out]; omega)
      rw [if_neg hq4, Nat.mul_one, Nat.mul_one, bys_take, bys_drop, hq5] at hsd
      have hone : (l.take q1).drop q = [l.getD q 0] := by
        refine List.ext_getElem (by rw [List.length_drop, List.length_take, HN.out]; simp; omega) (fun i h1 h2 => ?_)
        have hi : i = 0 := by simp at h2; omega
        subst hi
        rw [List.getElem_drop, List.getElem_take, List.getElem_singleton, List.getD_eq_getElem?_getD, List.getElem?_eq_getElem (by rw [HN.out]; exact hqt), Option.getD_some]; rfl
      rw [hone] at hsd
      have HLY : RowKit.Hid (Calls Tryz.prog 91 #[.pointer (some ⟨rb, 0, none⟩), .int .i64 (6144 + (cb : Int) * 64 + (km : Int)), .slice (Option.map (fun x => x.add q) av) 1 (cv - q)] wr.drew fun e w' => e = .returned (.tuple #[]) ∧ Rp wr.drew rb R1 F (layF (wrN B1 ys oo l q) (addrF ys kk) [l.getD q 0]) w' R1) := Lib.hid (by
        have hr0 : ∀ b ∈ [l.getD q 0], 0 ≤ b ∧ b < 256 := by
          intro b hb; rw [List.mem_singleton] at hb; subst hb
          rw [List.getD_eq_getElem?_getD, List.getElem?_eq_getElem (by rw [HN.out]; exact hqt), Option.getD_some]
          exact HR0.out _ (List.getElem_mem _)
        have := rlay_calls (hp.1.fr0 (Fr.refl No wr).drew) (6144 + (cb : Int) * 64 + (km : Int)) (.slice (Option.map (fun x => x.add q) av) 1 (cv - q)) [l.getD q 0] (hsd.fr0 (Fr.refl No wr).drew) (fun t e _ hR => by
          refine HVN.out t ?_ (by intro h; have := congrArg List.length h; rw [bys_len, HN.out] at this; simp at this; omega) hR
          cases av with
          | none => simp [Value.ownBlock] at e
          | some ad =>
            obtain ⟨bq, oq, sq⟩ := ad
            simp only [Option.map_some, Value.ownBlock] at e ⊢
            simp only [Addr.add] at e
            split at e <;> simpa using e) hr0 (by simp) (by omega)
        rw [HAD.out]
        exact this)
      have HP := Lib.hid hp
      have HF := Lib.hid hF
      clear hsv hsd hone hg hcb hc hp hF hkl hkk hkq hkm hq1
      go_upto_region 16 with fail
      refine wp_region_held_drew (S := (fun w' => w'.cell? ⟨vb, off + kq, none⟩ = some (.int .i64 (cb : Int)))) (by kernel_rfl) x1 (fun hS0 => ?_)
      refine take_at (i := 0) (d := some 73) (v := ?_) rfl rfl (by kernel_rfl) (by kernel_rfl) (by kernel_rfl) (fun _ _ _ h => h) (Or.inl ⟨by rfl, ?_⟩) (by assumption) ?_
      rotate_left
      · intro w hSw; go_simp; try (with_reducible rfl)
      try simp only [Act.put, List.setIfInBounds_toArray, List.set_cons_zero, List.set_cons_succ]
      refine take_at (i := 1) (d := some 74) (v := ?_) rfl rfl (by kernel_rfl) (by kernel_rfl) (by kernel_rfl) (fun _ _ _ h => h) (Or.inl ⟨by rfl, ?_⟩) (by assumption) ?_
      rotate_left
      · intro w hSw; go_simp; try (with_reducible rfl)
      try simp only [Act.put, List.setIfInBounds_toArray, List.set_cons_zero, List.set_cons_succ]
      refine take_at (i := 2) (d := some 75) (v := ?_) rfl rfl (by kernel_rfl) (by kernel_rfl) (by kernel_rfl) (fun _ _ _ h => h) (Or.inl ⟨by rfl, ?_⟩) (by assumption) ?_
      rotate_left
      · intro w hSw; go_simp; try (with_reducible rfl)
      try simp only [Act.put, List.setIfInBounds_toArray, List.set_cons_zero, List.set_cons_succ]
      refine take_at (i := 3) (d := some 76) (v := ?_) rfl rfl (by kernel_rfl) (by kernel_rfl) (by kernel_rfl) (fun _ _ _ h => h) (Or.inl ⟨by rfl, ?_⟩) (by assumption) ?_
      rotate_left
      · intro w hSw; go_simp; try (with_reducible rfl)
      try simp only [Act.put, List.setIfInBounds_toArray, List.set_cons_zero, List.set_cons_succ]
      refine take_at (i := 4) (d := some 77) (v := ?_) rfl rfl (by kernel_rfl) (by kernel_rfl) (by kernel_rfl) (fun _ _ _ h => h) (Or.inl ⟨by rfl, ?_⟩) (by assumption) ?_
      rotate_left
      · intro w hSw; go_simp; try (with_reducible rfl)
      try simp only [Act.put, List.setIfInBounds_toArray, List.set_cons_zero, List.set_cons_succ]
      refine take_at (i := 5) (d := some 78) (v := ?_) rfl rfl (by kernel_rfl) (by kernel_rfl) (by kernel_rfl) (fun _ _ _ h => h) (Or.inl ⟨by rfl, ?_⟩) (by assumption) ?_
      rotate_left
      · intro w hSw; go_simp; try (with_reducible rfl)
      try simp only [Act.put, List.setIfInBounds_toArray, List.set_cons_zero, List.set_cons_succ]
      refine take_at (i := 6) (d := some 79) (v := ?_) rfl rfl (by kernel_rfl) (by kernel_rfl) (by kernel_rfl) (fun _ _ _ h => h) (Or.inl ⟨by rfl, ?_⟩) (by assumption) ?_
      rotate_left
      · intro w hSw; go_simp; try (with_reducible rfl)
      try simp only [Act.put, List.setIfInBounds_toArray, List.set_cons_zero, List.set_cons_succ]
      refine take_at (i := 7) (d := some 80) (v := ?_) rfl rfl (by kernel_rfl) (by kernel_rfl) (by kernel_rfl) (fun _ _ _ h => h) (Or.inl ⟨by rfl, ?_⟩) (by assumption) ?_
      rotate_left
      · intro w hSw; go_simp; try (with_reducible rfl)
      try simp only [Act.put, List.setIfInBounds_toArray, List.set_cons_zero, List.set_cons_succ]
      refine take_at (i := 8) (d := some 81) (v := ?_) rfl rfl (by kernel_rfl) (by kernel_rfl) (by kernel_rfl) (fun _ _ _ h => h) (Or.inl ⟨by rfl, ?_⟩) (by assumption) ?_
      rotate_left
      · intro w hSw; go_simp; try (with_reducible rfl)
      try simp only [Act.put, List.setIfInBounds_toArray, List.set_cons_zero, List.set_cons_succ]
      refine take_at (i := 9) (d := some 82) (v := ?_) rfl rfl (by kernel_rfl) (by kernel_rfl) (by kernel_rfl) (fun _ _ _ h => h) (Or.inl ⟨by rfl, ?_⟩) (by assumption) ?_
      rotate_left
      · intro w hSw; go_simp; try (with_reducible rfl)
      try simp only [Act.put, List.setIfInBounds_toArray, List.set_cons_zero, List.set_cons_succ]
      refine take_at (i := 10) (d := some 83) (v := ?_) rfl rfl (by kernel_rfl) (by kernel_rfl) (by kernel_rfl) (fun _ _ _ h => h) (Or.inl ⟨by rfl, ?_⟩) (by assumption) ?_
      rotate_left
      · intro w hSw; go_simp; try (with_reducible rfl)
      try simp only [Act.put, List.setIfInBounds_toArray, List.set_cons_zero, List.set_cons_succ]
      refine take_at (i := 11) (d := some 84) (v := ?_) rfl rfl (by kernel_rfl) (by kernel_rfl) (by kernel_rfl) (fun _ _ _ h => h) (Or.inl ⟨by rfl, ?_⟩) (by assumption) ?_
      rotate_left
      · intro w hSw; go_simp; try (with_reducible rfl)
      try simp only [Act.put, List.setIfInBounds_toArray, List.set_cons_zero, List.set_cons_succ]
      refine take_at (i := 12) (d := some 85) (v := ?_) rfl rfl (by kernel_rfl) (by kernel_rfl) (by kernel_rfl) (fun _ _ _ h => h) (Or.inl ⟨by rfl, ?_⟩) (by assumption) ?_
      rotate_left
      · intro w hSw; go_simp; try (with_reducible rfl)
      try simp only [Act.put, List.setIfInBounds_toArray, List.set_cons_zero, List.set_cons_succ]
      refine take_at (i := 13) (d := some 86) (v := ?_) rfl rfl (by kernel_rfl) (by kernel_rfl) (by kernel_rfl) (fun _ _ _ h => h) (Or.inl ⟨by rfl, ?_⟩) (by assumption) ?_
      rotate_left
      · intro w hSw; go_simp; try (with_reducible rfl)
      try simp only [Act.put, List.setIfInBounds_toArray, List.set_cons_zero, List.set_cons_succ]
      refine take_at (i := 14) (d := some 87) (v := ?_) rfl rfl (by kernel_rfl) (by kernel_rfl) (by kernel_rfl) (fun _ _ _ h => h) (Or.inl ⟨by rfl, ?_⟩) (by assumption) ?_
      rotate_left
      · intro w hSw; go_simp; try (with_reducible rfl)
      try simp only [Act.put, List.setIfInBounds_toArray, List.set_cons_zero, List.set_cons_succ]
      refine take_at (i := 15) (d := some 88) (v := ?_) rfl rfl (by kernel_rfl) (by kernel_rfl) (by kernel_rfl) (fun _ _ _ h => h) (Or.inl ⟨by rfl, ?_⟩) (by assumption) ?_
      rotate_left
      · intro w hSw; go_simp; try (with_reducible rfl)
      try simp only [Act.put, List.setIfInBounds_toArray, List.set_cons_zero, List.set_cons_succ]
      refine wpAnyH_ready (rs := [16]) (by kernel_rfl) (by simp) ?_
      refine AllReadyH.cons rfl (fun K hK => ?_) AllReadyH.nil
      go_simp
      go_wp2_with (go_at_call 91; ((with_reducible refine HLY.out.mono ?_); rintro e w7 ⟨rfl, hp7⟩; have g0 := hp7.2.1.cell x1 (fun h => HVB.out h)))
      refine hK.out _ _ g0 (fun hHeld => ?_)
      clear hK K
      try simp only [Act.put, List.setIfInBounds_toArray, List.set_cons_zero, List.set_cons_succ]
      refine wpAnyH_done (by kernel_rfl) ?_ _
      go_wp2_with fail
      go_roundw
      case rel =>
        refine ⟨q1, by omega, rfl, ?_, (HF.out.trans (Fr.refl No _).drew.no).trans hp7.2.1⟩
        rw [← HQ1.out, wrN, HKK.out]
        have h9 := HP.out.trans (Rp.ahead (Fr.refl No _).drew hp7)
        exact h9
      case measure => have := HQ1.out; simp [intOf]; omega
    · obtain rfl : q = n := by omega
      have HP := Lib.hid hp
      clear hp hF
      go_wp2
      go_ret
      refine ⟨R1, rfl, ?_⟩
      have h9 := HP.out
      rw [wrF, HN.out]
      exact h9

end Go.Proofs.YtoajnmbbgbpbgaaGreat
