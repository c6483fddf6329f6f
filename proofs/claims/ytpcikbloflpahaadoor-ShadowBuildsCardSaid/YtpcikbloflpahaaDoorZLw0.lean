/-
  Chapter 7: the reference's Of once more: its blocks are new ones.
-/
import Derived.Test.YtpcikbloflpahaaDoorYF
import Derived.Test.YtpcikbloflpahaaDoorYD
namespace Go.Proofs.YtpcikbloflpahaaDoor
set_option linter.unusedVariables false
set_option linter.unusedSimpArgs false
open Go.RowKit Go.Shelf Go.Maps

/-- A reference's disk that lies at n0 or behind. -/
def RfX (w : World) (n0 db N : Nat) (B : List Int) : Prop := N ≤ 2000 ∧ B.length = 64 * N ∧ (∀ x ∈ B, 0 ≤ x ∧ x < 256) ∧ ∃ sv ss, ss.length = N ∧ RfN w n0 db sv ss (fun i => secB B i)
theorem RfX.toR {w : World} {n0 db N : Nat} {B : List Int} (h : RfX w n0 db N B) : RfR w db N B := ⟨h.1, h.2.1, h.2.2.1, n0, h.2.2.2⟩
theorem RfX.fr {S : Nat → Prop} {w w' : World} {n0 db N : Nat} {B : List Int} (h : RfX w n0 db N B) (hF : Fr S w w') (hn : ∀ k, S k → ¬ (n0 ≤ k ∧ k < w.heap.size)) : RfX w' n0 db N B := by
  obtain ⟨h1, h2, h3, sv, ss, h4, h5⟩ := h
  exact ⟨h1, h2, h3, sv, ss, h4, h5.fr hF (fun hs => hn _ hs ⟨h5.n0, heap_lt7 h5.box⟩) (fun k e hs => hn _ hs ⟨(h5.own.lt k e).1, (h5.own.lt k e).2⟩) (fun b hb hs => hn _ hs ⟨h5.lo b hb, h5.lt b hb⟩)⟩
theorem RfX.up {w w1 : World} {n0 db N : Nat} {B : List Int} {S : Nat → Prop} {m : Nat} (h : RfX w n0 db N B) (hm : w.heap.size ≤ m) (hF : Fr No w w1) (w2 : World) (hF2 : Fr S w1 w2) (hn : ∀ k, S k → k < n0 ∨ m ≤ k) : RfX w2 n0 db N B := by
  obtain ⟨h1, h2, h3, sv, ss, h4, h5⟩ := h
  have q : ∀ k, n0 ≤ k → k < w.heap.size → ¬ S k := fun k a b hs => by have := hn k hs; omega
  exact ⟨h1, h2, h3, sv, ss, h4, (h5.fr0 hF).fr hF2 (q _ h5.n0 (heap_lt7 h5.box)) (fun k e => q _ (h5.own.lt k e).1 (h5.own.lt k e).2) (fun b hb => q _ (h5.lo b hb) (h5.lt b hb))⟩
set_option maxHeartbeats 2000000 in
set_option maxRecDepth 1000000 in
theorem rofx_calls {w : World} (v : Value) (b : List Int) (hlen : b.length ≤ 140737488355328) (hr : ∀ x ∈ b, 0 ≤ x ∧ x < 256) (hv : Sl w v b.length (bys b)) : Calls Tryd.prog 15 #[v] w fun e w' => ∃ db, e = .returned (.pointer (some ⟨db, 0, none⟩)) ∧ RfX w' w.heap.size db (manyS b.length) (ofB b) ∧ Fr No w w' := by
  obtain ⟨ad, cap, rfl, hn0, hcap⟩ := hv.form0
  have hm : manyS b.length ≤ 2000 := by unfold manyS; omega
  have hmm : min ((b.length + 63) / 64) 2000 = manyS b.length := by unfold manyS; omega
  have hnw := rnewg_calls ((b.length + 63) / 64) w
  rw [hmm] at hnw
  have HNW := Lib.hid hnw
  clear hnw hmm
  have HV := Lib.hid hv
  clear hv
  have HNB : RowKit.Hid (∀ N, manyS b.length = N → True ∧ ∀ j < N, 64 * j < b.length) := Lib.hid (fun N e => by subst e; unfold manyS; exact ⟨trivial, fun j hj => by omega⟩)
  have HOF : RowKit.Hid ((ofB b).length = 64 * manyS b.length ∧ (∀ x ∈ ofB b, 0 ≤ x ∧ x < 256) ∧ ∀ i, i < manyS b.length → spl (zs 64) 0 ((b.drop (64 * i)).take 64) = secB (ofB b) i) := Lib.hid ⟨ofB_len b, ofB_range hr, secB_ofB b⟩
  generalize ofB b = ob at *
  generalize hN : manyS b.length = N at *
  have HN := Lib.hid (HNB.out _ rfl)
  clear hN HNB
  generalize hN1 : (b.length + 63) / 64 = M at *
  have hq : IntKind.i64.wrap (((b.length : Nat) : Int) / 64) = ((b.length / 64 : Nat) : Int) := by rw [IntWalk.i64_in _ (by omega)]; omega
  have hwr1 : IntKind.i64.wrap (((b.length / 64 : Nat) : Int) + 1) = ((b.length / 64 : Nat) : Int) + 1 := IntWalk.i64_in _ (by omega)
  go_enter Tryd.func15, Tryd.ntmps15
  go_wp2_with fail
  all_goals first | rw [show ((b.length : Int) / 64 + 1) = (M : Int) from by omega] | rw [show ((b.length : Int) / 64) = (M : Int) from by omega]
  all_goals clear hN1
  all_goals (
    refine HNW.out.mono ?_
    rintro e w2 ⟨db, sv, ss, rfl, rfl, hR2, hF2⟩
    obtain ⟨pa, pc, rfl⟩ := (Sl.of_owns hR2.own).form
    have k0 : w2.cell? ⟨db, 0, none⟩ = some (.slice pa ss.length pc) := heap_cell (o := 0) hR2.box rfl
    have HR2 := Lib.hid hR2
    have HF2 := Lib.hid hF2
    clear hR2 hF2)
  all_goals go_wp2_with fail
  all_goals (
    go_loopw [22] (fun i wr => ∃ j : Nat, j ≤ ss.length ∧ i = .int .i64 j ∧ RfN wr w.heap.size db (.slice pa ss.length pc) ss (fun i => if i < j then secB ob i else zs 64) ∧ Fr (fun k => k ∈ ss) w2 wr) (fun i _ => ss.length - (intOf i).toNat)
    case atStart => exact ⟨0, Nat.zero_le _, rfl, by simpa using HR2.out, Fr.refl _ _⟩
    case round =>
      obtain ⟨j, hj, rfl, hR, hF⟩ := hrel
      by_cases hlt : j < ss.length
      · have dj : decide ((j : Int) < (ss.length : Int)) = true := decide_eq_true (by omega)
        have hjb := HN.out.2 j hlt
        have hget : (slB ss)[j]? = some (.slice (some ⟨ss[j], 0, none⟩) 64 64) := by simp [slB, hlt]
        obtain ⟨g, o, hag, -, hc⟩ := (Sl.of_owns hR.own).at (by intro e; rw [e] at hget; simp at hget)
        have x1 := hc _ _ hget
        subst hag
        have k0d : wr.drew.cell? ⟨db, 0, none⟩ = some (.slice (some ⟨g, o, none⟩) ss.length pc) := heap_cell (w := wr) (o := 0) hR.box rfl
        have x1d : wr.drew.cell? ⟨g, o + j, none⟩ = some (.slice (some ⟨ss[j], 0, none⟩) 64 64) := x1
        have HLO := Lib.hid (hR.lo _ (List.getElem_mem hlt))
        have HR := Lib.hid hR
        have hwr : IntKind.i64.wrap ((j : Int) * 64) = 64 * (j : Int) := by have := IntWalk.i64_in ((j : Int) * 64) (by omega); rw [this]; omega
        have hq0 : (64 * (j : Int)).toNat = 64 * j := by omega
        have hq1 : (0 ≤ 64 * (j : Int) ∧ 64 * (j : Int) ≤ (b.length : Int)) = True := eq_true ⟨by omega, by omega⟩
        have hq2 : (cap = 64 * j) = False := eq_false (by omega)
        have hmem := List.getElem_mem hlt
        have hsd : Sl wr.drew (.slice (Option.map (fun x => x.add (64 * j)) ad) (b.length - 64 * j) (cap - 64 * j)) (b.length - 64 * j) (bys (b.drop (64 * j))) := by
          have h1 : Fr (fun k => k ∈ ss) w wr.drew := (HF2.out.no.trans hF).drew
          have := (HV.out.fr h1 (fun k e hne hk => by have := HV.out.lt e hne; have := hR.lo k hk; omega)).drop (k := 64 * j) (size := 1) (by omega) (by simp [bys])
          rw [if_neg (by omega)] at this
          simpa [bys, List.map_drop] using this
        have hrw := hR.row j hlt
        simp only [Nat.lt_irrefl, if_false] at hrw
        obtain ⟨w5, hrw5, hF5, hcp⟩ := Row.copyMin (w := wr.drew) hrw (b.drop (64 * j)) (Option.map (fun x => x.add (64 * j)) ad) (cap - 64 * j) 0 64 64 (by simp; omega) (by rw [List.length_drop]; exact hsd) (by rw [List.length_drop]; simp [zs]; omega)
        rw [List.length_drop] at hcp
        rw [HOF.out.2.2 j hlt] at hrw5
        have HR5 := Lib.hid (RfN.lay (g := fun i => if i < j + 1 then secB ob i else zs 64) (hR.fr0 (Fr.refl No wr).drew) j hlt hF5 (by rw [if_pos (by omega)]; exact hrw5) (fun i hi => by
          by_cases h : i < j
          · rw [if_pos (by omega), if_pos h]
          · rw [if_neg (by omega), if_neg h]))
        have HF5 := Lib.hid (hF.trans ((Fr.refl (fun k => k ∈ ss) wr).drew.trans (hF5.mono (fun k _ (e : k = _) => e ▸ hmem))))
        clear hR hF k0 hsd hrw5 hF5 hrw x1 hc hget
        generalize hsj : ss[j] = sj at *
        go_upto_region 8 with fail
        refine wp_region_held_drew (S := (fun w' => w'.cell? ⟨db, 0, none⟩ = some (.slice (some ⟨g, o, none⟩) ss.length pc) ∧ w'.cell? ⟨g, o + j, none⟩ = some (.slice (some ⟨sj, 0, none⟩) 64 64))) (by kernel_rfl) ⟨k0d, x1d⟩ (fun hS0 => ?_)
        refine take_at7 (i := 0) (d := some 25) (v := ?_) rfl rfl (by kernel_rfl) (by kernel_rfl) (by kernel_rfl) (fun _ _ _ h => h) (Or.inl ⟨by rfl, ?_⟩) (by assumption) ?_
        rotate_left
        · intro w hSw; go_simp; try (with_reducible rfl)
        try simp only [Act.put, List.setIfInBounds_toArray, List.set_cons_zero, List.set_cons_succ]
        refine take_at7 (i := 1) (d := some 26) (v := ?_) rfl rfl (by kernel_rfl) (by kernel_rfl) (by kernel_rfl) (fun _ _ _ h => h) (Or.inl ⟨by rfl, ?_⟩) (by assumption) ?_
        rotate_left
        · intro w hSw; go_simp; try (with_reducible rfl)
        try simp only [Act.put, List.setIfInBounds_toArray, List.set_cons_zero, List.set_cons_succ]
        refine take_at7 (i := 2) (d := some 27) (v := ?_) rfl rfl (by kernel_rfl) (by kernel_rfl) (by kernel_rfl) (fun _ _ _ h => h) (Or.inl ⟨by rfl, ?_⟩) (by assumption) ?_
        rotate_left
        · intro w hSw; go_simp; try (with_reducible rfl)
        try simp only [Act.put, List.setIfInBounds_toArray, List.set_cons_zero, List.set_cons_succ]
        refine take_at7 (i := 3) (d := some 28) (v := ?_) rfl rfl (by kernel_rfl) (by kernel_rfl) (by kernel_rfl) (fun _ _ _ h => h) (Or.inl ⟨by rfl, ?_⟩) (by assumption) ?_
        rotate_left
        · intro w hSw; go_simp; try (with_reducible rfl)
        try simp only [Act.put, List.setIfInBounds_toArray, List.set_cons_zero, List.set_cons_succ]
        refine take_at7 (i := 4) (d := some 29) (v := ?_) rfl rfl (by kernel_rfl) (by kernel_rfl) (by kernel_rfl) (fun _ _ _ h => h) (Or.inl ⟨by rfl, ?_⟩) (by assumption) ?_
        rotate_left
        · intro w hSw; go_simp; try (with_reducible rfl)
        try simp only [Act.put, List.setIfInBounds_toArray, List.set_cons_zero, List.set_cons_succ]
        refine take_at7 (i := 5) (d := some 30) (v := ?_) rfl rfl (by kernel_rfl) (by kernel_rfl) (by kernel_rfl) (fun _ _ _ h => h) (Or.inl ⟨by rfl, ?_⟩) (by assumption) ?_
        rotate_left
        · intro w hSw; go_simp; try (with_reducible rfl)
        try simp only [Act.put, List.setIfInBounds_toArray, List.set_cons_zero, List.set_cons_succ]
        refine take_at7 (i := 6) (d := some 31) (v := ?_) rfl rfl (by kernel_rfl) (by kernel_rfl) (by kernel_rfl) (fun _ _ _ h => h) (Or.inl ⟨by rfl, ?_⟩) (by assumption) ?_
        rotate_left
        · intro w hSw; go_simp; try (with_reducible rfl)
        try simp only [Act.put, List.setIfInBounds_toArray, List.set_cons_zero, List.set_cons_succ]
        refine take_at7 (i := 7) (d := some 32) (v := ?_) rfl rfl (by kernel_rfl) (by kernel_rfl) (by kernel_rfl) (fun _ _ _ h => h) (Or.inl ⟨by rfl, ?_⟩) (by assumption) ?_
        rotate_left
        · intro w hSw; go_simp; try (with_reducible rfl)
        try simp only [Act.put, List.setIfInBounds_toArray, List.set_cons_zero, List.set_cons_succ]
        refine take_at7 (i := 8) (d := some 33) (v := ?_) rfl rfl (by kernel_rfl) (by kernel_rfl) (by kernel_rfl) (fun _ _ _ h => h) (Or.inl ⟨by rfl, ?_⟩) (by assumption) ?_
        rotate_left
        · intro w hSw; go_simp; try (with_reducible rfl)
        try simp only [Act.put, List.setIfInBounds_toArray, List.set_cons_zero, List.set_cons_succ]
        refine take_at7 (i := 9) (d := some 34) (v := ?_) rfl rfl (by kernel_rfl) (by kernel_rfl) (by kernel_rfl) (fun _ _ _ h => h) (Or.inl ⟨by rfl, ?_⟩) (by assumption) ?_
        rotate_left
        · intro w hSw; go_simp; try (with_reducible rfl)
        try simp only [Act.put, List.setIfInBounds_toArray, List.set_cons_zero, List.set_cons_succ]
        refine take_at7 (i := 10) (d := some 35) (v := ?_) rfl rfl (by kernel_rfl) (by kernel_rfl) (by kernel_rfl) (fun _ _ _ h => h) (Or.inl ⟨by rfl, ?_⟩) (by assumption) ?_
        rotate_left
        · intro w hSw; go_simp; try (with_reducible rfl)
        try simp only [Act.put, List.setIfInBounds_toArray, List.set_cons_zero, List.set_cons_succ]
        refine one_H7 (i := 11) (d := some 36) rfl rfl rfl (by kernel_rfl) (fun K hK => ?_)
        go_simp
        refine hK.out _ _ ⟨HR5.out.cell0, HR5.out.cellj hlt hsj⟩ (fun hHeld => ?_)
        clear hK K
        try simp only [Act.put, List.setIfInBounds_toArray, List.set_cons_zero, List.set_cons_succ]
        refine wpAnyH_done (by kernel_rfl) ?_ _
        go_wp2_with fail
        refine ⟨⟨j + 1, by omega, by go_num, HR5.out, HF5.out⟩, by simp [intOf]; omega⟩
      · obtain rfl : j = ss.length := by omega
        have dj : decide ((ss.length : Int) < (ss.length : Int)) = false := decide_eq_false (by omega)
        have HR := Lib.hid hR
        have HF := Lib.hid hF
        clear hR hF k0
        go_wp2_with fail
        go_ret
        have HRn : RfN wr w.heap.size db (.slice pa ss.length pc) ss (fun i => secB ob i) := ⟨HR.out.box, HR.out.own, fun i hi => by have := HR.out.row i hi; rwa [if_pos hi] at this, HR.out.lo, HR.out.nd, HR.out.n0⟩
        exact ⟨db, rfl, ⟨hm, HOF.out.1, HOF.out.2.1, .slice pa ss.length pc, ss, rfl, HRn⟩, HF2.out.trans' HF.out (fun i hi (e : i ∈ ss) => by have := HR.out.lo i e; omega)⟩)
end Go.Proofs.YtpcikbloflpahaaDoor
