/-
  Chapter 12: Write.
-/
import Derived.Test.YtoajnmbbgbpbgaaGreatZI
namespace Go.Proofs.YtoajnmbbgbpbgaaGreat
set_option linter.unusedVariables false
set_option linter.unusedSimpArgs false
open Go.RowKit Go.Shelf Go.Maps

theorem writeR_bad {B : List Int} {n x : Int} (hx : openE B n = x) (h0 : 0 < x) (o : Int) (l : List Int) : writeR B n o l = (B, x) := by
  rcases open_facts hx with ⟨ht, rfl⟩ | ⟨L, u, ht, rfl⟩
  · unfold writeR; generalize tableF B = t at *; subst ht; rfl
  · unfold writeR; generalize tableF B = t at *; subst ht
    dsimp only
    by_cases h1 : n < 0 ∨ 8 ≤ n
    · rw [if_pos h1, if_pos h1]
    · rw [if_neg h1, if_neg h1]
      by_cases h2 : (L.getD n.toNat Nd.free).name = noName
      · rw [if_pos h2, if_pos h2]
      · rw [if_neg h1, if_neg h2] at h0; omega
theorem writeR_good {B : List Int} {L : List Nd} {u k : Nat} (ht : tableF B = some (L, u)) (hk : k < 8) (hn : (L.getD k Nd.free).name ≠ noName) (o : Int) (b : List Int) : writeR B k o b =
    if o < 0 ∨ (L.getD k Nd.free).size < o then ((B, 1) : List Int × Int)
    else if o + b.length ≤ (L.getD k Nd.free).size then (wrF B (L.getD k Nd.free).ext o.toNat b, 0)
    else if 1472 < o + b.length then (B, 125)
    else match resizeT (L.getD k Nd.free) u (o + b.length) with
      | none => (B, 125)
      | some (x', u') => (wrF (resizeB B L k x' u' (listF (L.getD k Nd.free).ext).length) x'.ext o.toNat b, 0) := by
  unfold writeR; generalize tableF B = t at *; subst ht
  dsimp only
  rw [if_neg (by omega), Int.toNat_natCast, if_neg hn]; rfl
/-- The loop's state: j bytes written. -/
def WrI (w : World) (mb : Nat) (A : Nat → Prop) (F B1 : List Int) (b : Nat) (T : List TE) (u : Nat) (xs : List (Int × Int)) (o : Nat) (l : List Int) (j : Nat) (s : Value) (wr : World) : Prop :=
  ∃ A2, Has w mb A F (wrN B1 xs o l j) b T u wr A2 ∧ Sl wr s (l.length - j) (bys (l.drop j)) ∧ ∀ k, s.ownBlock = some k → l.drop j ≠ [] → ¬ A2 k
/-- Behind the growth: the table and the bytes that are written on. -/
def WrT (w : World) (mb : Nat) (A : Nat → Prop) (F B1 : List Int) (b : Nat) (k : Nat) (x : Nd) (wx : World) : Prop :=
  ∃ A2 T u L, Has w mb A F B1 b T u wx A2 ∧ T.map Prod.fst = L ∧ L.getD k Nd.free = x

set_option maxHeartbeats 8000000 in
set_option maxRecDepth 1000000 in
theorem fwrite_good {w : World} {mb : Nat} {A : Nat → Prop} {F B : List Int} {L : List Nd} {u k : Nat} (h : MemAt w mb A F B) (ht : tableF B = some (L, u)) (hk : k < 8) (hop : openE B (k : Int) = 0) (hnm : (L.getD k Nd.free).name ≠ noName) {nm : ByteArray} {sz : Int} {xs : List (Int × Int)} (hx : L.getD k Nd.free = ⟨nm, sz, xs⟩) (f3 : 0 ≤ sz) (f4 : sz ≤ 1472)
    (oo : Nat) (hos : (oo : Int) ≤ sz) (av : Option Addr) (cv : Nat) (l : List Int) (hv : Sl w (.slice av l.length cv) l.length (bys l)) (hvA : ∀ k, (Value.slice av l.length cv).ownBlock = some k → l ≠ [] → ¬ A k) (h0 : ∀ b ∈ l, 0 ≤ b ∧ b < 256) (hlen : l.length ≤ 140737488355328) {B1 : List Int} {x1 : Nd}
    (hb1 : oo + l.length ≤ 64 * (listF x1.ext).length) (hb2 : x1.ext.length ≤ 23) (hb3 : (listF x1.ext).length ≤ 23)
    (hcs : ((oo : Int) + l.length ≤ sz ∧ B1 = B ∧ x1 = ⟨nm, sz, xs⟩) ∨ (sz < (oo : Int) + l.length ∧ (oo : Int) + l.length ≤ 1472 ∧ ∃ u', resizeT (L.getD k Nd.free) u ((oo : Int) + l.length) = some (x1, u') ∧ B1 = resizeB B L k x1 u' (listF (L.getD k Nd.free).ext).length)) :
    Calls Tryz.prog 56 #[.pointer (some ⟨mb, 0, none⟩), .int .i64 (k : Int), .int .i64 (oo : Int), .slice av l.length cv] w (FsP w mb A F (wrF B1 x1.ext oo l) (.int .i64 0)) := by
  have HR := Lib.hid (fopen_good h ht (k : Int) hop)
  have HL := Lib.hid (tableF_len ht)
  have HTF := Lib.hid ht
  have HNM := Lib.hid hnm
  have HBL := Lib.hid h.blen
  have HX := Lib.hid hx
  have hki0 : (0 : Int) ≤ (k : Int) := by omega
  have hki1 : (k : Int) < 8 := by omega
  have HV := Lib.hid hv
  have HVA := Lib.hid hvA
  have HR0 := Lib.hid h0
  have d1 : decide ((oo : Int) < 0) = false := decide_eq_false (by omega)
  have d2 : decide (sz < (oo : Int)) = false := decide_eq_false (by omega)
  clear h ht hop hnm hx hv hvA h0
  have HB1 := Lib.hid hb1
  have HB2 := Lib.hid hb2
  have HB3 := Lib.hid hb3
  have HCS := Lib.hid hcs
  clear hb1 hb2 hb3 hcs
  go_enter Tryz.func56, Tryz.ntmps56
  go_upto_if 46 with (first
              | (go_at_call 93; ((with_reducible refine HR.out.mono ?_); rintro e w1 ⟨A1, T, rfl, hp1, hT, hv1⟩; have HT8 : RowKit.Hid (T.length = 8) := Lib.hid (by have := HL.out; rw [← hT] at this; simpa using this); have HTT := Lib.hid hT; have HTL : RowKit.Hid ((tabC T u).length = 25) := Lib.hid (by rw [tabC_length, HT8.out]); clear hT)) | (refine alloc_tab rfl rfl ?_) | (refine store_tab rfl _ _ rfl w1.heap.size (tabC T u) (tabC noT 0) rfl rfl (heap_new _ _) noT_len HTL.out (hv1.one' u) ?_; intro w2 hb2 hF2; have HAS := Lib.hid (has_mk hp1 HT8.out hv1 hb2 hF2); have hc1 := (has_at HAS.out HTT.out hk HX.out).1) | fail "arm")
  go_cut [12] (fun s12 wx => WrT w mb A F B1 w1.heap.size k x1 wx)
  case first =>
    rcases HCS.out with ⟨hle, hB1, hx1⟩ | ⟨hgt, hle, u', hrz, hB1⟩
    · have d3 : decide (sz < (oo : Int) + (l.length : Int)) = false := decide_eq_false (by omega)
      have HB1E := Lib.hid hB1
      have HX1E := Lib.hid hx1
      clear hB1 hx1
      simp only [d3]
      go_wp2_with fail
      go_meet
      exact ⟨A1, T, u, L, by rw [HB1E.out]; exact HAS.out, HTT.out, by rw [HX1E.out]; exact HX.out⟩
    · have d3 : decide (sz < (oo : Int) + (l.length : Int)) = true := decide_eq_true hgt
      have d4 : decide (1472 < (oo : Int) + (l.length : Int)) = false := decide_eq_false (by omega)
      have HRN := Lib.hid (tresize_some HAS.out HTT.out HTF.out hk HNM.out (by omega) (by omega) hrz)
      have HB1E := Lib.hid hB1
      clear hrz hB1
      simp only [d3]
      go_wp2_with (go_at_call 94; ((with_reducible refine HRN.out.mono ?_); rintro e w3 ⟨rfl, A3, T3, h3, hm3⟩))
      go_meet
      exact ⟨A3, T3, u', L.set k x1, by rw [HB1E.out]; exact h3, hm3, getD_set (by have := HL.out; omega) _⟩
  case rest =>
  obtain ⟨A2, T2, u2, L2, h2, hm2, hx2⟩ := hcut
  obtain ⟨nm1, sz1, xs1⟩ := x1
  dsimp only at HB1 HB2 HB3
  have HM2 := Lib.hid hm2
  have HX2 := Lib.hid hx2
  have H2 := Lib.hid h2
  have HS2 : RowKit.Hid (Sl wc (.slice av l.length cv) l.length (bys l)) := Lib.hid (HV.out.fr h2.mp.2.1 (fun j e hne => HVA.out j e (fun e2 => hne (by rw [e2]; rfl))))
  have HN2 : RowKit.Hid (∀ j, (Value.slice av l.length cv).ownBlock = some j → l ≠ [] → ¬ A2 j) := Lib.hid (fun j e hne hA => by
    rcases h2.mp.2.2 j hA with h | h
    · exact HVA.out j e hne h
    · have := HV.out.lt e (fun e2 => hne (by simpa [bys] using e2)); omega)
  clear h2 hm2 hx2 HCS hc1 d1 d2
  have ho : oo ≤ 1472 := by omega
  clear hv1 hp1 hb2 hF2
  go_wp2_with fail
  go_loopw [2, 3] (fun s2 s3 wr => ∃ j : Nat, j ≤ l.length ∧ s2 = .int .i64 ((oo + j : Nat) : Int) ∧ WrI w mb A F B1 w1.heap.size T2 u2 xs1 oo l j s3 wr) (fun s2 _ _ => oo + l.length - (intOf s2).toNat)
  case atStart => exact ⟨0, Nat.zero_le _, rfl, A2, H2.out, HS2.out, HN2.out⟩
  case round =>
    obtain ⟨j, hj, rfl, A5, h5, hs5, hn5⟩ := hrel
    obtain ⟨mm, hmm⟩ : ∃ mm, l.length - j = mm := ⟨_, rfl⟩
    rw [hmm] at hs5
    obtain ⟨a5, c5, rfl⟩ := hs5.form
    by_cases hlt : j < l.length
    · have hdl : (l.drop j).length = mm := by rw [List.length_drop, hmm]
      have hmm0 : 0 < mm := by omega
      have hmm1 : mm ≤ 140737488355328 := by omega
      have hne : l.drop j ≠ [] := fun e => by rw [e] at hdl; simp at hdl; omega
      obtain ⟨vb, off, rfl, -, -⟩ := hs5.at (bys_ne (l.drop j) 0 (by omega))
      have hcap := hs5.le
      obtain ⟨g, hg⟩ : ∃ g, oo + j = g := ⟨_, rfl⟩
      rw [hg]
      have hgb : g < 140737488356900 := by omega
      obtain ⟨q, hq⟩ : ∃ q, g / 64 = q := ⟨_, rfl⟩
      obtain ⟨r, hr⟩ : ∃ r, g % 64 = r := ⟨_, rfl⟩
      have hql : q < (listF xs1).length := by have := HB1.out; omega
      have hbq := listF_nine _ (getD_mem hql)
      obtain ⟨-, hk2, -, a2, v2, -, c2, hsl2, hsb2⟩ := has_at h5 HM2.out hk HX2.out
      have HBK := Lib.hid (by
        have := block_calls (.slice a2 xs1.length v2) xs1 (q : Int) _ (by have := HB2.out; omega) hsl2
        rw [if_pos ⟨by omega, by omega⟩, Int.toNat_natCast] at this
        exact this)
      have had : addrF xs1 g = 6144 + 64 * (listF xs1).getD q 0 + r := by rw [addrF, hq, hr]
      obtain ⟨b, hb⟩ : ∃ b, (listF xs1).getD q 0 = b := ⟨_, rfl⟩
      rw [hb] at HBK hbq had
      have hr64 : r < 64 := by omega
      have hq1 : (g : Int) / 64 = q := by omega
      have hq2 : Int.tdiv (g : Int) 64 = q := by rw [Int.tdiv_eq_ediv_of_nonneg (by omega)]; exact hq1
      have hr1 : (g : Int) % 64 = r := by omega
      have hr2 : Int.tmod (g : Int) 64 = r := by rw [Int.tmod_eq_emod_of_nonneg (by omega)]; exact hr1
      obtain ⟨c, hc⟩ : ∃ c : Nat, (if (mm : Int) < 64 - r then (mm : Int) else 64 - r) = (c : Int) := ⟨(if (mm : Int) < 64 - r then (mm : Int) else 64 - r).toNat, by split <;> omega⟩
      have hc1 : 0 < c := by split at hc <;> omega
      have hc2 : r + c ≤ 64 := by split at hc <;> omega
      have hc3 : c ≤ mm := by split at hc <;> omega
      have hci0 : (0 : Int) ≤ (c : Int) := by omega
      have hci1 : (c : Int) ≤ (mm : Int) := by omega
      have hci2 : (c : Int) ≤ (c5 : Int) := by omega
      have hci3 : (mm : Int) ≤ (c5 : Int) := by omega
      obtain ⟨hbq1, hbq2⟩ := hbq
      have hpc : layF (wrN B1 xs1 oo l j) (6144 + b * 64 + (r : Int)) ((l.drop j).take c) = wrN B1 xs1 oo l (j + c) := by
        rw [show 6144 + b * 64 + (r : Int) = addrF xs1 (oo + j) by rw [hg, had]; omega]
        exact wr_piece B1 xs1 oo l j c (by rw [hg, hr]; exact hc2) (by omega)
      have HPC := Lib.hid hpc
      have HMM := Lib.hid hmm
      have HG := Lib.hid hg
      have HDL := Lib.hid hdl
      have htk := hs5.take (k := c) hc3 1
      rw [Nat.mul_one, show (bys (l.drop j)).take c = bys ((l.drop j).take c) from (List.map_take ..).symm] at htk
      have hdr := hs5.drop (k := c) (size := 1) hc3 (by rw [bys_len, hdl, Nat.mul_one])
      rw [Nat.mul_one, show (bys (l.drop j)).drop c = bys ((l.drop j).drop c) from (List.map_drop ..).symm, List.drop_drop] at hdr
      have htl : ((l.drop j).take c).length = c := by rw [List.length_take, hdl]; omega
      have HTK := Lib.hid htk
      have HDR := Lib.hid hdr
      have HTL2 := Lib.hid htl
      have HTR : RowKit.Hid (∀ x ∈ (l.drop j).take c, 0 ≤ x ∧ x < 256) := Lib.hid (fun x hx => HR0.out x (List.mem_of_mem_drop (List.mem_of_mem_take hx)))
      have HN5 := Lib.hid (hn5 vb rfl hne)
      have H5 := Lib.hid h5
      clear hq hr hql hb had hpc hmm hg hdl hne hsl2 hsb2 htk hdr htl hn5 h5 hs5 hk2
      go_upto_region 16 with (go_at_call 96; ((with_reducible refine HBK.out.mono ?_); rintro e w6 ⟨rfl, hF6⟩))
      have hw1 : IntKind.i64.wrap (6144 + b * 64 + (r : Int)) = 6144 + b * 64 + r := IntWalk.i64_in _ (by omega)
      have HLY := Lib.hid (fun (w7 : World) (h7 : Fr No w6 w7) => (by
        have h8 := H5.out.fr (hF6.trans h7)
        have := lay_calls h8.mp.1 (6144 + b * 64 + (r : Int)) (.slice (some ⟨vb, off, none⟩) c c5) ((l.drop j).take c) (by rw [HTL2.out]; exact HTK.out.fr0 (hF6.trans h7)) (fun i e _ => by cases e; exact HN5.out) HTR.out (by rw [HTL2.out]; omega) (by omega)
        exact this))
      have HF6 := Lib.hid hF6
      clear c2
      go_region_with (first
              | (go_at_call 42; ((with_reducible refine (place_calls _ _ (by omega) (by omega)).mono ?_); rintro e w7 ⟨rfl, rfl⟩))
              | (go_at_call 41; ((with_reducible refine (HLY.out _ (Fr.refl _ _).drew).mono ?_); rintro e w8 ⟨A8, rfl, hp8⟩))
              | fail "arm")
      have HVL : RowKit.Hid (vb < w6.heap.size) := Lib.hid (by
        have h1 := HTK.out.lt (k := vb) rfl (bys_ne _ 0 (by rw [HTL2.out]; exact hc1))
        have := HF6.out.size; omega)
      have hF68 : Fr A5 w6 w8 := ((Fr.refl No w6).drew).no.trans hp8.2.1
      have H8 : RowKit.Hid (Has w mb A F (wrN B1 xs1 oo l (j + c)) w1.heap.size T2 u2 w8 A8) := Lib.hid (by
        have := (H5.out.fr (HF6.out.trans (Fr.refl No w6).drew)).mem hp8
        rw [HPC.out] at this; exact this)
      have HDR8 := Lib.hid ((HDR.out.fr0 HF6.out).fr hF68 (fun i e _ hA => by
        split at e
        · cases e; exact HN5.out hA
        · have e2 : vb = i := by simpa [Addr.add, show c ≠ 0 by omega, Value.ownBlock] using e
          subst e2; exact HN5.out hA))
      have HN8 : RowKit.Hid (¬ A8 vb) := Lib.hid (fun hA => by
        rcases hp8.2.2 vb hA with h | h
        · exact HN5.out h
        · exact Nat.lt_irrefl _ (Nat.lt_of_lt_of_le HVL.out h))
      clear hp8 hF68 hw1 hF6
      by_cases hcc : c5 = c
      · rw [if_pos hcc] at HDR8
        subst hcc
        go_wp2_with fail
        go_roundw
        case rel => exact ⟨j + c5, by have := HMM.out; omega, by have := HG.out; go_num, A8, H8.out, by
          have h9 := HDR8.out
          rw [show mm - c5 = 0 by omega, Nat.sub_self] at h9
          rw [show l.length - (j + c5) = 0 by have := HMM.out; omega]; exact h9, fun i e _ => by cases e; exact HN8.out⟩
        case measure => simp [intOf]; have := HG.out; have := HMM.out; omega
      · rw [if_neg hcc] at HDR8
        have hcc2 : (c : Int) < (c5 : Int) := by omega
        go_wp2_with fail
        go_roundw
        case rel =>
          refine ⟨j + c, by have := HMM.out; omega, by have := HG.out; go_num, A8, H8.out, ?_, fun i e _ => by
            have e2 : vb = i := by simpa [Value.ownBlock] using e
            subst e2; exact HN8.out⟩
          rw [show l.length - (j + c) = mm - c by have := HMM.out; omega]
          have h9 := HDR8.out
          simpa [Addr.add, show c ≠ 0 by omega] using h9
        case measure => simp [intOf]; have := HG.out; have := HMM.out; omega
    · obtain rfl : j = l.length := by omega
      obtain rfl : mm = 0 := by omega
      have H5 := Lib.hid h5
      clear h5 hs5 hn5
      go_wp2_with fail
      go_ret
      exact ⟨A5, rfl, H5.out.mp⟩

set_option maxHeartbeats 1000000 in
set_option maxRecDepth 1000000 in
theorem fwrite_calls {w : World} {mb : Nat} {A : Nat → Prop} {F B : List Int} (h : MemAt w mb A F B) (n o : Int) (v : Value) (l : List Int) (ho : -9223372036854775808 ≤ o ∧ o ≤ 9223372036854775807) (hv : Sl w v l.length (bys l)) (hvA : ∀ k, v.ownBlock = some k → l ≠ [] → ¬ A k) (h0 : ∀ b ∈ l, 0 ≤ b ∧ b < 256) (hlen : l.length ≤ 140737488355328) :
    Calls Tryz.prog 56 #[.pointer (some ⟨mb, 0, none⟩), .int .i64 n, .int .i64 o, v] w (FsP w mb A F (writeR B n o l).1 (.int .i64 (writeR B n o l).2)) := by
  obtain ⟨av, cv, rfl⟩ := hv.form
  rcases open_cases B n with ⟨x, hx, hx0⟩ | ⟨hx, L, u, k, ht, hk, rfl, hnm⟩
  · have HR := Lib.hid (fopen_bad h n hx)
    rw [writeR_bad hx hx0]
    clear h hx hv hvA h0
    go_enter Tryz.func56, Tryz.ntmps56
    go_wp2_with (first
              | (go_at_call 93; ((with_reducible refine HR.out.mono ?_); rintro e w1 ⟨A1, cs, rfl, hp1, hl, h1⟩)) | (refine alloc_tab rfl rfl ?_) | (refine store_tab rfl _ _ rfl w1.heap.size cs (tabC noT 0) rfl rfl (heap_new _ _) noT_len hl h1 ?_; intro w2 hb2 hF2) | fail "arm")
    go_ret
    exact ⟨A1, rfl, hp1.thenFr (((Fr.refl No w1).alloc _).trans' hF2 (fun i hi e => by omega))⟩
  · have hx9 := hx
    have HR := Lib.hid (fopen_good h ht (k : Int) hx)
    have HL := Lib.hid (tableF_len ht)
    obtain ⟨f1, f2, f3, f4, f5, -⟩ := tab_facts ht hk
    rw [writeR_good ht hk hnm]
    have HTF := Lib.hid ht
    have HNM := Lib.hid hnm
    have HBL := Lib.hid h.blen
    obtain ⟨x, hx2⟩ : ∃ x, L.getD k Nd.free = x := ⟨_, rfl⟩
    rw [hx2] at f1 f2 f3 f4 f5 ⊢
    have HX := Lib.hid hx2
    obtain ⟨nm, sz, xs⟩ := x
    dsimp only at f1 f2 f3 f4 f5 ⊢
    have hki0 : (0 : Int) ≤ (k : Int) := by omega
    have hki1 : (k : Int) < 8 := by omega
    have HV := Lib.hid hv
    have HVA := Lib.hid hvA
    have HR0 := Lib.hid h0
    have HM := Lib.hid h
    clear h hx ht hnm hx2 hv hvA h0
    by_cases hbad : o < 0 ∨ sz < o
    · rw [if_pos hbad]
      have hd : decide (o < 0) = true ∨ (decide (o < 0) = false ∧ decide (sz < o) = true) := by
        by_cases h1 : o < 0
        · exact .inl (decide_eq_true h1)
        · exact .inr ⟨decide_eq_false h1, decide_eq_true (by omega)⟩
      clear hbad
      rcases hd with d1 | ⟨d1, d2⟩
      all_goals
        go_enter Tryz.func56, Tryz.ntmps56
        go_wp2_with (first
              | (go_at_call 93; ((with_reducible refine HR.out.mono ?_); rintro e w1 ⟨A1, T, rfl, hp1, hT, hv1⟩; have HT8 : RowKit.Hid (T.length = 8) := Lib.hid (by have := HL.out; rw [← hT] at this; simpa using this); have HTT := Lib.hid hT; have HTL : RowKit.Hid ((tabC T u).length = 25) := Lib.hid (by rw [tabC_length, HT8.out]); clear hT)) | (refine alloc_tab rfl rfl ?_) | (refine store_tab rfl _ _ rfl w1.heap.size (tabC T u) (tabC noT 0) rfl rfl (heap_new _ _) noT_len HTL.out (hv1.one' u) ?_; intro w2 hb2 hF2; have HAS := Lib.hid (has_mk hp1 HT8.out hv1 hb2 hF2); have hc1 := (has_at HAS.out HTT.out hk HX.out).1) | fail "arm")
        go_ret
        exact ⟨A1, rfl, HAS.out.mp⟩
    · rw [if_neg hbad]
      obtain ⟨oo, rfl⟩ := Int.eq_ofNat_of_zero_le (show 0 ≤ o by omega)
      have d1 : decide ((oo : Int) < 0) = false := decide_eq_false (by omega)
      have d2 : decide (sz < (oo : Int)) = false := decide_eq_false (by omega)
      have hos : (oo : Int) ≤ sz := by omega
      rw [Int.toNat_natCast]
      clear hbad ho
      by_cases hno : sz < (oo : Int) + l.length ∧ (1472 < (oo : Int) + l.length ∨ resizeT ⟨nm, sz, xs⟩ u ((oo : Int) + l.length) = none)
      · obtain ⟨hg, hno⟩ := hno
        rw [if_neg (by omega)]
        have hpost : (if (1472 : Int) < (oo : Int) + l.length then ((B, 125) : List Int × Int) else match resizeT ⟨nm, sz, xs⟩ u ((oo : Int) + l.length) with
            | none => (B, 125)
            | some (x', u') => (wrF (resizeB B L k x' u' (listF xs).length) x'.ext oo l, 0)) = (B, 125) := by
          by_cases h1 : (1472 : Int) < (oo : Int) + l.length
          · rw [if_pos h1]
          · rw [if_neg h1]
            rcases hno with h2 | h2
            · exact absurd h2 h1
            · rw [h2]
        rw [hpost]
        clear hpost
        have d3 : decide (sz < (oo : Int) + (l.length : Int)) = true := decide_eq_true hg
        by_cases hbig : (1472 : Int) < (oo : Int) + l.length
        · clear hno
          have d4 : decide (1472 < (oo : Int) + (l.length : Int)) = true := decide_eq_true hbig
          go_enter Tryz.func56, Tryz.ntmps56
          go_wp2_with (first
              | (go_at_call 93; ((with_reducible refine HR.out.mono ?_); rintro e w1 ⟨A1, T, rfl, hp1, hT, hv1⟩; have HT8 : RowKit.Hid (T.length = 8) := Lib.hid (by have := HL.out; rw [← hT] at this; simpa using this); have HTT := Lib.hid hT; have HTL : RowKit.Hid ((tabC T u).length = 25) := Lib.hid (by rw [tabC_length, HT8.out]); clear hT)) | (refine alloc_tab rfl rfl ?_) | (refine store_tab rfl _ _ rfl w1.heap.size (tabC T u) (tabC noT 0) rfl rfl (heap_new _ _) noT_len HTL.out (hv1.one' u) ?_; intro w2 hb2 hF2; have HAS := Lib.hid (has_mk hp1 HT8.out hv1 hb2 hF2); have hc1 := (has_at HAS.out HTT.out hk HX.out).1) | fail "arm")
          go_ret
          exact ⟨A1, rfl, HAS.out.mp⟩
        · have HRT : RowKit.Hid (resizeT (L.getD k Nd.free) u ((oo : Int) + l.length) = none) := Lib.hid (by
            rcases hno with h2 | h2
            · exact absurd h2 hbig
            · rw [HX.out]; exact h2)
          clear hno
          have d4 : decide (1472 < (oo : Int) + (l.length : Int)) = false := decide_eq_false hbig
          go_enter Tryz.func56, Tryz.ntmps56
          go_wp2_with (first
              | (go_at_call 93; ((with_reducible refine HR.out.mono ?_); rintro e w1 ⟨A1, T, rfl, hp1, hT, hv1⟩; have HT8 : RowKit.Hid (T.length = 8) := Lib.hid (by have := HL.out; rw [← hT] at this; simpa using this); have HTT := Lib.hid hT; have HTL : RowKit.Hid ((tabC T u).length = 25) := Lib.hid (by rw [tabC_length, HT8.out]); clear hT)) | (refine alloc_tab rfl rfl ?_) | (refine store_tab rfl _ _ rfl w1.heap.size (tabC T u) (tabC noT 0) rfl rfl (heap_new _ _) noT_len HTL.out (hv1.one' u) ?_; intro w2 hb2 hF2; have HAS := Lib.hid (has_mk hp1 HT8.out hv1 hb2 hF2); have hc1 := (has_at HAS.out HTT.out hk HX.out).1; have HRN := Lib.hid (tresize_none HAS.out HTT.out HTF.out hk (by omega) (by omega) HRT.out))
              | (go_at_call 94; ((with_reducible refine HRN.out.mono ?_); rintro e w3 ⟨rfl, A3, h3⟩))
              | fail "arm")
          go_ret
          exact ⟨A3, rfl, h3.mp⟩
      · have hcase : ∃ B1 x1, (if (oo : Int) + l.length ≤ sz then ((wrF B xs oo l, 0) : List Int × Int) else if (1472 : Int) < (oo : Int) + l.length then (B, 125) else match resizeT ⟨nm, sz, xs⟩ u ((oo : Int) + l.length) with
              | none => (B, 125)
              | some (x', u') => (wrF (resizeB B L k x' u' (listF xs).length) x'.ext oo l, 0)) = (wrF B1 x1.ext oo l, 0) ∧ oo + l.length ≤ 64 * (listF x1.ext).length ∧ x1.ext.length ≤ 23 ∧ (listF x1.ext).length ≤ 23 ∧
            (((oo : Int) + l.length ≤ sz ∧ B1 = B ∧ x1 = ⟨nm, sz, xs⟩) ∨ (sz < (oo : Int) + l.length ∧ (oo : Int) + l.length ≤ 1472 ∧ ∃ u', resizeT (L.getD k Nd.free) u ((oo : Int) + l.length) = some (x1, u') ∧ B1 = resizeB B L k x1 u' (listF (L.getD k Nd.free).ext).length)) := by
          by_cases h1 : (oo : Int) + l.length ≤ sz
          · refine ⟨B, ⟨nm, sz, xs⟩, if_pos h1, ?_, f5, ?_, .inl ⟨h1, rfl, rfl⟩⟩
            · dsimp only; rw [f2, needF]; split <;> omega
            · dsimp only; rw [f2]; have := needF_bounds f3 f4; omega
          · have h2 : ¬ ((1472 : Int) < (oo : Int) + l.length) := fun h => hno ⟨by omega, .inl h⟩
            cases hr : resizeT ⟨nm, sz, xs⟩ u ((oo : Int) + l.length) with
            | none => exact absurd ⟨by omega, .inr hr⟩ hno
            | some p =>
              obtain ⟨x1, u1⟩ := p
              have hr' : resizeT (L.getD k Nd.free) u ((oo : Int) + l.length) = some (x1, u1) := by rw [HX.out]; exact hr
              obtain ⟨hRz, -⟩ := resize_tab HBL.out ((tableF_iff B L u).1 HTF.out) hk rfl HNM.out (by omega) (by omega) hr'
              have hb := needF_bounds (size := (oo : Int) + l.length) (by omega) (by omega)
              refine ⟨_, x1, by rw [if_neg h1, if_neg h2], ?_, (inoOk_small hRz.ok).2.2.2.2, ?_, .inr ⟨by omega, by omega, u1, hr', by rw [HX.out]⟩⟩
              · rw [hRz.len, needF]; split <;> omega
              · rw [hRz.len]; omega
        obtain ⟨B1, x1, hres, hb1, hb2, hb3, hcs⟩ := hcase
        rw [hres]
        exact fwrite_good HM.out HTF.out hk hx9 HNM.out HX.out f3 f4 oo hos av cv l HV.out HVA.out HR0.out hlen hb1 hb2 hb3 hcs
end Go.Proofs.YtoajnmbbgbpbgaaGreat
namespace Go.Proofs.YtoajnmbbgbpbgaaGreat
set_option linter.unusedVariables false
set_option linter.unusedSimpArgs false
open Go.RowKit Go.Shelf Go.Maps

/-- THE ITERATOR's CONTRACT, over a state St whose blocks A may turn and grow: it hands on the elements of ys, one by one, as values that read so. -/
def IterM {α : Type} (F : Fence) (P : Program) (g : Nat) (lb : Array Value) (encOk : α → World → (Nat → Prop) → Array Value → Prop) (St : World → (Nat → Prop) → Prop) (ys : List α) : Prop :=
  ∀ (l : Nat) (J : List α → World → (Nat → Prop) → Prop) (E : World → Prop) (W : World) (A : Nat → Prop), St W A →
    (∀ pre W W' A A', St W A → J pre W A → Fr A W W' → (∀ k, A' k → A k ∨ W.heap.size ≤ k) → J pre W' A') →
    (∀ pre x vs W1 A1, pre ++ [x] <+: ys → J pre W1 A1 → St W1 A1 → encOk x W1 A1 vs → YieldAt F 0 P l vs W1 fun e W' =>
      (e = .returned (.bool true) ∧ ∃ A', J (pre ++ [x]) W' A' ∧ St W' A') ∨ (e = .returned (.bool false) ∧ E W')) →
    (∀ W' A', J ys W' A' → St W' A' → E W') → J [] W A →
    CallsIn F 0 P g (#[.func (.yield l) #[] #[]] ++ lb) W fun e W' => (∃ v, e = .returned v) ∧ E W'

theorem fr_grown {w w' : World} {row : Option Nat} (h : w.grownBy w' row) : Fr (fun k => row = some k) w w' := (Fr.refl _ _).grown h (fun k e _ => e)

variable {F : Fence} {P : Program}
theorem range_mem {α : Type} {g : Operand} {ps : Array Tmp} {assign body : Code} {Q : Exit → Act → World → Prop} {a : Act} {w : World}
    (hF : Opens F) (hro : F.round = none) {gf : Nat} {lb : Array Value} (hg : a.eval g = .func (.func gf) #[] lb) (eg : ∀ args w, (callFunc gf args).run P w = .ok (.enter gf args) w)
    {encOk : α → World → (Nat → Prop) → Array Value → Prop} {St : World → (Nat → Prop) → Prop} {ys : List α} (hseq : IterM F P gf lb encOk St ys) (hps : ∀ x W A vs, encOk x W A vs → vs.size = ps.size)
    (hSF : ∀ W W' A S, St W A → Fr S W W' → (∀ k, S k → k = w.heap.size ∨ k = w.heap.size + 1) → St W' A) (hSL : ∀ W A, St W A → ¬ A w.heap.size ∧ ¬ A (w.heap.size + 1)) {A0 : Nat → Prop} (hS0 : ∀ W1, Fr No w W1 → w.heap.size + 2 ≤ W1.heap.size → St W1 A0)
    (I : List α → World → (Nat → Prop) → Prop) (hI : ∀ A, OwnFrom w.heap.size (fun pre W => I pre W A)) (hIA : ∀ pre W W' A A', St W A → I pre W A → Fr A W W' → (∀ k, A' k → A k ∨ W.heap.size ≤ k) → I pre W' A') (h0 : I [] w A0)
    (hround : ∀ (l : Nat) (pre : List α) (x : α) (vs : Array Value) (W : World) (A : Nat → Prop), w.heap.size ≤ l → (∃ r, W.heap[l]? = some (.loop r)) → pre ++ [x] <+: ys → I pre W A → St W A → encOk x W A vs →
      assign.wpIn (F.inRound l) 0 P (Exit.then (fun a₁ W₁ => KeepsFrom w.heap.size W W₁ ∧ I pre W₁ A ∧ St W₁ A ∧ ∀ W₂, W₁.grownBy W₂ (some l) → (∃ r, W₂.heap[l]? = some (.loop r)) → I pre W₂ A → St W₂ A →
        body.wpIn (F.inRound l) 0 P (fun e _ W3 => e = .normal ∧ KeepsFrom w.heap.size W₂ W3 ∧ ∃ A3, St W3 A3 ∧ I (pre ++ [x]) W3 A3) a₁ W₂) (fun _ _ _ => False))
        { tmps := (ps.zip vs).foldl (fun t (p, v) => t.setIfInBounds p v) a.tmps, defers := [] } W)
    (hdone : ∀ (D : Nat) (W : World) (A : Nat → Prop), D = w.heap.size → I ys W A ∧ St W A → W.heap[D]? = some (.deferred (some [])) → Q .normal { a with defers := { target := .collected D, args := #[] } :: a.defers } W) :
    (Code.rangeFunc g ps assign body).wpIn F 0 P Q a w := by
  have hdep : F.depth.isSome = true → 1 ≤ 0 := fun h => by rw [hF.depth] at h; simp at h
  refine wpIn_rangeFunc ?_
  intro fn hfn
  rw [hro]
  obtain ⟨rec, hrec⟩ : ∃ rec : LoopState → Option Code → Loop, rec = fun st pe => { state := st, pending := pe, fn, tmps := a.tmps, params := ps, assign, body, defers := w.heap.size } := ⟨_, rfl⟩
  obtain ⟨W1, hW1⟩ : ∃ W1, (w.alloc (.deferred (some []))).alloc (.loop (rec .ready none)) = W1 := ⟨_, rfl⟩
  have hL1 : W1.heap[w.heap.size + 1]? = some (.loop (rec .ready none)) := by
    rw [← hW1]; have := World.alloc_heap_new (w.alloc (.deferred (some []))) (.loop (rec .ready none)); rwa [World.size_alloc] at this
  have hD1 : W1.heap[w.heap.size]? = some (.deferred (some [])) := by
    rw [← hW1]; exact (Below.heap_alloc _ _ _ (by simp)).trans (World.alloc_heap_new w _)
  have hFr1 : Fr No w W1 := by rw [← hW1]; exact ((Fr.refl _ _).alloc _).alloc _
  have hI1 : I [] W1 A0 := by rw [← hW1]; exact (hI A0).alloc _ ((hI A0).alloc _ h0)
  have hS1 : St W1 A0 := hS0 W1 hFr1 (by rw [← hW1]; simp)
  have hput : ∀ (W : World) (A : Nat → Prop) (o : Obj), St W A → St (W.putObj (w.heap.size + 1) o) A := fun W A o h =>
    hSF _ _ _ _ h (fr_grown (grownBy_putObj' W (w.heap.size + 1) o)) (fun k e => by right; injection e with e; exact e.symm)
  refine ⟨w.heap.size + 1, [{ target := .collected w.heap.size, args := #[] }], W1, { target := .fn (.func gf) lb, args := #[.func (.yield (w.heap.size + 1)) #[] #[]] }, W1, gf,
    #[.func (.yield (w.heap.size + 1)) #[] #[]] ++ lb, W1, ?_, ?_, ?_, ?_, hdep, ?_⟩
  · rw [← hW1, hrec]; exact run_enterLoop_outer _ _ _ _ _
  · simp only [resolve, hg]
    simp [go_sem]
  · intro f' hf'; exact hF.fn f'
  · simp [invoke, go_sem, eg]
  · have key := hseq (w.heap.size + 1)
      (fun pre W A => I pre W A ∧ W.heap[w.heap.size + 1]? = some (.loop (rec .ready none)) ∧ W.heap[w.heap.size]? = some (.deferred (some [])))
      (fun W => ∃ A, I ys W A ∧ St W A ∧ W.heap[w.heap.size + 1]? = some (.loop (rec .ready none)) ∧ W.heap[w.heap.size]? = some (.deferred (some [])))
      W1 A0 hS1
      (fun s X Y A A' hs hj hf hg => ⟨hIA _ _ _ _ _ hs hj.1 hf hg, hf.heap hj.2.1 (hSL _ _ hs).2, hf.heap hj.2.2 (hSL _ _ hs).1⟩)
      ?_ (fun W' A' h hs => ⟨A', h.1, hs, h.2⟩) ⟨hI1, hL1, hD1⟩
    · refine key.mono ?_
      rintro e W2 ⟨⟨v, rfl⟩, A2, hi, hs, hl, hk⟩
      exact ⟨none, _, by have := run_endLoop (P := P) hl (by rw [hrec]; simp); rw [hrec] at this; exact this, hdone _ _ A2 rfl ⟨(hI A2).putObj _ hi (by omega) hl rfl, hput _ _ _ hs⟩ ((World.putObj_heap_other (by omega)).trans hk)⟩
    · -- one round
      rintro pre x vs W A hpx ⟨hi, hl, hk⟩ hs henc
      have hy := run_yield (P := P) (args := vs) hl (by rw [hrec]; exact hps x W A vs henc)
      rw [hrec] at hy
      refine ⟨fn, _, assign, body, hy, roundIn_of_wpIn hfn (wpIn_mono (hround _ pre x vs W A (by omega) ⟨_, hl⟩ hpx hi hs henc) ?_)⟩
      clear hy
      rintro e a' Wa hq
      cases e with
      | normal =>
        obtain ⟨hkfa, hia, hsa, hbody⟩ := hq
        replace hl := hkfa.same _ _ (by omega) hl rfl
        replace hk := hkfa.same _ _ (Nat.le_refl _) hk rfl
        have hlt : w.heap.size + 1 < Wa.heap.size := (Array.getElem?_eq_some_iff.1 hl).1
        refine ⟨_, run_beginRound hl (by rw [hrec]), ?_⟩
        have hl2 : (Wa.putObj (w.heap.size + 1) (.loop { rec .ready none with state := .busy })).heap[w.heap.size + 1]? = some (.loop { rec .ready none with state := .busy }) := World.putObj_heap_same hlt
        have hk2 : (Wa.putObj (w.heap.size + 1) (.loop { rec .ready none with state := .busy })).heap[w.heap.size]? = some (.deferred (some [])) := (World.putObj_heap_other (by omega)).trans hk
        refine wpIn_mono (hbody _ (grownBy_putObj' _ _ _) ⟨_, hl2⟩ ((hI A).putObj _ hia (by omega) hl rfl) (hput _ _ _ hsa)) ?_
        rintro e a3 W3 ⟨rfl, hk3, A3, hs3, hi3⟩
        have hl3 := hk3.same _ _ (by omega) hl2 rfl
        have hr := run_endRound (P := P) none hl3
        rw [hrec] at hr hl3
        have hl4 : (W3.putObj (w.heap.size + 1) (.loop (rec (if (none : Option Code).isNone then .ready else .done) none))).heap[w.heap.size + 1]? = some (.loop (rec (if (none : Option Code).isNone then .ready else .done) none)) := World.putObj_heap_same (Array.getElem?_eq_some_iff.1 hl3).1
        have hk4 : (W3.putObj (w.heap.size + 1) (.loop (rec (if (none : Option Code).isNone then .ready else .done) none))).heap[w.heap.size]? = some (.deferred (some [])) := (World.putObj_heap_other (by omega)).trans (hk3.same _ _ (Nat.le_refl _) hk2 rfl)
        rw [hrec] at hl4 hk4
        refine ⟨_, _, hr, .inl ⟨rfl, A3, ⟨(hI A3).putObj _ hi3 (by omega) hl3 rfl, ?_, ?_⟩, hput _ _ _ hs3⟩⟩
        · rw [hrec]; exact hl4
        · exact hk4
      | ret => exact hq.elim
      | exit id => exact hq.elim
      | goto t => exact hq.elim
      | panic ch => exact hq.elim
      | outgrown => exact hq.elim
end Go.Proofs.YtoajnmbbgbpbgaaGreat
