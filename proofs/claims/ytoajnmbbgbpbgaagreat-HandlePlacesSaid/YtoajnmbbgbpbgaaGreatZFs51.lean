/-
  Chapter 12, the reference: Write whole.
-/
import Derived.Test.YtoajnmbbgbpbgaaGreatZFs50
namespace Go.Proofs.YtoajnmbbgbpbgaaGreat
set_option linter.unusedVariables false
set_option linter.unusedSimpArgs false
open Go.RowKit Go.Shelf Go.Maps

set_option maxHeartbeats 4000000 in
set_option maxRecDepth 1000000 in
theorem rwrite_no {w : World} {rb : Nat} {R : Nat → Prop} {F B : List Int} (h : RefAt w rb R F B) {L : List Nd} {u k : Nat} (ht : tableF B = some (L, u)) (hk : k < 8) {nm : ByteArray} {sz : Int} {xs : List (Int × Int)} (hx : L.getD k Nd.free = ⟨nm, sz, xs⟩) (hnm : nm ≠ noName)
    (o : Int) (av : Option Addr) (cv n : Nat) (hbad : o < 0 ∨ sz < o) :
    Calls Tryz.prog 74 #[.pointer (some ⟨rb, 0, none⟩), .int .i64 (k : Int), .int .i64 o, .slice av n cv] w (RsP w rb R F B (.int .i64 1)) := by
  have HM := Lib.hid h
  have HND := Lib.hid (rnode_good h ht hk hx hnm)
  have hd : decide (o < 0) = true ∨ (decide (o < 0) = false ∧ decide (sz < o) = true) := by
    by_cases h1 : o < 0
    · exact .inl (decide_eq_true h1)
    · exact .inr ⟨decide_eq_false h1, decide_eq_true (by omega)⟩
  clear hbad h ht hk hx hnm
  rcases hd with d1 | ⟨d1, d2⟩
  all_goals
    go_enter Tryz.func74, Tryz.ntmps74
    go_wp2_with fail
    refine HND.out.mono ?_
    rintro e w1 ⟨a, c, rfl, hF, hs⟩
    clear hs
    go_wp2
    go_ret
    exact ⟨R, rfl, (Rp.refl HM.out).thenFr (hF.alloc _)⟩

set_option maxHeartbeats 4000000 in
set_option maxRecDepth 1000000 in
theorem rwrite_full {w : World} {rb : Nat} {R : Nat → Prop} {F B : List Int} (h : RefAt w rb R F B) {L : List Nd} {u k : Nat} (ht : tableF B = some (L, u)) (hk : k < 8) {nm : ByteArray} {sz : Int} {xs : List (Int × Int)} (hx : L.getD k Nd.free = ⟨nm, sz, xs⟩) (hnm : nm ≠ noName)
    (oo : Nat) (av : Option Addr) (cv n : Nat) (hos : (oo : Int) ≤ sz) (hsz : sz ≤ 1472) (hn : n ≤ 140737488355328) (hg : sz < (oo : Int) + n) (hres : resizeR B k ((oo : Int) + n) = (B, 125)) :
    Calls Tryz.prog 74 #[.pointer (some ⟨rb, 0, none⟩), .int .i64 (k : Int), .int .i64 (oo : Int), .slice av n cv] w (RsP w rb R F B (.int .i64 125)) := by
  have HM := Lib.hid h
  have HND := Lib.hid (rnode_good h ht hk hx hnm)
  obtain ⟨mm, hmm⟩ : ∃ mm : Nat, oo + n = mm := ⟨_, rfl⟩
  have hmI : (oo : Int) + n = (mm : Int) := by omega
  rw [hmI] at hres hg
  have HRZ := Lib.hid (fun w1 (hF : Fr No w w1) => (by
    have := rresize12_calls (h.fr0 hF) (k : Int) (mm : Int)
    rw [hres] at this; exact this))
  have q1 : decide ((oo : Int) < 0) = false := decide_eq_false (by omega)
  have q2 : decide (sz < (oo : Int)) = false := decide_eq_false (by omega)
  have q3 : decide (sz < (mm : Int)) = true := decide_eq_true hg
  have hw0 : IntKind.i64.wrap ((oo : Int) + (n : Int)) = (mm : Int) := by rw [hmI]; exact IntWalk.i64_in _ (by omega)
  clear h ht hk hx hnm hos hsz hg hres hmm hmI hn
  go_enter Tryz.func74, Tryz.ntmps74
  go_wp2_with fail
  refine HND.out.mono ?_
  rintro e w1 ⟨a, c, rfl, hF, hs⟩
  have HF1 := Lib.hid hF
  clear hs hF
  go_upto_region 7 with fail
  have HFa : RowKit.Hid (Fr No w1 (w1.alloc (Obj.cells #[.string nm, .int .i64 sz, .slice a xs.length c] 95))) := Lib.hid ((Fr.refl _ _).alloc _)
  have HF2 := Lib.hid (HF1.out.trans HFa.out)
  go_wp2_with fail
  refine (HRZ.out _ HF2.out).mono ?_
  rintro e w3 ⟨R1, rfl, hp3⟩
  go_wp2
  go_ret
  exact ⟨R1, rfl, Rp.ahead HF2.out hp3⟩

set_option maxHeartbeats 4000000 in
set_option maxRecDepth 1000000 in
theorem rwrite12_calls {w : World} {rb : Nat} {R : Nat → Prop} {F B : List Int} (h : RefAt w rb R F B) (n o : Int) (v : Value) (l : List Int) (hv : Sl w v l.length (bys l)) (hvR : ∀ k, v.ownBlock = some k → l ≠ [] → ¬ R k) (h0 : ∀ b ∈ l, 0 ≤ b ∧ b < 256) (hlen : l.length ≤ 140737488355328) :
    Calls Tryz.prog 74 #[.pointer (some ⟨rb, 0, none⟩), .int .i64 n, .int .i64 o, v] w (RsP w rb R F (writeR B n o l).1 (.int .i64 (writeR B n o l).2)) := by
  have HM := Lib.hid h
  obtain ⟨av, cv, rfl⟩ := hv.form
  rcases open_cases B n with ⟨x, hx, h9⟩ | ⟨hx, L, u, k, ht, hk, rfl, hnm⟩
  · rw [writeR_bad hx h9]
    have HND := Lib.hid (rnode_calls h n)
    have HX := Lib.hid hx
    have q1 : (x != 0) = true := by simp; omega
    have H0 := Lib.hid h9
    clear h hx h9 h0 hv hvR hlen
    generalize l.length = ln at *
    go_enter Tryz.func74, Tryz.ntmps74
    go_wp2_with fail
    refine HND.out.mono ?_
    rintro e w1 ⟨hF, ⟨x', h0', hx', rfl⟩ | ⟨L, u, k, ht, hk, rfl, hE, hnm, a, c, rfl, hs⟩⟩
    · obtain rfl : x = x' := HX.out.symm.trans hx'
      clear h0' hx'
      go_wp2
      go_ret
      exact ⟨R, rfl, (Rp.refl HM.out).thenFr (hF.alloc _)⟩
    · have := HX.out; have := H0.out; omega
  · obtain ⟨nm, sz, xs, hxx⟩ : ∃ nm sz xs, L.getD k Nd.free = ⟨nm, sz, xs⟩ := ⟨_, _, _, rfl⟩
    have hnm' := hnm
    rw [hxx] at hnm'
    obtain ⟨f1, f2, f3, f4, f5, -⟩ := tab_facts ht hk
    rw [writeR_good ht hk hnm]
    rw [hxx] at f2 f3 f4 f5 ⊢
    dsimp only at f2 f3 f4 f5 hnm' ⊢
    by_cases hbad : o < 0 ∨ sz < o
    · rw [if_pos hbad]
      exact rwrite_no h ht hk hxx hnm' o av cv _ hbad
    · rw [if_neg hbad]
      obtain ⟨oo, rfl⟩ := Int.eq_ofNat_of_zero_le (show 0 ≤ o by omega)
      rw [Int.toNat_natCast]
      have hvR' : ∀ k, (Value.slice av l.length cv).ownBlock = some k → bys l ≠ [] → ¬ R k := fun j e hne => hvR j e (by rintro rfl; exact hne rfl)
      by_cases hfit : (oo : Int) + l.length ≤ sz
      · rw [if_pos hfit]
        exact rwrite_fits h ht hk hxx hnm' oo (by omega) f4 av cv l rfl hv hvR' h0 hfit (by rw [f2, needF]; split <;> omega) f5
      · rw [if_neg hfit]
        have hf : ∀ (hres : resizeR B k ((oo : Int) + l.length) = (B, 125)), Calls Tryz.prog 74 #[.pointer (some ⟨rb, 0, none⟩), .int .i64 (k : Int), .int .i64 (oo : Int), .slice av l.length cv] w (RsP w rb R F B (.int .i64 125)) :=
          fun hres => rwrite_full h ht hk hxx hnm' oo av cv _ (by omega) f4 hlen (by omega) hres
        by_cases hbig : (1472 : Int) < (oo : Int) + l.length
        · rw [if_pos hbig]
          exact hf (by rw [resizeR_good ht hk hnm, if_neg (by omega), if_pos hbig])
        · rw [if_neg hbig]
          cases hr : resizeT ⟨nm, sz, xs⟩ u ((oo : Int) + l.length) with
          | none =>
            dsimp only
            have hr' : resizeT (L.getD k Nd.free) u ((oo : Int) + l.length) = none := by rw [hxx]; exact hr
            exact hf (by rw [resizeR_good ht hk hnm, if_neg (by omega), if_neg hbig, resizeW_none (B := B) hr'])
          | some p =>
            obtain ⟨x1, u1⟩ := p
            dsimp only
            exact rwrite_grows h ht hk hxx hnm' oo (by omega) f4 av cv l rfl hv hvR' h0 (by omega) (by omega) hr
end Go.Proofs.YtoajnmbbgbpbgaaGreat
