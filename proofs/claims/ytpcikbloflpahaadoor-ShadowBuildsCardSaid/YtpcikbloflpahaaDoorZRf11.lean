/-
  Chapter 7: the statement ShadowCosts, behind awake.
-/
import Derived.Test.YtpcikbloflpahaaDoorZRf10
import Derived.Test.YtpcikbloflpahaaDoorZSh3
namespace Go.Proofs.YtpcikbloflpahaaDoor
set_option linter.unusedVariables false
set_option linter.unusedSimpArgs false
open Go.RowKit Go.Shelf Go.Maps

theorem costX_one {B : List Int} {N : Nat} {top : Int} {L : List ChA} {n m : Int} (h : CostX B N top L n) (k : CostX B N top L m) : n = m := by
  rcases h with ⟨⟨y, h1, h2⟩, rfl⟩ | ⟨h1, -, rfl⟩
  · rcases k with ⟨-, rfl⟩ | ⟨k1, -, -⟩
    · rfl
    · exact absurd (k1 y h1) h2
  · rcases k with ⟨⟨y, k1, k2⟩, -⟩ | ⟨-, -, rfl⟩
    · exact absurd (h1 y k1) k2
    · rfl
theorem costX_not {B : List Int} {N : Nat} {top : Int} {L : List ChA} {n : Int} (h : CostX B N top L n) (hg : ∀ y ∈ L, goodC y) (ht : ∃ s, treeB B N top = some s) : False := by
  rcases h with ⟨⟨y, h1, h2⟩, -⟩ | ⟨-, h1, -⟩
  · exact h2 (hg y h1)
  · obtain ⟨s, hs⟩ := ht; rw [h1] at hs; cases hs
attribute [local irreducible] treeB costG countR ofB hasT lvT pagesG outG
set_option maxHeartbeats 8000000 in
set_option maxRecDepth 1000000 in
theorem shadowCosts_of (w : World) (HAW : Calls Tryd.prog 8 #[] w fun e w' => e = .returned (.bool true) ∧ Fr No w w') (u v : Value) (b : List Int) (top : Int) (L : List ChA) (hu : Sl w u b.length (bys b)) (hbl : b.length ≤ 140737488355328) (hbr : ∀ x ∈ b, 0 ≤ x ∧ x < 256) (htop : -9223372036854775808 ≤ top ∧ top ≤ 9223372036854775807)
    (hv : Sl w v L.length (L.flatMap chaC)) (hok : ∀ y ∈ L, chaOk w y) (hlen : L.length ≤ 140737488355328) :
    Calls Tryd.prog 4 #[u, .int .i64 top, v] w fun e w' => e = .returned (.bool true) ∧ Fr No w w' := by
  have C3 := Lib.hid (fun w1 (h : Fr No w w1) => few07_calls u v b L w1 hlen (hu.fr0 h) (hv.fr0 h))
  have hokf : ∀ w1, Fr No w w1 → ∀ y ∈ L, chaOk w1 y := fun w1 h y hy => ⟨(hok y hy).1, (hok y hy).2.1.fr0 h, (hok y hy).2.2⟩
  have CD := Lib.hid (fun w1 (h : Fr No w w1) => dof_calls u b hbl hbr (hu.fr0 h))
  have CR := Lib.hid (fun w1 (h : Fr No w w1) => rof_calls u b hbl hbr (hu.fr0 h))
  have CC := Lib.hid (fun w1 (h : Fr No w w1) db A (hd : DkR w1 db A 0 (manyS b.length) (ofB b)) => scostg_calls hd top htop v L (hv.fr0 h) (hokf w1 h) hlen)
  have CK := Lib.hid (fun w1 (h : Fr No w w1) db (hd : RfR w1 db (manyS b.length) (ofB b)) => rcost_calls hd top htop v L (hv.fr0 h) (hokf w1 h) hlen)
  have HOB := Lib.hid (ofB_range hbr)
  obtain ⟨av, cv, rfl⟩ := hv.form
  obtain ⟨bu, cu, rfl⟩ := hu.form
  have HA := Lib.hid HAW
  clear hv hu hok hokf HAW hbr
  generalize ofB b = B at *
  generalize manyS b.length = N at *
  go_enter Tryd.func4, Tryd.ntmps4
  go_wp2_with fail
  refine HA.out.mono ?_
  rintro e w1 ⟨rfl, hF1⟩
  go_wp2_with fail
  refine (C3.out _ hF1).mono ?_
  rintro e wf ⟨bf, rfl, hFf⟩
  have HF01 := Lib.hid (hF1.trans hFf)
  clear hFf hF1
  cases bf
  · go_wp2
    go_ret
    exact ⟨rfl, HF01.out⟩
  go_wp2_with fail
  refine (CD.out _ HF01.out).mono ?_
  rintro e w2 ⟨db, A, rfl, hD, hF2, hA⟩
  have HF02 := Lib.hid (HF01.out.trans hF2)
  have HD := Lib.hid hD
  clear hF2 hD hA
  go_wp2_with fail
  refine (CC.out _ HF02.out _ _ HD.out).mono ?_
  rintro e w3 ⟨hF3, h3⟩
  have HF03 := Lib.hid (HF02.out.trans hF3)
  clear hF3
  rcases h3 with ⟨hg, ht, rfl⟩ | ⟨n, hx, rfl⟩
  · have HG := Lib.hid (And.intro hg ht)
    clear hg ht
    go_wp2_with fail
    refine (CR.out _ HF03.out).mono ?_
    rintro e w4 ⟨rb, rfl, hR, hF4⟩
    have HF04 := Lib.hid (HF03.out.trans hF4)
    have HR := Lib.hid hR
    clear hF4 hR
    go_wp2_with fail
    refine (CK.out _ HF04.out _ HR.out).mono ?_
    rintro e w5 ⟨hF5, h5⟩
    have HF05 := Lib.hid (HF04.out.trans hF5)
    clear hF5
    rcases h5 with ⟨-, -, rfl⟩ | ⟨n, hx, rfl⟩
    · obtain ⟨s, hs⟩ := HG.out.2
      rw [cost_same HOB.out hs L HG.out.1]
      clear hs
      generalize (countR (hasT B top) (lvT B top) (outG (pagesG L 128)) : Int) = c at *
      go_wp2_with fail
      go_ret
      exact ⟨by simp, HF05.out⟩
    · exact absurd (costX_not hx HG.out.1 HG.out.2) (fun h => h)
  · have HX := Lib.hid hx
    clear hx
    go_wp2_with fail
    refine (CR.out _ HF03.out).mono ?_
    rintro e w4 ⟨rb, rfl, hR, hF4⟩
    have HF04 := Lib.hid (HF03.out.trans hF4)
    have HR := Lib.hid hR
    clear hF4 hR
    go_wp2_with fail
    refine (CK.out _ HF04.out _ HR.out).mono ?_
    rintro e w5 ⟨hF5, h5⟩
    have HF05 := Lib.hid (HF04.out.trans hF5)
    clear hF5
    rcases h5 with ⟨hg, ht, rfl⟩ | ⟨m, hx, rfl⟩
    · exact absurd (costX_not HX.out hg ht) (fun h => h)
    · obtain rfl := costX_one HX.out hx
      clear hx
      go_wp2_with fail
      go_ret
      exact ⟨by simp, HF05.out⟩
end Go.Proofs.YtpcikbloflpahaaDoor
