/-
  What arguments read as, opened: the changes of chapter 7.
-/
import Derived.Test.YtpcikbloflpahaaDoorOpen6
import Derived.Test.YtpcikbloflpahaaDoorSh1
namespace Go.Proofs.YtpcikbloflpahaaDoor
set_option linter.unusedVariables false
set_option linter.unusedSimpArgs false
open Go.RowKit Go.Deep Go.ChangeShapes Go.WideShapes

section
variable {H : Type} {enc : TypeId × Value → H} {P : Program} {W : World} {base : Nat} {spare : Nat → Bool} {held : Bool}

theorem open_chgs {t e tb : TypeId} {f0 f1 : Field} {fuel : Nat} {v : Value} {x : DataW H × List MemPlace} (ht : P.underlying t = some (.slice e)) (he : P.underlying e = some (.struct #[f0, f1])) (hc : P.cellsOf e = 2) (hbe : P.bytesOf e = 32)
    (ho : #[f0, f1].map (·.offset) = #[0, 1]) (hcs : #[f0, f1].map (fun f => P.cellsOf f.type) = #[1, 1])
    (hu : #[f0, f1].map (fun f => P.underlying f.type) = #[some (.int .i64), some (.slice tb)])
    (ub : P.underlying tb = some (.int .u8)) (cb : P.cellsOf tb = 1) (bb : P.bytesOf tb = 1)
    (h : DataW.trod enc P W base spare held fuel t [v] = some x) (hw : Light P t x.1) : ∃ L : List ChA, Sl W v L.length (L.flatMap chaC) ∧ L.length ≤ 140737488355328 ∧ ∀ y ∈ L, chaOk W y := by
  obtain ⟨L, h1, h2, -, h3⟩ := sl_open_w (sz := 2) chaC (chaOk W) ht hc (by decide) (fun _ => rfl) (fun n cs z hl hf hz => by
    obtain ⟨xs, m, -, hze, -, hxl, hall⟩ := DataW.trod_struct he hf
    match cs, hl with
    | [y0, y1], _ =>
      match xs, hxl with
      | [z0, z1], _ =>
        subst hze
        have a0 := hall 0 f0 rfl
        have a1 := hall 1 f1 rfl
        simp at ho hcs hu
        obtain ⟨o0, o1⟩ := ho
        obtain ⟨c0, c1⟩ := hcs
        obtain ⟨u0, u1⟩ := hu
        rw [o0, c0] at a0
        rw [o1, c1] at a1
        simp at a0 a1
        obtain ⟨k0, g0, -, w0⟩ := DataW.trod_int u0 a0
        simp at g0
        subst g0
        have l1 := hz.part he (j := 1) rfl rfl
        obtain ⟨bs, hs, hb1, hb2⟩ := sl_open_bytes_w u1 ub cb bb a1 l1
        obtain ⟨au, cu, e, hs'⟩ := id hs
        subst e
        exact ⟨(k0, au, cu, bs), rfl, by have := bounds_i64 w0; omega, hs, Nat.le_trans hb1 (by decide), hb2⟩) h hw
  refine ⟨L, h1, ?_, h3⟩
  rw [hbe] at h2
  have : reachBytes = 140737488351232 := rfl
  omega
end
end Go.Proofs.YtpcikbloflpahaaDoor
