/-
  What arguments read as, opened: the calls of chapter 13. (Printed by wip/tools/hd20.py.)
-/
import Derived.Test.YtoajnmbbgbpbgaaGreatZD
namespace Go.Proofs.YtoajnmbbgbpbgaaGreat
set_option linter.unusedVariables false
set_option linter.unusedSimpArgs false
open Go.RowKit Go.Deep Go.ChangeShapes Go.WideShapes

theorem wf13_i64 {n : Int} (h : (Lit.int .i64 n).wf = true) : -9223372036854775808 ≤ n ∧ n ≤ 9223372036854775807 := by
  simp only [Lit.wf, Bool.and_eq_true, decide_eq_true_eq] at h
  exact ⟨h.1, h.2⟩

section
variable {H : Type} {enc : TypeId × Value → H} {P : Program} {W : World} {base : Nat} {spare : Nat → Bool} {held : Bool}

/-- A call of chapter 13: what is done, two names, a handle, a number, bytes. -/
abbrev ActH := Int × ByteArray × ByteArray × Int × Int × Option Addr × Nat × Nat
def actHCell (y : ActH) : List Value := [.int .i64 y.1, .string y.2.1, .string y.2.2.1, .int .i64 y.2.2.2.1, .int .i64 y.2.2.2.2.1, .slice y.2.2.2.2.2.1 y.2.2.2.2.2.2.1 y.2.2.2.2.2.2.2]
def actHOk (W : World) (y : ActH) : Prop := (Lit.int .i64 y.1).wf = true ∧ y.2.1.size ≤ reachBytes ∧ y.2.2.1.size ≤ reachBytes ∧ (Lit.int .i64 y.2.2.2.2.1).wf = true ∧
  ∃ xs : List Int, Sl W (.slice y.2.2.2.2.2.1 y.2.2.2.2.2.2.1 y.2.2.2.2.2.2.2) xs.length (bys xs) ∧ xs.length ≤ reachBytes ∧ ∀ b ∈ xs, 0 ≤ b ∧ b < 256
theorem open_actsH {t e tb tu : TypeId} {f0 f1 f2 f3 f4 f5 : Field} {fuel : Nat} {v : Value} {x : DataW H × List MemPlace} (ht : P.underlying t = some (.slice e)) (he : P.underlying e = some (.struct #[f0, f1, f2, f3, f4, f5])) (hc : P.cellsOf e = 6)
    (ho : #[f0, f1, f2, f3, f4, f5].map (·.offset) = #[0, 1, 2, 3, 4, 5]) (hcs : #[f0, f1, f2, f3, f4, f5].map (fun f => P.cellsOf f.type) = #[1, 1, 1, 1, 1, 1])
    (hu : #[f0, f1, f2, f3, f4, f5].map (fun f => P.underlying f.type) = #[some (.int .i64), some .string, some .string, some (.int .i64), some (.int .i64), some (.slice tu)])
    (ub : P.underlying tu = some (.int .u8)) (cb : P.cellsOf tu = 1) (bb : P.bytesOf tu = 1)
    (h : DataW.trod enc P W base spare held fuel t [v] = some x) (hw : Light P t x.1) : ∃ L : List ActH, Sl W v L.length (L.flatMap actHCell) ∧ L.length ≤ maxLen ∧ ∀ y ∈ L, actHOk W y := by
  obtain ⟨L, h1, -, h2, h3⟩ := sl_open_w (sz := 6) actHCell (actHOk W) ht hc (by decide) (fun _ => rfl) (fun n cs z hl hf hz => by
    obtain ⟨xs, m, -, hze, -, hxl, hall⟩ := DataW.trod_struct he hf
    match cs, hl with
    | [y0, y1, y2, y3, y4, y5], _ =>
      match xs, hxl with
      | [z0, z1, z2, z3, z4, z5], _ =>
        subst hze
        have a0 := hall 0 f0 rfl
        have a1 := hall 1 f1 rfl
        have a2 := hall 2 f2 rfl
        have a3 := hall 3 f3 rfl
        have a4 := hall 4 f4 rfl
        have a5 := hall 5 f5 rfl
        simp at ho hcs hu
        obtain ⟨o0, o1, o2, o3, o4, o5⟩ := ho
        obtain ⟨c0, c1, c2, c3, c4, c5⟩ := hcs
        obtain ⟨u0, u1, u2, u3, u4, u5⟩ := hu
        rw [o0, c0] at a0
        rw [o1, c1] at a1
        rw [o2, c2] at a2
        rw [o3, c3] at a3
        rw [o4, c4] at a4
        rw [o5, c5] at a5
        simp at a0 a1 a2 a3 a4 a5
        obtain ⟨k0, g0, -, w0⟩ := DataW.trod_int u0 a0
        obtain ⟨s1, g1, e1, -⟩ := DataW.trod_string u1 a1
        obtain ⟨s2, g2, e2, -⟩ := DataW.trod_string u2 a2
        obtain ⟨k3, g3, -, w3⟩ := DataW.trod_int u3 a3
        obtain ⟨k4, g4, -, w4⟩ := DataW.trod_int u4 a4
        simp at g0 g1 g2 g3 g4
        subst g0; subst g1; subst g2; subst g3; subst g4
        have l1 := hz.part he (j := 1) rfl rfl
        have l2 := hz.part he (j := 2) rfl rfl
        have l6 := hz.part he (j := 5) rfl rfl
        rw [e1] at l1
        rw [e2] at l2
        obtain ⟨bs, hs, hb1, hb2⟩ := sl_open_bytes_w u5 ub cb bb a5 l6
        obtain ⟨au, cu, e, hs'⟩ := id hs
        subst e
        exact ⟨(k0, s1, s2, k3, k4, au, bs.length, cu), rfl, w0, l1.str, l2.str, w4, bs, hs, hb1, hb2⟩) h hw
  exact ⟨L, h1, h2, h3⟩
end
end Go.Proofs.YtoajnmbbgbpbgaaGreat
