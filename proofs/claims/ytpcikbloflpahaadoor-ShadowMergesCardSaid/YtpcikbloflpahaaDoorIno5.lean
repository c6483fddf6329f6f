/-
  Bytes alike.
-/
import Derived.Test.YtpcikbloflpahaaDoorRow
import Derived.Laws.BytesString
import Derived.Laws.BytesArg
namespace Go.Proofs.YtpcikbloflpahaaDoor
set_option linter.unusedVariables false
set_option linter.unusedSimpArgs false
open Go.RowKit Go.Shelf

theorem conv_sl {w : World} {a : Option Addr} {cap : Nat} {l : List Int} (hv : Sl w (.slice a l.length cap) l.length (bys l)) : (convert 30 9 (.slice a l.length cap)).run Tryd.prog w = .ok (.string (strOfNums l)) w := by
  cases l with
  | nil =>
    cases a with
    | none => exact run_convert_bytes_nil w 30 5 Tryd.underlying30 Tryd.underlying5 0 cap 9 Tryd.underlying9
    | some a =>
      rw [List.length_nil, run_convert_bytes_string w 30 9 5 (some a) 0 cap Tryd.underlying30 Tryd.underlying5 Tryd.underlying9,
        run_bytesToString w a 0 cap [] (by have := run_loadCells_list (P := Tryd.prog) w a [] (fun j v h => by simp at h); simpa using this)]
      rfl
  | cons x l =>
    obtain ⟨b, off, rfl, hb, hc⟩ := hv.at (by simp [bys])
    refine run_convert_bytes_arg w 30 5 Tryd.underlying30 Tryd.underlying5 b off _ cap (x :: l) rfl (fun i hi => ?_) 9 Tryd.underlying9
    rw [hc i _ (bys_get _ i hi)]
    simp [List.getD, List.getElem?_eq_getElem hi]
theorem strOfNums_inj {l m : List Int} (hlr : ∀ b ∈ l, 0 ≤ b ∧ b < 256) (hmr : ∀ b ∈ m, 0 ≤ b ∧ b < 256) (h : strOfNums l = strOfNums m) : l = m := by
  have h1 : (strOfNums l).data.toList = (strOfNums m).data.toList := by rw [h]
  rw [strOfNums_data, strOfNums_data] at h1
  clear h
  induction l generalizing m with
  | nil => cases m with
    | nil => rfl
    | cons y m => simp at h1
  | cons x l ih =>
    cases m with
    | nil => simp at h1
    | cons y m =>
      simp only [List.map_cons, List.cons.injEq] at h1
      have hx := hlr x (by simp); have hy := hmr y (by simp)
      have h2 := congrArg UInt8.toNat h1.1
      simp only [UInt8.toNat_ofNat'] at h2
      rw [ih (fun b hb => hlr b (by simp [hb])) (fun b hb => hmr b (by simp [hb])) h1.2]
      congr 1
      omega

end Go.Proofs.YtpcikbloflpahaaDoor
