/-
  Bytes alike.
-/
import Derived.Test.YtbjffempiaohpaaRow
import Derived.Laws.BytesString
import Derived.Laws.BytesArg
namespace Go.Proofs.Ytbjffempiaohpaa
set_option linter.unusedVariables false
set_option linter.unusedSimpArgs false
open Go.RowKit Go.Shelf

theorem conv_sl {w : World} {a : Option Addr} {cap : Nat} {l : List Int} (hv : Sl w (.slice a l.length cap) l.length (bys l)) : (convert 22 9 (.slice a l.length cap)).run Try.prog w = .ok (.string (strOfNums l)) w := by
  cases l with
  | nil =>
    cases a with
    | none => exact run_convert_bytes_nil w 22 5 Try.underlying22 Try.underlying5 0 cap 9 Try.underlying9
    | some a =>
      rw [List.length_nil, run_convert_bytes_string w 22 9 5 (some a) 0 cap Try.underlying22 Try.underlying5 Try.underlying9,
        run_bytesToString w a 0 cap [] (by have := run_loadCells_list (P := Try.prog) w a [] (fun j v h => by simp at h); simpa using this)]
      rfl
  | cons x l =>
    obtain ⟨b, off, rfl, hb, hc⟩ := hv.at (by simp [bys])
    refine run_convert_bytes_arg w 22 5 Try.underlying22 Try.underlying5 b off _ cap (x :: l) rfl (fun i hi => ?_) 9 Try.underlying9
    rw [hc i _ (bys_get _ i hi)]
    simp [List.getD, List.getElem?_eq_getElem hi]
theorem strOfNums_inj {l m : List Int} (hlr : ∀ b ∈ l, 0 ≤ b ∧ b < 256) (hmr : ∀ b ∈ m, 0 ≤ b ∧ b < 256) (h : strOfNums l = strOfNums m) : l = m := by
  have h1 : (strOfNums l).data.toList = (strOfNums m).data.toList := by rw [h]
  rw [strOfNums_data, strOfNums_data] at h1
  clear h
  induction l generalizing m with
  | nil => cases m with
    | nil => rfl
    | cons y m => simp at h1
  | cons x l ih =>
    cases m with
    | nil => simp at h1
    | cons y m =>
      simp only [List.map_cons, List.cons.injEq] at h1
      have hx := hlr x (by simp); have hy := hmr y (by simp)
      have h2 := congrArg UInt8.toNat h1.1
      simp only [UInt8.toNat_ofNat'] at h2
      rw [ih (fun b hb => hlr b (by simp [hb])) (fun b hb => hmr b (by simp [hb])) h1.2]
      congr 1
      omega

set_option maxRecDepth 1000000 in
theorem same01_calls (va vb : Value) (l m : List Int) (w : World) (hlr : ∀ b ∈ l, 0 ≤ b ∧ b < 256) (hmr : ∀ b ∈ m, 0 ≤ b ∧ b < 256) (hva : Sl w va l.length (bys l)) (hvb : Sl w vb m.length (bys m)) :
    Calls Try.prog 14 #[va, vb] w fun e w' => e = .returned (.bool (decide (l = m))) ∧ w = w' := by
  obtain ⟨a, cap, rfl⟩ := hva.form
  obtain ⟨b, cap', rfl⟩ := hvb.form
  have h1 := conv_sl hva
  have h2 := conv_sl hvb
  have hin : strOfNums l = strOfNums m ↔ l = m := ⟨strOfNums_inj hlr hmr, fun h => by rw [h]⟩
  clear hva hvb
  by_cases h : l = m
  · subst h
    go_enter Try.func14, Try.ntmps14
    go_wp2
    go_ret
    refine ⟨?_, rfl⟩
    simp
  · have h3 : ¬ strOfNums l = strOfNums m := fun e => h (hin.1 e)
    clear hin
    generalize strOfNums l = x at *
    generalize strOfNums m = y at *
    go_enter Try.func14, Try.ntmps14
    go_wp2
    go_ret
    refine ⟨?_, rfl⟩
    simp [h]
    rw [ByteArray.toList_eq, ByteArray.toList_eq]
    exact fun e => h3 (ByteArray.ext (Array.toList_inj.1 e))

set_option maxRecDepth 1000000 in
theorem equal_calls (va vb : Value) (l m : List Int) (w : World) (hlr : ∀ b ∈ l, 0 ≤ b ∧ b < 256) (hmr : ∀ b ∈ m, 0 ≤ b ∧ b < 256) (hva : Sl w va l.length (bys l)) (hvb : Sl w vb m.length (bys m)) :
    Calls Try.prog 40 #[va, vb] w fun e w' => e = .returned (.bool (decide (l = m))) ∧ w = w' := by
  obtain ⟨a, cap, rfl⟩ := hva.form
  obtain ⟨b, cap', rfl⟩ := hvb.form
  have h1 := conv_sl hva
  have h2 := conv_sl hvb
  have hin : strOfNums l = strOfNums m ↔ l = m := ⟨strOfNums_inj hlr hmr, fun h => by rw [h]⟩
  clear hva hvb
  by_cases h : l = m
  · subst h
    go_enter Try.func40, Try.ntmps40
    go_wp2
    go_ret
    refine ⟨?_, rfl⟩
    simp
  · have h3 : ¬ strOfNums l = strOfNums m := fun e => h (hin.1 e)
    clear hin
    generalize strOfNums l = x at *
    generalize strOfNums m = y at *
    go_enter Try.func40, Try.ntmps40
    go_wp2
    go_ret
    refine ⟨?_, rfl⟩
    simp [h]
    rw [ByteArray.toList_eq, ByteArray.toList_eq]
    exact fun e => h3 (ByteArray.ext (Array.toList_inj.1 e))
end Go.Proofs.Ytbjffempiaohpaa
