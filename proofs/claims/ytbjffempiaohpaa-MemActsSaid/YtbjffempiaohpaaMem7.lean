/-
  The memory of chapter 9: made of bytes, the program's and the reference's.
-/
import Derived.Test.YtbjffempiaohpaaMem6
namespace Go.Proofs.Ytbjffempiaohpaa
set_option linter.unusedVariables false
set_option linter.unusedSimpArgs false
open Go.RowKit Go.Shelf Go.Maps

/-- The bytes of a memory that is made of bytes. -/
def flatF (l : List Int) : List Int := spl (zs 8192) 0 (l.take 8192)
theorem flatF_length (l : List Int) : (flatF l).length = 8192 := by
  rw [flatF, spl_length _ _ _ (by rw [zs_length, List.length_take]; omega), zs_length]
theorem spl_range (l m : List Int) (o : Nat) (h1 : ∀ b ∈ l, 0 ≤ b ∧ b < 256) (h2 : ∀ b ∈ m, 0 ≤ b ∧ b < 256) : ∀ b ∈ spl l o m, 0 ≤ b ∧ b < 256 := fun b hb => by
  simp only [spl, List.mem_append] at hb
  rcases hb with (h | h) | h
  · exact h1 b (List.mem_of_mem_take h)
  · exact h2 b h
  · exact h1 b (List.mem_of_mem_drop h)
theorem flatF_range (l : List Int) (h : ∀ b ∈ l, 0 ≤ b ∧ b < 256) : ∀ b ∈ flatF l, 0 ≤ b ∧ b < 256 :=
  spl_range _ _ _ (zs_rng _) (fun b hb => h b (List.mem_of_mem_take hb))

theorem miss_none : miss (fun _ => none) = 128 := (congrArg List.length (List.filter_eq_self.2 (fun a _ => rfl))).trans List.length_range
theorem MemIn.fresh {w : World} {mb fb pm : Nat} {F : List Int} (hbox : w.heap[mb]? = some (.cells #[.pointer none, .map (some pm), .slice (some ⟨fb, 0, none⟩) 8192 8192] 65 (0, 0))) (hF : Row w fb 5 F) (hl : F.length = 8192) (hr : ∀ b ∈ F, 0 ≤ b ∧ b < 256)
    (hm : w.ownsMap Try.prog 3 heldR pm 0 (.map [])) : MemIn w mb fb pm 0 (.map []) (fun _ => none) (fun j => j = fb ∨ j = pm ∨ j = mb) F F where
  box := hbox
  first := hF
  flen := hl
  blen := hl
  frange := hr
  brange := hr
  map := hm
  cnt := by rw [miss_none]; omega
  has := fun p hp => rfl
  only := fun kl h => by cases h
  get := fun p b hp hb => by cases hb
  held := fun p b hp hb => by cases hb
  none_ := fun p hp hb => rfl
  inj := fun p q b hp hq hb _ => by cases hb
  amb := .inr (.inr rfl)
  afb := .inl rfl
  apm := .inr (.inl rfl)
  low := fun j hj => by
    rcases hj with rfl | rfl | rfl
    · exact hF.lt
    · exact hm.lt
    · exact heap_lt hbox

set_option maxHeartbeats 1000000 in
set_option maxRecDepth 1000000 in
theorem flat_calls (v : Value) (l : List Int) (w : World) (h0 : ∀ b ∈ l, 0 ≤ b ∧ b < 256) (hv : Sl w v l.length (bys l)) :
    Calls Try.prog 16 #[v] w fun e w' => ∃ mb A, e = .returned (.pointer (some ⟨mb, 0, none⟩)) ∧ MemAt w' mb A (flatF l) (flatF l) ∧ Fr No w w' ∧ ∀ j, A j → w.heap.size ≤ j := by
  obtain ⟨a, cap, rfl⟩ := hv.form
  have hmk : ∀ w : World, (Instr.makeSlice 22 (.int .i64 8192) (.int .i64 8192)).run Try.prog w = .ok (.slice (some ⟨w.heap.size, 0, none⟩) 8192 8192) (w.alloc (.cells (bys (zs 8192)).toArray 5)) := fun w => mk_bytes w 8192 (by omega)
  have hR0 : Row (w.alloc (.cells (bys (zs 8192)).toArray 5)) w.heap.size 5 (zs 8192) := Row.new _ _ _
  have hF0 : Fr No w (w.alloc (.cells (bys (zs 8192)).toArray 5)) := (Fr.refl _ _).alloc _
  obtain ⟨W2, hR2, hF2, hcp⟩ := hR0.copyAny l a 0 8192 8192 cap (hv.fr0 hF0) (by rw [zs_length]; omega)
  have HR2 := Lib.hid (show Row W2 w.heap.size 5 (flatF l) from hR2)
  have HF2 := Lib.hid (show Fr No w W2 from hF0.trans' hF2 (fun i hi e => by omega))
  have HL := Lib.hid (flatF_length l)
  have HRG := Lib.hid (flatF_range l h0)
  have hmm := @run_makeMap Try.prog
  clear hR0 hF0 hR2 hF2 h0 hv
  generalize (bys (zs 8192)).toArray = cs at *
  generalize flatF l = F at *
  go_enter Try.func16, Try.ntmps16
  go_wp2
  have hM0 := World.ownsMap_made W2 Try.prog 3 heldR
  have hF3 : Fr No W2 ((W2.alloc (Obj.map #[] 0)).alloc (Obj.cells #[.pointer none, .map (some W2.heap.size), .slice (some ⟨w.heap.size, 0, none⟩) 8192 8192] 65)) := ((Fr.refl _ _).alloc _).alloc _
  have hbx := heap_new (W2.alloc (Obj.map #[] 0)) (Obj.cells #[.pointer none, .map (some W2.heap.size), .slice (some ⟨w.heap.size, 0, none⟩) 8192 8192] 65)
  rw [show (W2.alloc (Obj.map #[] 0)).heap.size = W2.heap.size + 1 by simp] at hbx
  have hsz := HF2.out.size
  go_ret
  exact ⟨_, _, rfl, ⟨_, _, _, _, _, MemIn.fresh hbx (HR2.out.fr hF3 (fun h => h)) HL.out HRG.out (hM0.alloc _)⟩, HF2.out.trans hF3, fun j hj => by
    rcases hj with rfl | rfl | rfl <;> omega⟩

/-- The reference's memory: its box rb, the block g of its bytes, the block gw of what they were. -/
def RefAt (w : World) (rb : Nat) (R : Nat → Prop) (F B : List Int) : Prop :=
  ∃ g cap gw, w.heap[rb]? = some (.cells #[.slice (some ⟨g, 0, none⟩) 8192 cap, .slice (some ⟨gw, 0, none⟩) 8192 8192, .bool false] 46 (0, 0)) ∧
    w.ownsRow 0 5 1 (.slice (some ⟨g, 0, none⟩) 8192 cap) 8192 (bys B) ∧ Row w gw 5 F ∧ g ≠ gw ∧ R rb ∧ R g ∧ R gw ∧ (∀ j, R j → j < w.heap.size) ∧ B.length = 8192 ∧ (∀ b ∈ B, 0 ≤ b ∧ b < 256)
theorem Row.owns {w : World} {g : Nat} {l : List Int} (h : Row w g 5 l) (n : Nat) (hn : l.length = n) (hm : n ≤ maxLen) : w.ownsRow 0 5 1 (.slice (some ⟨g, 0, none⟩) n n) n (bys l) := by
  subst hn
  exact ⟨by rw [bys_len, Nat.mul_one], .inr ⟨g, l.length, (bys l).toArray, rfl, Nat.zero_le _, h, Nat.le_refl _, hm, by simp [bys], by rw [Nat.mul_one]; exact List.take_of_length_le (by simp [bys])⟩⟩

set_option maxHeartbeats 1000000 in
set_option maxRecDepth 1000000 in
theorem rflat_calls (v : Value) (l : List Int) (w : World) (h0 : ∀ b ∈ l, 0 ≤ b ∧ b < 256) (hv : Sl w v l.length (bys l)) :
    Calls Try.prog 17 #[v] w fun e w' => ∃ rb R, e = .returned (.pointer (some ⟨rb, 0, none⟩)) ∧ RefAt w' rb R (flatF l) (flatF l) ∧ Fr No w w' ∧ ∀ j, R j → w.heap.size ≤ j := by
  obtain ⟨a, cap, rfl⟩ := hv.form
  have hmk : ∀ w : World, (Instr.makeSlice 22 (.int .i64 8192) (.int .i64 8192)).run Try.prog w = .ok (.slice (some ⟨w.heap.size, 0, none⟩) 8192 8192) (w.alloc (.cells (bys (zs 8192)).toArray 5)) := fun w => mk_bytes w 8192 (by omega)
  have HV := Lib.hid (fun w1 (h : Fr No w w1) => hv.fr0 h)
  have HRG := Lib.hid (flatF_range l h0)
  obtain ⟨cs, hcs⟩ : ∃ cs, (bys (zs 8192)).toArray = cs := ⟨_, rfl⟩
  rw [hcs] at hmk
  have HCS := Lib.hid hcs
  clear h0 hv hcs
  go_enter Try.func17, Try.ntmps17
  go_upto_region 1 with fail
  go_cut [3] (fun s3 wx => ∃ rb g gw : Nat, s3 = .pointer (some ⟨rb, 0, none⟩) ∧ wx.heap[rb]? = some (.cells #[.slice (some ⟨g, 0, none⟩) 8192 8192, .slice (some ⟨gw, 0, none⟩) 8192 8192, .bool false] 46 (0, 0)) ∧
    wx.heap[g]? = some (.cells cs 5 (0, 0)) ∧ wx.heap[gw]? = some (.cells cs 5 (0, 0)) ∧ g ≠ gw ∧ w.heap.size ≤ rb ∧ w.heap.size ≤ g ∧ w.heap.size ≤ gw ∧ Fr No w wx)
  case first =>
    have e1 : (w.alloc (Obj.cells cs 5)).heap.size = w.heap.size + 1 := by simp
    have e2 : ((w.alloc (Obj.cells cs 5)).alloc (Obj.cells cs 5)).heap.size = w.heap.size + 1 + 1 := by simp
    have X1 := Lib.hid (fun o3 => heap_alloc o3 (heap_alloc (Obj.cells cs 5) (heap_new w (Obj.cells cs 5))))
    have X2 := fun o3 => heap_alloc o3 (heap_new (w.alloc (Obj.cells cs 5)) (Obj.cells cs 5))
    have X3 := fun o3 => heap_new ((w.alloc (Obj.cells cs 5)).alloc (Obj.cells cs 5)) o3
    simp only [e1] at X2
    simp only [e2] at X3
    have X2' := Lib.hid X2
    have X3' := Lib.hid X3
    clear X2 X3 e1 e2
    go_region
    all_goals (go_wp2_with fail; go_meet; first
      | exact ⟨_, w.heap.size, w.heap.size + 1, rfl, X3'.out _, X1.out _, X2'.out _, by omega, by omega, by omega, by omega, ((((Fr.refl No w).alloc _).alloc _).alloc _).drew⟩
      | exact ⟨_, w.heap.size + 1, w.heap.size, rfl, X3'.out _, X2'.out _, X1.out _, by omega, by omega, by omega, by omega, ((((Fr.refl No w).alloc _).alloc _).alloc _).drew⟩
      | fail "shape")
  case rest =>
  obtain ⟨rb, g, gw, rfl, hb, hg, hgw, hne, l1, l2, l3, hF⟩ := hcut
  have n1 : rb ≠ g := fun e => by subst e; exact absurd (heap_ty hb hg) (by decide)
  have n2 : rb ≠ gw := fun e => by subst e; exact absurd (heap_ty hb hgw) (by decide)
  have hRg : Row wc g 5 (zs 8192) := by rw [Row, HCS.out]; exact hg
  have hRw : Row wc gw 5 (zs 8192) := by rw [Row, HCS.out]; exact hgw
  obtain ⟨W2, hR2, hF2, hcp2⟩ := hRg.copyAny l a 0 8192 8192 cap (HV.out _ hF) (by rw [zs_length]; omega)
  have hF02 : Fr No w W2 := hF.trans' hF2 (fun i hi e => by omega)
  obtain ⟨W3, hR3, hF3, hcp3⟩ := (hRw.fr hF2 (fun e => hne e.symm)).copyAny l a 0 8192 8192 cap (HV.out _ hF02) (by rw [zs_length]; omega)
  have hF03 : Fr No w W3 := hF02.trans' hF3 (fun i hi e => by omega)
  have c0 := heap_cell (o := 0) hb rfl
  have c1 := hF2.cell (heap_cell (o := 1) hb rfl) n1
  have hb3 := Lib.hid (hF3.heap (hF2.heap hb n1) n2)
  have HR2 := Lib.hid (show Row W3 g 5 (flatF l) from hR2.fr hF3 hne)
  have HR3 := Lib.hid (show Row W3 gw 5 (flatF l) from hR3)
  have hmx : 8192 ≤ maxLen := by unfold maxLen; omega
  have HMX := Lib.hid hmx
  have HFL := Lib.hid (flatF_length l)
  clear hRg hRw hR2 hR3 hF2 hF3 hb hg hgw hmk HCS HV hF hF02 hmx
  generalize (l.take 8192).length = m at *
  go_wp2
  go_ret
  exact ⟨rb, fun j => j = rb ∨ j = g ∨ j = gw, rfl, ⟨g, 8192, gw, hb3.out, HR2.out.owns 8192 HFL.out HMX.out, HR3.out, hne, .inl rfl, .inr (.inl rfl), .inr (.inr rfl), fun j hj => by
    rcases hj with rfl | rfl | rfl
    · exact heap_lt hb3.out
    · exact HR2.out.lt
    · exact HR3.out.lt, HFL.out, HRG.out⟩, hF03, fun j hj => by
    rcases hj with rfl | rfl | rfl <;> assumption⟩
end Go.Proofs.Ytbjffempiaohpaa
