/-
  Rows of bytes that lie in a block of their own (an array, or a slice's): read, stored into, copied into.
-/
import Derived.Test.YtpcikbloflpahaaDoorLe4
import Derived.Lib.BufferWrite
import Derived.Laws.CopyRow
import Derived.Laws.MakeOwn
namespace Go.Proofs.YtpcikbloflpahaaDoor
set_option linter.unusedVariables false
set_option linter.unusedSimpArgs false
open Go.RowKit Go.Shelf

/-- Block b holds the bytes l. -/
def Row (w : World) (b : Nat) (t : TypeId) (l : List Int) : Prop := w.heap[b]? = some (.cells (bys l).toArray t (0, 0))
theorem Row.new (w : World) (t : TypeId) (l : List Int) : Row (w.alloc (.cells (bys l).toArray t)) w.heap.size t l := heap_new _ _
theorem Row.cell {w : World} {b : Nat} {t : TypeId} {l : List Int} (h : Row w b t l) {i : Nat} (hi : i < l.length) : w.cell? ⟨b, i, none⟩ = some (.int .u8 l[i]) :=
  heap_cell h (by simpa using bys_get l i hi)
theorem Row.frozen {w : World} {b : Nat} {t : TypeId} {l : List Int} (h : Row w b t l) (i : Nat) : w.frozen? ⟨b, i, none⟩ = false := heap_frozen h
theorem Row.lt {w : World} {b : Nat} {t : TypeId} {l : List Int} (h : Row w b t l) : b < w.heap.size := heap_lt h
theorem Row.fr {S : Nat → Prop} {w w' : World} {b : Nat} {t : TypeId} {l : List Int} (h : Row w b t l) (hf : Fr S w w') (hn : ¬ S b) : Row w' b t l := hf.heap h hn
theorem Row.set {w : World} {b : Nat} {t : TypeId} {l : List Int} (h : Row w b t l) (i : Nat) (x : Int) : Row (w.setCell ⟨b, i, none⟩ (.int .u8 x)) b t (l.set i x) := by
  unfold Row at *
  rw [← bys_set]
  simp [World.setCell, Array.getElem?_modify, h]
theorem Row.sl {w : World} {b : Nat} {t : TypeId} {l : List Int} (h : Row w b t l) : Sl w (.slice (some ⟨b, 0, none⟩) l.length l.length) l.length (bys l) := by
  refine ⟨_, _, rfl, ⟨by simp, Nat.le_refl _⟩, fun _ => ⟨b, 0, rfl⟩, ?_⟩
  rintro b' off j u ⟨rfl, rfl⟩ hj
  rw [Nat.zero_add]
  exact heap_cell h (by simpa using hj)
/-- Bytes laid into a list from place o on. -/
def spl (l : List Int) (o : Nat) (m : List Int) : List Int := l.take o ++ m ++ l.drop (o + m.length)
theorem spl_length (l : List Int) (o : Nat) (m : List Int) (h : o + m.length ≤ l.length) : (spl l o m).length = l.length := by
  simp only [spl, List.length_append, List.length_take, List.length_drop]; omega
theorem bys_spl (l : List Int) (o : Nat) (m : List Int) : bys (spl l o m) = (bys l).take o ++ bys m ++ (bys l).drop (o + m.length) := by
  simp [bys, spl, List.map_take, List.map_drop]
/-- A text's bytes. -/
def bytesOf (s : ByteArray) : List Int := s.data.toList.map fun b => (b.toNat : Int)
theorem bytesOf_length (s : ByteArray) : (bytesOf s).length = s.size := by simp [bytesOf]
theorem bytesOf_cells (s : ByteArray) : Lib.byteCells s.data.toList = bys (bytesOf s) := by simp [Lib.byteCells, bys, bytesOf]
theorem bytesOf_range (s : ByteArray) : ∀ b ∈ bytesOf s, 0 ≤ b ∧ b < 256 := by
  intro b hb; simp only [bytesOf, List.mem_map] at hb; obtain ⟨x, _, rfl⟩ := hb; have := x.toNat_lt; omega
theorem Row.setRow {w : World} {b : Nat} {t : TypeId} {l : List Int} (h : Row w b t l) (m : List Int) : Row (w.setRow b (bys m).toArray) b t m ∧ Fr (fun k => k = b) w (w.setRow b (bys m).toArray) :=
  ⟨setRow_heap w b _ _ t _ h, ⟨rfl, rfl, rfl, by simp [World.setRow], fun k _ hk => setRow_other w b k _ hk⟩⟩
/-- copy(row[o:], s), where there is room. -/
theorem Row.copyStr {w : World} {b : Nat} {t : TypeId} {l : List Int} (h : Row w b t l) (s : ByteArray) (o dLen dCap : Nat) (hle : s.size ≤ dLen) (hfit : o + s.size ≤ l.length) :
    ∃ w', Row w' b t (spl l o (bytesOf s)) ∧ Fr (fun k => k = b) w w' ∧ ∀ ty, (Builtin.copy_ #[30, 9] ty #[.slice (some ⟨b, o, none⟩) dLen dCap, .string s]).run Tryd.prog w = .ok (.int .i64 s.size) w' := by
  obtain ⟨q1, q2⟩ := h.setRow (spl l o (bytesOf s))
  refine ⟨_, q1, q2, fun ty => ?_⟩
  rw [Lib.run_copy_row_string (P := Tryd.prog) w 30 9 ty 5 b o dLen dCap s (bys l).toArray t Tryd.underlying30 (by kernel_rfl) h hle (by simpa [bys] using hfit)]
  rw [bys_spl, bytesOf_cells, bytesOf_length]; rfl
/-- copy(row[o:], v) of bytes that lie elsewhere, where there is room for all. -/
theorem Row.copySl {w : World} {b : Nat} {t : TypeId} {l : List Int} (h : Row w b t l) (m : List Int) (ad : Option Addr) (cap o dLen dCap : Nat) (hm : 0 < m.length) (hv : Sl w (.slice ad m.length cap) m.length (bys m)) (hle : m.length ≤ dLen) (hfit : o + m.length ≤ l.length) :
    ∃ w', Row w' b t (spl l o m) ∧ Fr (fun k => k = b) w w' ∧ ∀ ty, (Builtin.copy_ #[30, 30] ty #[.slice (some ⟨b, o, none⟩) dLen dCap, .slice ad m.length cap]).run Tryd.prog w = .ok (.int .i64 m.length) w' := by
  obtain ⟨q1, q2⟩ := h.setRow (spl l o m)
  obtain ⟨b', off', rfl, hb', hc'⟩ := hv.at (bys_ne m 0 hm)
  refine ⟨_, q1, q2, fun ty => ?_⟩
  rw [run_copy_row (P := Tryd.prog) w 30 30 ty 5 b o dLen dCap ⟨b', off', none⟩ m.length cap (bys l).toArray t (bys m) Tryd.underlying30 (by kernel_rfl) h (by rw [bys_len]; exact (Nat.min_eq_left hle).symm) ?_ (by simpa [bys] using hfit) (bys_one m)]
  · rw [bys_spl, bys_len]; rfl
  · intro j v hj
    have := hc' j v hj
    simp only [Addr.add]
    split
    · next h0 => subst h0; simpa using this
    · exact this
/-- So many noughts. -/
def zs (n : Nat) : List Int := List.replicate n 0
theorem zs_length (n : Nat) : (zs n).length = n := by simp [zs]
theorem made_zs (n : Nat) : madeCells (Value.int .u8 0).cells (n * 1) = (bys (zs n)).toArray := by
  apply Array.toList_inj.1
  have h : ∀ x : Nat, (Value.int .u8 0).cells[x % (Value.int .u8 0).cells.size]! = .int .u8 0 := fun x => by
    show (#[Value.int .u8 0] : Array Value)[x % 1]! = _
    rw [Nat.mod_one]; rfl
  simp [madeCells, bys, zs, h]
  rw [List.map_const']; simp
theorem mk_bytes (w : World) (n : Nat) (hn : n ≤ 281474976710656) :
    (Instr.makeSlice 30 (.int .i64 n) (.int .i64 n)).run Tryd.prog w = .ok (.slice (some ⟨w.heap.size, 0, none⟩) n n) (w.alloc (.cells (bys (zs n)).toArray 5)) := by
  have hE := el_u8
  cases hi : Tryd.prog.info? 5 with
  | none => have := hE.info; rw [hi] at this; simp at this
  | some i =>
    have h := hE.info
    rw [hi] at h
    simp only [Option.map_some, Option.some.injEq, Prod.mk.injEq] at h
    obtain ⟨h1, h2, h3⟩ := h
    have := run_make (P := Tryd.prog) w 30 5 i (.int .u8 0) hE.und hi h1 .i64 .i64 n n (by omega) (by omega) (by rw [h3]; omega) (by omega)
    rw [this, h2]
    simp only [Int.toNat_natCast, made_zs]
end Go.Proofs.YtpcikbloflpahaaDoor
