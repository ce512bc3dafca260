/- Small lemmas over any program: worlds, rows of bytes, strings as lists of bytes. -/
import Derived.WalkKit
import Derived.WalkSpells
import Derived.WalkLawsBesides
import Derived.Outline
import Derived.Below
import Derived.Laws.NewBlocks
import Derived.Laws.BitsAllLaws
import Derived.Laws.Tables
import Derived.Laws.Rows
import Derived.Laws.BytesArg
import Derived.Laws.IdiomStrings
import Derived.Deep.WholeRow
import Derived.Laws.MakeOwn
import Derived.Lib.ConvBytes
namespace Go.Proofs.YtdgfeanjeoendaaDoor
open Go.RowKit
set_option linter.unusedVariables false
theorem hid {p : Prop} (h : p) : Hid p := h
theorem take_snoc (s : ByteArray) (k : Nat) (h : k < s.size) : s.data.toList.take (k + 1) = s.data.toList.take k ++ [s[k]] := by
  rw [List.take_succ_eq_append_getElem (by simpa using h)]; rfl
theorem ret_int {k : IntKind} {a b : Int} (h : a = b) : Ending.returned (.int k a) = .returned (.int k b) := by rw [h]
theorem ret_bool {a b : Bool} (h : a = b) : Ending.returned (.bool a) = .returned (.bool b) := by rw [h]
theorem ret_val {a b : Value} (h : a = b) : Ending.returned a = .returned b := by rw [h]
theorem below_setRow {B : Nat} {a w : World} (h : Below B a w) {g : Nat} (hg : B ≤ g) (cs : Array Value) : Below B a (w.setRow g cs) :=
  h.trans ⟨rfl, rfl, rfl, by simp, fun k hk => setRow_other w g k cs (by omega)⟩
theorem heap_setCell_get (w : World) (t : Addr) (v : Value) (k : Nat) : (w.setCell t v).heap[k]? = if t.block = k then (w.heap[k]?).map (fun | .cells c elem frozen => .cells (if t.spot.isSome then c else c.setIfInBounds t.off v) elem frozen | o => o) else w.heap[k]? := by
  simp only [World.setCell, Array.getElem?_modify]
  rfl
theorem below_setCell_congr {B : Nat} {a b : World} (h : Below B a b) (t : Addr) (v : Value) : Below B (a.setCell t v) (b.setCell t v) :=
  ⟨h.os, h.tape, h.output, by simpa [World.setCell] using h.size, fun k hk => by rw [heap_setCell_get, heap_setCell_get, h.block k hk]⟩
theorem cell_setCell_self (w : World) (t : Addr) (old v : Value) (h : w.cell? t = some old) : (w.setCell t v).cell? t = some v := by
  have hs := h
  simp only [World.cell?] at h ⊢
  rw [heap_setCell_get, if_pos rfl]
  split at h
  · rename_i c e f hc
    rw [hc]
    simp only [Option.map]
    split at h
    · cases h
    · rename_i hsp
      rw [if_neg hsp, if_neg hsp]
      rw [Array.getElem?_setIfInBounds]
      have := (Array.getElem?_eq_some_iff.1 h).1
      simp [this]
  · cases h
/-- a string from the list of its bytes -/
def bs (l : List UInt8) : ByteArray := ⟨l.toArray⟩
theorem bs_data (s : ByteArray) : bs s.data.toList = s := by simp [bs]
@[go_sem] theorem bs_size (l : List UInt8) : (bs l).size = l.length := by simp [bs, ByteArray.size]
@[go_sem] theorem bs_append (a b : List UInt8) : bs a ++ bs b = bs (a ++ b) := by
  apply ByteArray.ext; simp [bs]
@[go_sem] theorem bs_inj (a b : List UInt8) : bs a = bs b ↔ a = b := by
  constructor
  · intro h; simpa [bs] using h
  · intro h; rw [h]
@[go_sem] theorem bs_toList (a : List UInt8) : (bs a).toList = a := by simp [bs, ByteArray.toList_eq]
def byteOf (n : Int) : UInt8 := UInt8.ofNat n.toNat
theorem conv_new {P : Program} (w : World) (src dst e t : TypeId) (hs : P.underlying src = some (.slice e)) (he : P.underlying e = some (.int .u8)) (hd : P.underlying dst = some .string) (xs : List Int) (n c : Nat) (h : xs.length = n) :
    (convert src dst (.slice (some ⟨w.heap.size, 0, none⟩) n c)).run P (w.alloc (.cells (xs.map (Value.int .u8)).toArray t)) = .ok (.string (bs (xs.map byteOf))) (w.alloc (.cells (xs.map (Value.int .u8)).toArray t)) := by
  have := run_convert_bytes_arg (P := P) (w.alloc (.cells (xs.map (Value.int .u8)).toArray t)) src e hs he w.heap.size 0 n c xs h (fun i hi => by
    rw [Nat.zero_add, cell_of_row _ _ _ _ _ _ (heap_alloc_new _ _)]
    simp [List.getD, List.getElem?_eq_getElem (show i < xs.length by omega)]) dst hd
  rw [this]; rfl
section
variable {P : Program} (src dst e t : TypeId) (hs : P.underlying src = some (.slice e)) (he : P.underlying e = some (.int .u8)) (hd : P.underlying dst = some .string)
include hs he hd
theorem conv1 (w : World) (a : Int) :
    (convert src dst (.slice (some ⟨w.heap.size, 0, none⟩) 1 1)).run P (w.alloc (.cells #[.int .u8 a] t)) = .ok (.string (bs [byteOf a])) (w.alloc (.cells #[.int .u8 a] t)) :=
  conv_new w src dst e t hs he hd [a] 1 1 rfl
theorem conv4 (w : World) (a b c d : Int) :
    (convert src dst (.slice (some ⟨w.heap.size, 0, none⟩) 4 4)).run P (w.alloc (.cells #[.int .u8 a, .int .u8 b, .int .u8 c, .int .u8 d] t)) = .ok (.string (bs [byteOf a, byteOf b, byteOf c, byteOf d])) (w.alloc (.cells #[.int .u8 a, .int .u8 b, .int .u8 c, .int .u8 d] t)) :=
  conv_new w src dst e t hs he hd [a, b, c, d] 4 4 rfl
end

/-! ### rows of bytes -/
def bcells (l : List UInt8) : Array Value := (l.map fun b => Value.int .u8 (b.toNat : Int)).toArray
@[go_sem] theorem bcells_size (l : List UInt8) : (bcells l).size = l.length := by simp [bcells]
theorem bcells_get (l : List UInt8) (i : Nat) (h : i < l.length) : (bcells l)[i]? = some (.int .u8 (l[i].toNat : Int)) := by simp [bcells, h]
theorem bcells_getD (l : List UInt8) (i : Nat) (h : i < l.length) : (bcells l)[i]? = some (.int .u8 ((l.getD i 0).toNat : Int)) := by simp [bcells, List.getD, h]
theorem bcells_set (l : List UInt8) (i : Nat) (x : UInt8) : (bcells l).setIfInBounds i (.int .u8 (x.toNat : Int)) = bcells (l.set i x) := by
  simp [bcells, List.map_set]
theorem bcells_all (l : List UInt8) : (bcells l).all (·.oneCell') = true := by simp [bcells, Value.oneCell']
theorem bcells_map (l : List UInt8) : bcells l = ((l.map fun b => (b.toNat : Int)).map (Value.int .u8)).toArray := by simp [bcells]
theorem byteOf_toNat (b : UInt8) : byteOf (b.toNat : Int) = b := by simp [byteOf]
theorem conv_bcells {P : Program} (w : World) (src dst e : TypeId) (hs : P.underlying src = some (.slice e)) (he : P.underlying e = some (.int .u8)) (hd : P.underlying dst = some .string) (l : List UInt8) (c g : Nat) (t : TypeId) (fr : Nat × Nat) (hg : w.heap[g]? = some (.cells (bcells l) t fr)) :
    (convert src dst (.slice (some ⟨g, 0, none⟩) l.length c)).run P w = .ok (.string (bs l)) w := by
  have := run_convert_bytes_arg (P := P) w src e hs he g 0 l.length c (l.map fun b => (b.toNat : Int)) (by simp) (fun i hi => by
    rw [Nat.zero_add, cell_of_row _ _ _ _ _ _ hg, bcells_get l i hi]
    simp [List.getD, hi]) dst hd
  rw [this]
  have hm : ∀ l : List UInt8, List.map ((fun n : Int => UInt8.ofNat n.toNat) ∘ fun b : UInt8 => (b.toNat : Int)) l = l := by
    intro l; induction l with
    | nil => rfl
    | cons a l ih => simp [ih]
  simp [strOfNums, bs, hm]
theorem conv_b {P : Program} (src dst e t : TypeId) (hs : P.underlying src = some (.slice e)) (he : P.underlying e = some (.int .u8)) (hd : P.underlying dst = some .string) (l : List UInt8) (n c : Nat) (h : l.length = n) (w : World) :
    (convert src dst (.slice (some ⟨w.heap.size, 0, none⟩) n c)).run P (w.alloc (.cells (bcells l) t)) = .ok (.string (bs l)) (w.alloc (.cells (bcells l) t)) := by
  subst h; exact conv_bcells _ src dst e hs he hd l c _ t (0, 0) (heap_alloc_new _ _)
theorem conv_sb {P : Program} (src dst e : TypeId) (hs : P.underlying src = some .string) (hd : P.underlying dst = some (.slice e)) (he : P.underlying e = some (.int .u8)) (s : ByteArray) (w : World) :
    ∃ c w', (convert src dst (.string s)).run P w = .ok (.slice (some ⟨w.heap.size, 0, none⟩) s.size c) w' ∧ s.size ≤ c ∧
      (∀ j (h : j < s.size), w'.cell? ⟨w.heap.size, j, none⟩ = some (.int .u8 (s[j].toNat : Int))) ∧ Below w.heap.size w w' ∧ w'.heap.size = w.heap.size + 1 ∧
      (∀ j, j < s.size → w'.frozen? ⟨w.heap.size, j, none⟩ = false) := by
  have hsz := Lib.bytesWorld_size w e s
  refine ⟨_, _, Lib.run_convert_string_bytes w src dst e s hs hd he, grownCap_ge _ _ _ _, fun j h => ?_, ⟨rfl, rfl, rfl, by omega, fun k hk => Lib.bytesWorld_at_old w e s k hk⟩, hsz, fun j h => ?_⟩
  · rw [Lib.bytesWorld_cell w e s j h]
    simp [List.getD, h]; rfl
  · simp [World.frozen?, Lib.bytesWorld_at_new, Lib.bytesCells]; omega
theorem make_bytes {P : Program} (t e : TypeId) (ht : P.underlying t = some (.slice e)) (hi : (P.info? e).map (fun i => (i.zero, i.size, i.bytes)) = some (some (.int .u8 0), 1, 1)) (n : Nat) (h : n ≤ 281474976710656) (w : World) :
    (Instr.makeSlice t (.int .i64 (n : Int)) (.int .i64 (n : Int))).run P w = .ok (.slice (some ⟨w.heap.size, 0, none⟩) n n) (w.alloc (.cells (bcells (List.replicate n 0)) e)) := by
  obtain ⟨i, h1, h2, h3, h4⟩ := info_parts hi
  have := run_make (P := P) w t e i (.int .u8 0) ht h1 h2 .i64 .i64 (n : Int) (n : Int) (by omega) (by omega) (by rw [h4]; omega) (by omega)
  rw [this, h3]
  simp [madeCells, bcells, Value.cells, List.map_replicate]
  congr 3
  apply Array.ext
  · simp
  · intro k _ _; simp [Nat.mod_one]
/-! ### errors that are bare numbers -/
def errV (T : TypeId) (k : Nat) : Value := if k = 0 then .nilIface else .iface T (.int .i64 (k : Int))
theorem errV_zero (T : TypeId) : errV T 0 = .nilIface := rfl
theorem errV_pos (T : TypeId) (k : Nat) (h : 0 < k) : errV T k = .iface T (.int .i64 (k : Int)) := by simp [errV]; omega
end Go.Proofs.YtdgfeanjeoendaaDoor
