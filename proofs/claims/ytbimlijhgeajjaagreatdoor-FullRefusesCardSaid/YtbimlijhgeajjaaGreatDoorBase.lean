/- Small lemmas over any program: worlds, rows of bytes, strings as lists of bytes. -/
import Derived.WalkKit
import Derived.WalkSpells
import Derived.WalkLawsBesides
import Derived.Outline
import Derived.Below
import Derived.Laws.NewBlocks
import Derived.Laws.BitsAllLaws
import Derived.Laws.Tables
import Derived.Laws.Rows
import Derived.Laws.BytesArg
import Derived.Laws.IdiomStrings
import Derived.Deep.WholeRow
import Derived.Laws.MakeOwn
import Derived.Lib.ConvBytes
import Derived.Deep.RegionLaw
import Derived.Laws.AppendOwn
set_option linter.unusedSectionVars false
set_option linter.unusedSimpArgs false
set_option linter.unusedVariables false
namespace Go.Proofs.YtbimlijhgeajjaaGreatDoor
open Go.RowKit
set_option linter.unusedVariables false
theorem hid {p : Prop} (h : p) : Hid p := h
theorem take_snoc (s : ByteArray) (k : Nat) (h : k < s.size) : s.data.toList.take (k + 1) = s.data.toList.take k ++ [s[k]] := by
  rw [List.take_succ_eq_append_getElem (by simpa using h)]; rfl
theorem ret_int {k : IntKind} {a b : Int} (h : a = b) : Ending.returned (.int k a) = .returned (.int k b) := by rw [h]
theorem ret_bool {a b : Bool} (h : a = b) : Ending.returned (.bool a) = .returned (.bool b) := by rw [h]
theorem ret_val {a b : Value} (h : a = b) : Ending.returned a = .returned b := by rw [h]
theorem below_setRow {B : Nat} {a w : World} (h : Below B a w) {g : Nat} (hg : B ≤ g) (cs : Array Value) : Below B a (w.setRow g cs) :=
  h.trans ⟨rfl, rfl, rfl, by simp, fun k hk => setRow_other w g k cs (by omega)⟩
theorem heap_setCell_get (w : World) (t : Addr) (v : Value) (k : Nat) : (w.setCell t v).heap[k]? = if t.block = k then (w.heap[k]?).map (fun | .cells c elem frozen => .cells (if t.spot.isSome then c else c.setIfInBounds t.off v) elem frozen | o => o) else w.heap[k]? := by
  simp only [World.setCell, Array.getElem?_modify]
  rfl
theorem below_setCell_congr {B : Nat} {a b : World} (h : Below B a b) (t : Addr) (v : Value) : Below B (a.setCell t v) (b.setCell t v) :=
  ⟨h.os, h.tape, h.output, by simpa [World.setCell] using h.size, fun k hk => by rw [heap_setCell_get, heap_setCell_get, h.block k hk]⟩
theorem cell_setCell_self (w : World) (t : Addr) (old v : Value) (h : w.cell? t = some old) : (w.setCell t v).cell? t = some v := by
  have hs := h
  simp only [World.cell?] at h ⊢
  rw [heap_setCell_get, if_pos rfl]
  split at h
  · rename_i c e f hc
    rw [hc]
    simp only [Option.map]
    split at h
    · cases h
    · rename_i hsp
      rw [if_neg hsp, if_neg hsp]
      rw [Array.getElem?_setIfInBounds]
      have := (Array.getElem?_eq_some_iff.1 h).1
      simp [this]
  · cases h
theorem i64_mask (n : Int) (m : Nat) (k : Nat) (hm : m = 2 ^ k - 1) (hk : k ≤ 62) : bits .and .i64 n (m : Int) = n % ((2 ^ k : Nat) : Int) := by
  subst hm
  have hpos : 0 < 2 ^ k := Nat.pow_pos (by omega)
  have hle : 2 ^ k ≤ 2 ^ 62 := Nat.pow_le_pow_right (by omega) hk
  have e2 : (BitVec.ofInt 64 ((2 ^ k - 1 : Nat) : Int)).toNat = 2 ^ k - 1 := by
    rw [BitVec.toNat_ofInt]; omega
  have e1 : (BitVec.ofInt 64 n &&& BitVec.ofInt 64 ((2 ^ k - 1 : Nat) : Int)).toNat = (BitVec.ofInt 64 n).toNat % 2 ^ k := by
    rw [BitVec.toNat_and, e2, Nat.and_two_pow_sub_one_eq_mod]
  have e3 : ((BitVec.ofInt 64 n).toNat : Int) = n % 18446744073709551616 := by
    rw [BitVec.toNat_ofInt]; omega
  have e4 : (((BitVec.ofInt 64 n).toNat % 2 ^ k : Nat) : Int) = n % ((2 ^ k : Nat) : Int) := by
    rw [Int.natCast_emod, e3]
    apply Int.emod_emod_of_dvd
    exact ⟨((2 ^ (64 - k) : Nat) : Int), by rw [← Int.natCast_mul, ← Nat.pow_add, show k + (64 - k) = 64 by omega]; rfl⟩
  unfold bits
  show IntKind.i64.wrap (((BitVec.ofInt 64 n &&& BitVec.ofInt 64 ((2 ^ k - 1 : Nat) : Int)).toNat : Nat) : Int) = _
  rw [e1, e4]
  have h5 := Int.emod_nonneg n (show ((2 ^ k : Nat) : Int) ≠ 0 by omega)
  have h6 := Int.emod_lt_of_pos n (show (0 : Int) < ((2 ^ k : Nat) : Int) by omega)
  rw [IntKind.wrap_i64]; omega
/-- a string from the list of its bytes -/
def bs (l : List UInt8) : ByteArray := ⟨l.toArray⟩
theorem bs_data (s : ByteArray) : bs s.data.toList = s := by simp [bs]
@[go_sem] theorem bs_size (l : List UInt8) : (bs l).size = l.length := by simp [bs, ByteArray.size]
@[go_sem] theorem bs_append (a b : List UInt8) : bs a ++ bs b = bs (a ++ b) := by
  apply ByteArray.ext; simp [bs]
@[go_sem] theorem bs_extract (l : List UInt8) (a b : Nat) : (bs l).extract a b = bs ((l.take b).drop a) := by
  apply ByteArray.ext; simp [bs, ByteArray.data_extract, List.extract_toArray, List.drop_take]
@[go_sem] theorem bs_get (l : List UInt8) (i : Nat) (h : i < (bs l).size) : (bs l)[i]'h = l[i]'(by rw [← bs_size l]; exact h) := rfl
@[go_sem] theorem bs_inj (a b : List UInt8) : bs a = bs b ↔ a = b := by
  constructor
  · intro h; simpa [bs] using h
  · intro h; rw [h]
@[go_sem] theorem bs_toList (a : List UInt8) : (bs a).toList = a := by simp [bs, ByteArray.toList_eq]
def byteOf (n : Int) : UInt8 := UInt8.ofNat n.toNat
theorem conv_new {P : Program} (w : World) (src dst e t : TypeId) (hs : P.underlying src = some (.slice e)) (he : P.underlying e = some (.int .u8)) (hd : P.underlying dst = some .string) (xs : List Int) (n c : Nat) (h : xs.length = n) :
    (convert src dst (.slice (some ⟨w.heap.size, 0, none⟩) n c)).run P (w.alloc (.cells (xs.map (Value.int .u8)).toArray t)) = .ok (.string (bs (xs.map byteOf))) (w.alloc (.cells (xs.map (Value.int .u8)).toArray t)) := by
  have := run_convert_bytes_arg (P := P) (w.alloc (.cells (xs.map (Value.int .u8)).toArray t)) src e hs he w.heap.size 0 n c xs h (fun i hi => by
    rw [Nat.zero_add, cell_of_row _ _ _ _ _ _ (heap_alloc_new _ _)]
    simp [List.getD, List.getElem?_eq_getElem (show i < xs.length by omega)]) dst hd
  rw [this]; rfl
section
variable {P : Program} (src dst e t : TypeId) (hs : P.underlying src = some (.slice e)) (he : P.underlying e = some (.int .u8)) (hd : P.underlying dst = some .string)
include hs he hd
theorem conv1 (w : World) (a : Int) :
    (convert src dst (.slice (some ⟨w.heap.size, 0, none⟩) 1 1)).run P (w.alloc (.cells #[.int .u8 a] t)) = .ok (.string (bs [byteOf a])) (w.alloc (.cells #[.int .u8 a] t)) :=
  conv_new w src dst e t hs he hd [a] 1 1 rfl
theorem conv4 (w : World) (a b c d : Int) :
    (convert src dst (.slice (some ⟨w.heap.size, 0, none⟩) 4 4)).run P (w.alloc (.cells #[.int .u8 a, .int .u8 b, .int .u8 c, .int .u8 d] t)) = .ok (.string (bs [byteOf a, byteOf b, byteOf c, byteOf d])) (w.alloc (.cells #[.int .u8 a, .int .u8 b, .int .u8 c, .int .u8 d] t)) :=
  conv_new w src dst e t hs he hd [a, b, c, d] 4 4 rfl
end

/-! ### rows of bytes -/
def bcells (l : List UInt8) : Array Value := (l.map fun b => Value.int .u8 (b.toNat : Int)).toArray
@[go_sem] theorem bcells_size (l : List UInt8) : (bcells l).size = l.length := by simp [bcells]
theorem bcells_get (l : List UInt8) (i : Nat) (h : i < l.length) : (bcells l)[i]? = some (.int .u8 (l[i].toNat : Int)) := by simp [bcells, h]
theorem bcells_getD (l : List UInt8) (i : Nat) (h : i < l.length) : (bcells l)[i]? = some (.int .u8 ((l.getD i 0).toNat : Int)) := by simp [bcells, List.getD, h]
theorem bcells_set (l : List UInt8) (i : Nat) (x : UInt8) : (bcells l).setIfInBounds i (.int .u8 (x.toNat : Int)) = bcells (l.set i x) := by
  simp [bcells, List.map_set]
theorem bcells_all (l : List UInt8) : (bcells l).all (·.oneCell') = true := by simp [bcells, Value.oneCell']
theorem bcells_map (l : List UInt8) : bcells l = ((l.map fun b => (b.toNat : Int)).map (Value.int .u8)).toArray := by simp [bcells]
theorem byteOf_toNat (b : UInt8) : byteOf (b.toNat : Int) = b := by simp [byteOf]
theorem conv_bcells {P : Program} (w : World) (src dst e : TypeId) (hs : P.underlying src = some (.slice e)) (he : P.underlying e = some (.int .u8)) (hd : P.underlying dst = some .string) (l : List UInt8) (c g : Nat) (t : TypeId) (fr : Nat × Nat) (hg : w.heap[g]? = some (.cells (bcells l) t fr)) :
    (convert src dst (.slice (some ⟨g, 0, none⟩) l.length c)).run P w = .ok (.string (bs l)) w := by
  have := run_convert_bytes_arg (P := P) w src e hs he g 0 l.length c (l.map fun b => (b.toNat : Int)) (by simp) (fun i hi => by
    rw [Nat.zero_add, cell_of_row _ _ _ _ _ _ hg, bcells_get l i hi]
    simp [List.getD, hi]) dst hd
  rw [this]
  have hm : ∀ l : List UInt8, List.map ((fun n : Int => UInt8.ofNat n.toNat) ∘ fun b : UInt8 => (b.toNat : Int)) l = l := by
    intro l; induction l with
    | nil => rfl
    | cons a l ih => simp [ih]
  simp [strOfNums, bs, hm]
theorem conv_b {P : Program} (src dst e t : TypeId) (hs : P.underlying src = some (.slice e)) (he : P.underlying e = some (.int .u8)) (hd : P.underlying dst = some .string) (l : List UInt8) (n c : Nat) (h : l.length = n) (w : World) :
    (convert src dst (.slice (some ⟨w.heap.size, 0, none⟩) n c)).run P (w.alloc (.cells (bcells l) t)) = .ok (.string (bs l)) (w.alloc (.cells (bcells l) t)) := by
  subst h; exact conv_bcells _ src dst e hs he hd l c _ t (0, 0) (heap_alloc_new _ _)
theorem conv_sb {P : Program} (src dst e : TypeId) (hs : P.underlying src = some .string) (hd : P.underlying dst = some (.slice e)) (he : P.underlying e = some (.int .u8)) (s : ByteArray) (w : World) :
    ∃ c w', (convert src dst (.string s)).run P w = .ok (.slice (some ⟨w.heap.size, 0, none⟩) s.size c) w' ∧ s.size ≤ c ∧
      (∀ j (h : j < s.size), w'.cell? ⟨w.heap.size, j, none⟩ = some (.int .u8 (s[j].toNat : Int))) ∧ Below w.heap.size w w' ∧ w'.heap.size = w.heap.size + 1 ∧
      (∀ j, j < s.size → w'.frozen? ⟨w.heap.size, j, none⟩ = false) := by
  have hsz := Lib.bytesWorld_size w e s
  refine ⟨_, _, Lib.run_convert_string_bytes w src dst e s hs hd he, grownCap_ge _ _ _ _, fun j h => ?_, ⟨rfl, rfl, rfl, by omega, fun k hk => Lib.bytesWorld_at_old w e s k hk⟩, hsz, fun j h => ?_⟩
  · rw [Lib.bytesWorld_cell w e s j h]
    simp [List.getD, h]; rfl
  · simp [World.frozen?, Lib.bytesWorld_at_new, Lib.bytesCells]; omega
theorem make_bytes {P : Program} (t e : TypeId) (ht : P.underlying t = some (.slice e)) (hi : (P.info? e).map (fun i => (i.zero, i.size, i.bytes)) = some (some (.int .u8 0), 1, 1)) (n : Nat) (h : n ≤ 281474976710656) (w : World) :
    (Instr.makeSlice t (.int .i64 (n : Int)) (.int .i64 (n : Int))).run P w = .ok (.slice (some ⟨w.heap.size, 0, none⟩) n n) (w.alloc (.cells (bcells (List.replicate n 0)) e)) := by
  obtain ⟨i, h1, h2, h3, h4⟩ := info_parts hi
  have := run_make (P := P) w t e i (.int .u8 0) ht h1 h2 .i64 .i64 (n : Int) (n : Int) (by omega) (by omega) (by rw [h4]; omega) (by omega)
  rw [this, h3]
  simp [madeCells, bcells, Value.cells, List.map_replicate]
  congr 3
  apply Array.ext
  · simp
  · intro k _ _; simp [Nat.mod_one]
/-! ### append onto a row of the call's own, as a step of a region that draws -/
theorem step_append_own {P : Program} {ops : Array Oper} {o : Oper} {a : Act} {w : World} {K : Act → World → Prop} {Q : Exit → Act → World → Prop} {E : Prop}
    (hgd : o.guard = none) (s x : Operand) (t : TypeId) (ho : o.op = .call { callee := .builtin .append, args := #[s, x], argTypes := #[t, t] })
    (base : Nat) (e : TypeId) (z : Value) (size bytes : Nat) (ht : P.underlying t = some (.slice e)) (hi : (P.info? e).map (fun i => (i.zero, i.size, i.bytes)) = some (some z, size, bytes))
    (hzs : z.cells.size = size) (hsz : 0 < size)
    (v : Value) (n : Nat) (xs : List Value) (hs : a.eval s = v) (hown : w.ownsRow base e size v n xs)
    (ad : Addr) (m c : Nat) (news : List Value) (hx : a.eval x = .slice (some ad) m c) (hl : news.length = m * size) (hnews : ∀ j u, news[j]? = some u → w.cell? (ad.add j) = some u) (h1 : ∀ u ∈ news, u.oneCell' = true)
    (h63 : n + m ≤ maxLen) (hbytes : (n + m) * bytes ≤ 140737488355328) (hbase : base ≤ w.heap.size)
    (h : ∀ v' w', w'.ownsRow base e size v' (n + m) (xs ++ news) → w.grownBy w' v.ownBlock → (v' = .slice none 0 0 ↔ v = .slice none 0 0 ∧ m = 0) → K (a.put o.dst v') w') :
    if Region.wanted o (yielded ops a.tmps) = true then Oper.wp P o a w K Q else E := by
  obtain ⟨i, hi1, hi2, hi3, hi4⟩ := info_parts hi
  rw [if_pos (by simp [Region.wanted, hgd])]
  exact wp_append_own w s x t ho base e i z size bytes ht hi1 hi2 hi3 hi4 hzs hsz v n xs hs hown ad m c news hx hl hnews h1 h63 hbytes hbase h
/-- the same in a list of operations that draws no order -/
theorem list_append_own {P : Program} {ops : Array Oper} {rest : List Oper} {o : Oper} {a : Act} {w : World} {Q : Exit → Act → World → Prop}
    (hgd : o.guard = none) (s x : Operand) (t : TypeId) (ho : o.op = .call { callee := .builtin .append, args := #[s, x], argTypes := #[t, t] })
    (base : Nat) (e : TypeId) (z : Value) (size bytes : Nat) (ht : P.underlying t = some (.slice e)) (hi : (P.info? e).map (fun i => (i.zero, i.size, i.bytes)) = some (some z, size, bytes))
    (hzs : z.cells.size = size) (hsz : 0 < size)
    (v : Value) (n : Nat) (xs : List Value) (hs : a.eval s = v) (hown : w.ownsRow base e size v n xs)
    (ad : Addr) (m c : Nat) (news : List Value) (hx : a.eval x = .slice (some ad) m c) (hl : news.length = m * size) (hnews : ∀ j u, news[j]? = some u → w.cell? (ad.add j) = some u) (h1 : ∀ u ∈ news, u.oneCell' = true)
    (h63 : n + m ≤ maxLen) (hbytes : (n + m) * bytes ≤ 140737488355328) (hbase : base ≤ w.heap.size)
    (h : ∀ v' w', w'.ownsRow base e size v' (n + m) (xs ++ news) → w.grownBy w' v.ownBlock → (v' = .slice none 0 0 ↔ v = .slice none 0 0 ∧ m = 0) → wpList P ops Q rest (a.put o.dst v') w') : wpList P ops Q (o :: rest) a w := by
  obtain ⟨i, hi1, hi2, hi3, hi4⟩ := info_parts hi
  exact wpList_append_own w hgd s x t ho base e i z size bytes ht hi1 hi2 hi3 hi4 hzs hsz v n xs hs hown ad m c news hx hl hnews h1 h63 hbytes hbase h
/-- Below, behind an append onto a row of the call's own -/
theorem below_append {B : Nat} {a w w' : World} {e : TypeId} {size n : Nat} {v : Value} {xs : List Value} (h : Below B a w) (hown : w.ownsRow B e size v n xs) (hg : w.grownBy w' v.ownBlock) (hB : B ≤ w.heap.size) : Below B a w' :=
  h.grown hg hB (fun k hk => (hown.lt k hk).1)
theorem owns_below {w w' : World} {base : Nat} {e : TypeId} {size n : Nat} {v : Value} {xs : List Value} (h : w.ownsRow base e size v n xs) (hb : Below w.heap.size w w') : w'.ownsRow base e size v n xs :=
  h.kept (row := none) ⟨hb.os, hb.tape, hb.output, hb.size, fun k hk _ => hb.block k hk⟩ (by cases hv : v.ownBlock <;> simp)
def strLen : Value → Nat | .string s => s.size | _ => 0
/-! ### a slice that reads as a list of cells -/
def Sl (w : World) (v : Value) (size n : Nat) (cs : List Value) : Prop :=
  ∃ a cap, v = .slice a n cap ∧ cs.length = n * size ∧ (n = 0 ∨ ∃ b off, a = some ⟨b, off, none⟩ ∧ ∀ j u, cs[j]? = some u → w.cell? ⟨b, off + j, none⟩ = some u)
theorem Sl.below {w w' : World} {v : Value} {size n : Nat} {cs : List Value} (h : Sl w v size n cs) (hs : 0 < size) (hb : Below w.heap.size w w') : Sl w' v size n cs := by
  obtain ⟨a, cap, rfl, hl, hc⟩ := h
  refine ⟨a, cap, rfl, hl, ?_⟩
  rcases hc with h0 | ⟨b, off, rfl, hc⟩
  · exact .inl h0
  · refine .inr ⟨b, off, rfl, fun j u hu => ?_⟩
    exact (hb.cell (p := ⟨b, off + j, none⟩) (block_lt_of_cell (hc j u hu))).trans (hc j u hu)
theorem sl_nil (w : World) (size : Nat) : Sl w (.slice none 0 0) size 0 [] := ⟨none, 0, rfl, by simp, .inl rfl⟩
theorem sl_of_owns {w : World} {base : Nat} {e : TypeId} {size n : Nat} {v : Value} {xs : List Value} (h : w.ownsRow base e size v n xs) : Sl w v size n xs := by
  rcases h.2 with ⟨rfl, rfl⟩ | ⟨g, cap, cur, rfl, hbg, hg, hnc, hcm, hcs, htake⟩
  · exact ⟨none, 0, rfl, h.1, .inl rfl⟩
  · refine ⟨_, cap, rfl, h.1, .inr ⟨g, 0, rfl, fun j u hu => ?_⟩⟩
    rw [Nat.zero_add, cell_of_row w g j cur e (0, 0) hg]
    rw [← htake, List.getElem?_take] at hu
    split at hu
    · simpa using hu
    · cases hu
theorem own_form {w : World} {base : Nat} {e : TypeId} {size n : Nat} {v : Value} {xs : List Value} (h : w.ownsRow base e size v n xs) (hs : 0 < size) (hn : 0 < n) :
    ∃ g cap, v = .slice (some ⟨g, 0, none⟩) n cap ∧ n ≤ cap ∧ cap ≤ 9223372036854775807 ∧ base ≤ g ∧ (∀ j u, xs[j]? = some u → w.cell? ⟨g, j, none⟩ = some u) := by
  rcases h.2 with ⟨rfl, rfl⟩ | ⟨g, cap, cur, rfl, hbg, hg, hnc, hcm, hcs, htake⟩
  · have := h.1; simp at this; rcases this with h' | h' <;> omega
  · refine ⟨g, cap, rfl, hnc, by unfold maxLen at hcm; omega, hbg, fun j u hu => ?_⟩
    rw [cell_of_row w g j cur e (0, 0) hg]
    rw [← htake, List.getElem?_take] at hu
    split at hu
    · simpa using hu
    · cases hu
/-! ### errors that are bare numbers -/
def errV (T : TypeId) (k : Nat) : Value := if k = 0 then .nilIface else .iface T (.int .i64 (k : Int))
theorem errV_zero (T : TypeId) : errV T 0 = .nilIface := rfl
theorem errV_pos (T : TypeId) (k : Nat) (h : 0 < k) : errV T k = .iface T (.int .i64 (k : Int)) := by simp [errV]; omega
end Go.Proofs.YtbimlijhgeajjaaGreatDoor
