/- All keys' names, and what is known of a key: by the document. -/
import Derived.Test.YtfeenkofnbefaaaGreatDoorKnown
import Derived.Test.YtfeenkofnbefaaaGreatDoorBase
import Derived.Test.YtfeenkofnbefaaaGreatDoorShelfL
import Derived.WalkSmall
set_option linter.unusedSectionVars false
set_option linter.unusedSimpArgs false
set_option linter.unusedVariables false
namespace Go.Proofs.YtfeenkofnbefaaaGreatDoor
open Go Go.RowKit
set_option linter.unusedVariables false
set_option maxRecDepth 100000
theorem known_cells (w : World) (i : Nat) (k : KR) (h : keyRows[i]? = some k) (j : Nat) (hj : j < 7) : (w.alloc (.cells allCells.toArray 161)).cell? ⟨w.heap.size, i * 7 + j, none⟩ = (k.cells)[j]? := by
  rw [cell_of_row _ _ _ _ _ _ (heap_alloc_new _ _), List.getElem?_toArray]
  exact flat7 keyRows i k h j hj
/-- the seven cells of a known key -/
def K7 (W : World) (g : Nat) : Prop := ∀ i k, keyRows[i]? = some k → W.cell? ⟨g, i * 7, none⟩ = some (.string (bs k.name)) ∧ W.cell? ⟨g, i * 7 + 1, none⟩ = some (.int .i64 (dnum k.lk : Int)) ∧ W.cell? ⟨g, i * 7 + 2, none⟩ = some (.int .i64 (dnum k.ll : Int)) ∧ W.cell? ⟨g, i * 7 + 3, none⟩ = some (.int .i64 (dnum k.lh : Int)) ∧ W.cell? ⟨g, i * 7 + 4, none⟩ = some (.string (bs k.dv)) ∧ W.cell? ⟨g, i * 7 + 5, none⟩ = some (.bool (k.no == [78])) ∧ W.cell? ⟨g, i * 7 + 6, none⟩ = some (.bool (k.lo == [76]))
theorem k7_known (w : World) : K7 (w.alloc (.cells allCells.toArray 161)) w.heap.size := fun i k h =>
  ⟨known_cells w i k h 0 (by omega), known_cells w i k h 1 (by omega), known_cells w i k h 2 (by omega), known_cells w i k h 3 (by omega), known_cells w i k h 4 (by omega), known_cells w i k h 5 (by omega), known_cells w i k h 6 (by omega)⟩
theorem K7.below {W W' : World} {g : Nat} (h : K7 W g) {B : Nat} (hb : Below B W W') (hg : g < B) : K7 W' g := fun i k hk => by
  obtain ⟨a0, a1, a2, a3, a4, a5, a6⟩ := h i k hk
  exact ⟨(hb.cell (p := ⟨g, i * 7, none⟩) hg).trans a0, (hb.cell (p := ⟨g, i * 7 + 1, none⟩) hg).trans a1, (hb.cell (p := ⟨g, i * 7 + 2, none⟩) hg).trans a2, (hb.cell (p := ⟨g, i * 7 + 3, none⟩) hg).trans a3, (hb.cell (p := ⟨g, i * 7 + 4, none⟩) hg).trans a4, (hb.cell (p := ⟨g, i * 7 + 5, none⟩) hg).trans a5, (hb.cell (p := ⟨g, i * 7 + 6, none⟩) hg).trans a6⟩
def RRNames (w w1 : World) (out i : Value) (wr : World) : Prop :=
  ∃ k : Nat, k ≤ 18 ∧ i = .int .i64 (k : Nat) ∧ wr.ownsRow w1.heap.size 9 1 out k ((keyRows.take k).map fun k => Value.string (bs k.name)) ∧ Below w1.heap.size w1 wr
/-- what is said of a key that is asked for -/
def keyVal : Option KR → Value
  | none => .agg #[.string (bs []), .int .i64 0, .int .i64 0, .int .i64 0, .string (bs []), .bool false, .bool false]
  | some k => .agg k.cells.toArray
def keyErr : Option KR → Nat
  | none => 5
  | some _ => 0
theorem findK_take {name : List UInt8} {i : Nat} {k : KR} (h : keyRows[i]? = some k) (hn : ∀ x ∈ keyRows.take i, x.name ≠ name) (he : k.name = name) : findK keyRows name = some k := by
  obtain ⟨h1, h2⟩ := List.getElem?_eq_some_iff.1 h
  have hs : keyRows = keyRows.take i ++ k :: keyRows.drop (i + 1) := by
    rw [← h2, List.getElem_cons_drop, List.take_append_drop]
  rw [hs, findK, List.find?_append]
  have hn0 : (keyRows.take i).find? (fun k => k.name == name) = none := List.find?_eq_none.2 fun x hx => by simpa using hn x hx
  rw [hn0]
  simp [he]
theorem findK_none {name : List UInt8} (hn : ∀ x ∈ keyRows, x.name ≠ name) : findK keyRows name = none := List.find?_eq_none.2 fun x hx => by simpa using hn x hx
def RKeyOf (name : List UInt8) (w w1 : World) (i : Value) (wr : World) : Prop :=
  ∃ k : Nat, k ≤ 18 ∧ i = .int .i64 (k : Nat) ∧ (∀ x ∈ keyRows.take k, x.name ≠ name) ∧ Blk wr w.heap.size 161 #[.string (bs []), .int .i64 0, .int .i64 0, .int .i64 0, .string (bs []), .bool false, .bool false] ∧ Below w1.heap.size w1 wr
set_option maxHeartbeats 4000000 in
theorem keyOf_any (name : List UInt8) (w : World) : Calls Tryz.prog 65 #[.string (bs name)] w fun e w' => e = .returned (.tuple #[keyVal (findK keyRows name), .int .i64 (keyErr (findK keyRows name) : Nat)]) ∧ Below w.heap.size w w' := by
  go_enter Tryz.func65, Tryz.ntmps65
  have c1 := fun w => hid (known_any w)
  obtain ⟨w1, hw1⟩ : ∃ w1, w.alloc (.cells #[.string (bs []), .int .i64 0, .int .i64 0, .int .i64 0, .string (bs []), .bool false, .bool false] 161) = w1 := ⟨_, rfl⟩
  have hBlk : Blk w1 w.heap.size 161 #[.string (bs []), .int .i64 0, .int .i64 0, .int .i64 0, .string (bs []), .bool false, .bool false] := by rw [← hw1]; exact Blk.new _ _ _
  have hs1 : w1.heap.size = w.heap.size + 1 := by rw [← hw1]; simp
  have hb1 : Below w.heap.size w w1 := by rw [← hw1]; exact (Below.refl _ _).alloc (Nat.le_refl _) _
  have hK := k7_known w1
  have c1 := c1 w1
  unfold KnownPost at c1
  obtain ⟨w2, hw2⟩ : ∃ w2, w1.alloc (.cells allCells.toArray 161) = w2 := ⟨_, rfl⟩
  rw [hw2] at hK c1
  have hs2 : w2.heap.size = w.heap.size + 2 := by rw [← hw2]; simp; omega
  have hb2 : Below w1.heap.size w1 w2 := by rw [← hw2]; exact (Below.refl _ _).alloc (Nat.le_refl _) _
  have HBlk := hid (hBlk.below hb2)
  have HK := hid hK; clear hK hw2 hBlk
  rw [hs1] at HK c1
  go_wp2_with (first | (go_at_call 95; change Calls _ _ _ (w.alloc (.cells #[.string (bs []), .int .i64 0, .int .i64 0, .int .i64 0, .string (bs []), .bool false, .bool false] 161)) _; rw [hw1]; refine c1.out.mono ?_; rintro e w' ⟨rfl, rfl⟩))
  clear hw1 c1
  go_loopw [8] (fun i wr => RKeyOf name w w' i wr) (fun i _ => 18 - (intOf i).toNat)
  case atStart => exact ⟨0, by omega, rfl, by simp, HBlk.out, Below.refl _ _⟩
  case round =>
    obtain ⟨k, hk, rfl, hno, hblk, hb⟩ := hrel
    have hB := hb.size
    have HB := hid hblk
    have hzlt : w.heap.size < wr.heap.size := by omega
    have hzne : ¬ w.heap.size = wr.heap.size := by omega
    have q0 := hblk.free 0
    have q1 := hblk.free 1
    have q2 := hblk.free 2
    have q3 := hblk.free 3
    have q4 := hblk.free 4
    have q5 := hblk.free 5
    have q6 := hblk.free 6
    have p0 : wr.cell? ⟨w.heap.size, 0, none⟩ = some (.string (bs [])) := (hblk.cell 0).trans rfl
    have p1 : wr.cell? ⟨w.heap.size, 1, none⟩ = some (.int .i64 0) := (hblk.cell 1).trans rfl
    have p2 : wr.cell? ⟨w.heap.size, 2, none⟩ = some (.int .i64 0) := (hblk.cell 2).trans rfl
    have p3 : wr.cell? ⟨w.heap.size, 3, none⟩ = some (.int .i64 0) := (hblk.cell 3).trans rfl
    have p4 : wr.cell? ⟨w.heap.size, 4, none⟩ = some (.string (bs [])) := (hblk.cell 4).trans rfl
    have p5 : wr.cell? ⟨w.heap.size, 5, none⟩ = some (.bool false) := (hblk.cell 5).trans rfl
    have p6 : wr.cell? ⟨w.heap.size, 6, none⟩ = some (.bool false) := (hblk.cell 6).trans rfl
    clear hblk
    by_cases hlt : k < 18
    · obtain ⟨kr, hkr⟩ : ∃ kr, keyRows[k]? = some kr := ⟨keyRows[k]'(by show k < 18; exact hlt), List.getElem?_eq_getElem _⟩
      obtain ⟨a0, a1, a2, a3, a4, a5, a6⟩ := (HK.out.below hb (by omega)) k kr hkr
      by_cases hname : kr.name = name
      · have Hf := hid (findK_take hkr hno hname)
        have he : (kr.name == name) = true := by simpa using hname
        clear hkr
        go_wp2
        refine bodyPost_ret (v := .tuple #[.agg kr.cells.toArray, .int .i64 0]) (by simp [results, Tryz.results65, go_sem, p0, p1, p2, p3, p4, p5, p6, hzlt, KR.cells, hname]) rfl ?_
        refine ⟨by rw [Hf.out]; rfl, ?_⟩
        have hb' : Below w.heap.size w wr := hb1.trans ((hb2.mono (by omega)).trans (hb.mono (by omega)))
        refine Below.alloc ?_ (by simp [World.setCell]; omega) _
        iterate 7 refine below_setc ?_ (Nat.le_refl w.heap.size) _ _
        exact hb'
      · have he : (kr.name == name) = false := by simpa using hname
        have hno' : ∀ x ∈ keyRows.take (k + 1), x.name ≠ name := by
          obtain ⟨h1, h2⟩ := List.getElem?_eq_some_iff.1 hkr
          rw [List.take_succ_eq_append_getElem h1, h2]
          intro x hx
          rcases List.mem_append.1 hx with hx | hx
          · exact hno x hx
          · rw [List.mem_singleton.1 hx]; exact hname
        have Hno := hid hno'; clear hno hno' hkr
        go_wp2
        go_roundw
        case rel => exact ⟨k + 1, by omega, by go_num, Hno.out, HB.out.below ((Below.refl _ _).alloc (Nat.le_refl _) _), hb.alloc hB _⟩
        case measure => simp [intOf]; omega
    · obtain rfl : k = 18 := by omega
      have Hf := hid (findK_none (name := name) (by rw [show (18 : Nat) = keyRows.length from rfl, List.take_length] at hno; exact hno))
      clear hno
      go_wp2
      refine bodyPost_ret (v := .tuple #[.agg #[.string (bs []), .int .i64 0, .int .i64 0, .int .i64 0, .string (bs []), .bool false, .bool false], .int .i64 5]) (by simp [results, Tryz.results65, go_sem, p0, p1, p2, p3, p4, p5, p6]; rfl) rfl ?_
      refine ⟨by rw [Hf.out]; rfl, ?_⟩
      have hb' : Below w.heap.size w wr := hb1.trans ((hb2.mono (by omega)).trans (hb.mono (by omega)))
      iterate 7 refine below_setc ?_ (Nat.le_refl w.heap.size) _ _
      exact hb'
end Go.Proofs.YtfeenkofnbefaaaGreatDoor

namespace Go.Proofs.YtfeenkofnbefaaaGreatDoor
open Go Go.RowKit
set_option linter.unusedVariables false
/-- the table of white space stands -/
def AS (w : World) : Prop := Lib.TabIs Tryz.prog w "strings.asciiSpace" .u8 Lib.asciiSpaceTab
theorem asName : Tryz.prog.globalNamed "strings.asciiSpace" = some 1 := by kernel_rfl
theorem AS.lt {w : World} (h : AS w) : 1 < w.heap.size := by
  have := Lib.TabIs.cell h asName 0 (by rw [Lib.asciiSpaceTab_length]; omega)
  exact block_lt_of_cell this
theorem AS.below {w w' : World} {B : Nat} (h : AS w) (hb : Below B w w') (hB : w.heap.size ≤ B) : AS w' := var?_below hb asName (Nat.lt_of_lt_of_le h.lt hB) h
theorem fields_any (l : List UInt8) (w : World) (hl : l.length < 4294967281) (ha : ∀ b ∈ l, b.toNat < 128) (h : AS w) :
    Calls Tryz.prog 103 #[.string (bs l)] w fun e w' => e = .returned (.slice (some ⟨w.heap.size, 0, none⟩) (Lib.fields l).length (Lib.fields l).length) ∧ w' = w.alloc (.cells ((Lib.fields l).map fun x => Value.string (bs x)).toArray 9) :=
  Tryz.strings_Fields (bs l) w (by rw [bs_size]; exact hl) (fun j b hb => ha b (List.mem_of_getElem? hb)) h
theorem below_bytes (w : World) (e : TypeId) (s : ByteArray) : Below w.heap.size w (Lib.bytesWorld w e s) :=
  ⟨rfl, rfl, rfl, by rw [Lib.bytesWorld_size]; omega, fun k hk => Lib.bytesWorld_at_old w e s k hk⟩
theorem atoi_any (l : List UInt8) (n : Int) (w : World) (hl : l.length ≤ 18) (h : Lib.atoi l = some n) :
    Calls Tryz.prog 104 #[.string (bs l)] w fun e w' => e = .returned (.tuple #[.int .i64 n, .nilIface]) ∧ Below w.heap.size w w' := by
  refine (Tryz.strconv_Atoi (bs l) n (by rw [bs_size]; exact hl) h w).mono ?_
  rintro e w' ⟨rfl, t, rfl⟩
  exact ⟨rfl, below_bytes _ _ _⟩
end Go.Proofs.YtfeenkofnbefaaaGreatDoor
