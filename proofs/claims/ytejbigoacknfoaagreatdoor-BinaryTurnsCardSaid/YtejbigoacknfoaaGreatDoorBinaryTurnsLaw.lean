/- The walk of the law BinaryTurns: it returns true. -/
import Derived.Test.YtejbigoacknfoaaGreatDoorBinHex
import Derived.Test.YtejbigoacknfoaaGreatDoorBin64
import Derived.Test.YtejbigoacknfoaaGreatDoorBinRd
import Derived.Test.YtejbigoacknfoaaGreatDoorBinRdR
import Derived.Test.YtejbigoacknfoaaGreatDoorTabs
set_option linter.unusedSectionVars false
set_option linter.unusedSimpArgs false
set_option linter.unusedVariables false
namespace Go.Proofs.YtejbigoacknfoaaGreatDoor
open Go Go.RowKit
set_option linter.unusedVariables false
set_option linter.unusedSectionVars false
set_option linter.unusedSimpArgs false
set_option maxRecDepth 100000
set_option maxHeartbeats 4000000 in
theorem binaryTurns_law (s v : List UInt8) (w : World) (hr1 : s.length ≤ 140737488355328) (hr2 : v.length ≤ 140737488355328) (hg : EType w) (hD : DT w) (hL : LT w) :
    Calls Tryz.prog 3 #[.string (bs s), .string (bs v)] w fun e w' => e = .returned (.bool true) ∧ Below w.heap.size w w' := by
  have hw1 : IntKind.i64.wrap ((s.length : Int) + (v.length : Int)) = (s.length : Int) + (v.length : Int) := by rw [IntKind.wrap_i64]; omega
  by_cases hs : s.length + v.length ≤ 800
  · have hd : decide ((800 : Int) < (s.length : Int) + (v.length : Int)) = false := decide_eq_false (by omega)
    have c1 := hid (rbinary_any v w (by omega) hD hL)
    have c2 := fun w1 => hid (read_any v w1 (by omega))
    have c3 := fun w1 => hid (phex_any s w1 (by omega))
    have c4 := fun w1 (hb : Below w.heap.size w w1) => hid (rhex_any s w1 (by omega) (hD.below hb))
    have c5 := fun w1 => hid (pbase_any s w1 (by omega))
    have c6 := fun w1 (hb : Below w.heap.size w w1) => hid (rbase_any s w1 (by omega) (hD.below hb))
    rw [QBin.ref64_eq] at c6
    have c7 := fun v k pl w1 (hb : Below w.heap.size w w1) (hv : ErrIs w1 v k pl) => hid (placed_ok v k pl w1 (hg.below hb) hv)
    generalize QBin.hexP s = H at *
    generalize QBin.prog64 s = B at *
    have hHH : (H == H) = true := by simp
    have hBB : (B == B) = true := by simp
    unfold BinRPost faultV at c1
    unfold BinPost at c2
    generalize binP v = R at *
    obtain ⟨r, k, pl⟩ := R
    have hrr : (r == r) = true := by simp
    simp only at c1 c2
    clear hD hL hg
    go_enter Tryz.func3, Tryz.ntmps3
    go_wp2_with fail
    refine c1.out.mono ?_
    rintro e w1 ⟨rfl, hb1⟩
    have bA := hb1.alloc hb1.size (.cells #[.int .i64 (k : Nat), .int .i64 pl] 24)
    go_wp2_with fail
    refine (c2 _).out.mono ?_
    rintro e w2 ⟨⟨ev, rfl, hev⟩, hb2⟩
    have b2 := bA.trans (hb2.mono bA.size)
    have q0 := (hb2.cell (p := ⟨w1.heap.size, 0, none⟩) (by simp)).trans (show _ = some (.int .i64 (k : Nat)) by simp)
    have q1 := (hb2.cell (p := ⟨w1.heap.size, 1, none⟩) (by simp)).trans (show _ = some (.int .i64 pl) by simp)
    have hl1 : w1.heap.size < w2.heap.size := by have := hb2.size; simp at this; omega
    go_wp2_with fail
    refine (c3 _).out.mono ?_
    rintro e w3 ⟨rfl, hb3⟩
    have b3 := b2.trans (hb3.mono b2.size)
    have q0 := (hb3.cell (p := ⟨w1.heap.size, 0, none⟩) hl1).trans q0
    have q1 := (hb3.cell (p := ⟨w1.heap.size, 1, none⟩) hl1).trans q1
    have hl1 := Nat.lt_of_lt_of_le hl1 hb3.size
    have hev := hev.below hb3
    go_wp2_with fail
    refine (c4 _ b3).out.mono ?_
    rintro e w4 ⟨rfl, hb4⟩
    have b4 := b3.trans (hb4.mono b3.size)
    have q0 := (hb4.cell (p := ⟨w1.heap.size, 0, none⟩) hl1).trans q0
    have q1 := (hb4.cell (p := ⟨w1.heap.size, 1, none⟩) hl1).trans q1
    have hl1 := Nat.lt_of_lt_of_le hl1 hb4.size
    have hev := hev.below hb4
    go_wp2_with fail
    refine (c5 _).out.mono ?_
    rintro e w5 ⟨rfl, hb5⟩
    have b5 := b4.trans (hb5.mono b4.size)
    have q0 := (hb5.cell (p := ⟨w1.heap.size, 0, none⟩) hl1).trans q0
    have q1 := (hb5.cell (p := ⟨w1.heap.size, 1, none⟩) hl1).trans q1
    have hl1 := Nat.lt_of_lt_of_le hl1 hb5.size
    have hev := hev.below hb5
    go_wp2_with fail
    refine (c6 _ b5).out.mono ?_
    rintro e w6 ⟨rfl, hb6⟩
    have b6 := b5.trans (hb6.mono b5.size)
    have q0 := (hb6.cell (p := ⟨w1.heap.size, 0, none⟩) hl1).trans q0
    have q1 := (hb6.cell (p := ⟨w1.heap.size, 1, none⟩) hl1).trans q1
    have hev := hev.below hb6
    go_wp2_with fail
    refine (c7 ev k pl _ b6 hev).out.mono ?_
    rintro e w7 ⟨rfl, hb7⟩
    go_wp2
    go_ret
    exact ⟨rfl, b6.trans (hb7.mono b6.size)⟩
  · have hd : decide ((800 : Int) < (s.length : Int) + (v.length : Int)) = true := decide_eq_true (by omega)
    go_enter Tryz.func3, Tryz.ntmps3
    go_wp2
    go_ret
    exact ⟨rfl, Below.refl _ _⟩
theorem reach_str {H : Type} {P : Program} {ts : List TypeId} {ds : List (DataW H)} (h : (DataW.weightsEach P ts ds).all (· ≤ reachBytes) = true) {j : Nat} {t : TypeId} {s : ByteArray} (ht : ts[j]? = some t) (hd : ds[j]? = some (.lit (.string s.data.toList))) : s.size ≤ 140737488355328 := by
  have h1 : ∀ n ∈ (DataW.lit (H := H) (.string s.data.toList)).weights P t, n ≤ reachBytes := fun n hn => by simpa using List.all_eq_true.1 h n (DataW.weights_mem_each ht hd n hn)
  have := h1 s.data.toList.length (by simp [DataW.weights])
  have hre : reachBytes ≤ 140737488355328 := by decide
  have h2 : s.data.toList.length = s.size := by simp
  omega
theorem binaryTurns_row (s v : ByteArray) (w : World) (h0 : s.size ≤ 140737488355328) (h1 : v.size ≤ 140737488355328) (hL : laidMetH Tryz.prog Rows.binaryTurnsRow.laid w) (hsh : w.ShapedOpen Tryz.prog) :
    Calls Tryz.prog 3 #[.string s, .string v] w fun e w' => e = .returned (.bool true) ∧ Below w.heap.size w w' := by
  have := binaryTurns_law s.data.toList v.data.toList w (by simpa using h0) (by simpa using h1) (cardBase.etype_of_laid (by simp [Rows.binaryTurnsRow]) hL)
    (dt_of_tab (cardBase.tab_of_laid (n := 64) (t := 377) (e := 5) (L := Rows.binaryTurnsRow.laid) (by kernel_rfl) dbName (by kernel_rfl) Tryz.underlying377 Tryz.underlying5 (by kernel_rfl) (by kernel_rfl) hL))
    (lt_of_reads (reads_of_laid hL (by simp [Rows.binaryTurnsRow, Rows.laid_unicode_CaseRanges]) (by kernel_rfl)) (reads_of_laid hL (by simp [Rows.binaryTurnsRow, Rows.laid_unicode_utf8_first]) (by kernel_rfl)) (reads_of_laid hL (List.mem_of_getElem? (i := 3) (by kernel_rfl)) (by kernel_rfl)))
  rwa [bs_data, bs_data] at this
end Go.Proofs.YtejbigoacknfoaaGreatDoor
