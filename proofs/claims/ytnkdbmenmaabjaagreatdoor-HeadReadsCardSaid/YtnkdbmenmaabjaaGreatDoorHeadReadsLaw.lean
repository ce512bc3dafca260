/- The walk of the law HeadReads: it returns true. -/
import Derived.Test.YtnkdbmenmaabjaaGreatDoorHeadRd
import Derived.Test.YtnkdbmenmaabjaaGreatDoorHeadRdR
import Derived.Test.YtnkdbmenmaabjaaGreatDoorSameHead
import Derived.Test.YtnkdbmenmaabjaaGreatDoorCardBase
namespace Go.Proofs.YtnkdbmenmaabjaaGreatDoor
open Go Go.RowKit
set_option linter.unusedVariables false
set_option linter.unusedSectionVars false
set_option linter.unusedSimpArgs false
set_option maxRecDepth 100000
theorem read_len (s : List UInt8) : (readH s).vals.length ≤ 12 := by
  unfold readH
  split
  · exact Nat.zero_le _
  · split
    · exact Nat.zero_le _
    · cases hf : findH (hOp s) with
      | none => exact Nat.zero_le _
      | some r =>
        have := (head_fine r (findH_mem hf)).2.2.2.2.2.2.1
        simp only [readO]
        split
        · exact Nat.zero_le _
        · split
          · exact Nat.zero_le _
          · simp [valsOf]; omega
set_option maxHeartbeats 4000000 in
theorem headReads_law (s : List UInt8) (w : World) (hs : s.length ≤ 9223372036854775807) (hg : EType w) (hT : AS w) (hP : PT w) :
    Calls Tryz.prog 5 #[.string (bs s)] w fun e w' => e = .returned (.bool true) ∧ Below w.heap.size w w' := by
  by_cases h100 : 100 < s.length
  · have hd : decide ((100 : Int) < (s.length : Int)) = true := decide_eq_true (by omega)
    go_enter Tryz.func5, Tryz.ntmps5
    go_wp2
    go_ret
    exact ⟨rfl, Below.refl _ _⟩
  · have hd : decide ((100 : Int) < (s.length : Int)) = false := decide_eq_false (by omega)
    have c1 := fun w1 => hid (rread_any s w1 (by omega))
    have c2 := fun w1 (hb : Below w.heap.size w w1) => hid (read_any s w1 (by omega) (hT.below hb (Nat.le_refl _)) (hP.below hb (Nat.le_refl _)))
    have hrl := read_len s
    unfold ReadRPost at c1
    unfold ReadPost at c2
    generalize readH s = R at *
    obtain ⟨re, rop, rnow, rfl', rvals, rwords, rdata⟩ := R
    simp only at c1 c2 hrl
    clear hT hP
    have HG := hid hg; clear hg
    go_enter Tryz.func5, Tryz.ntmps5
    go_wp2_with fail
    refine (c1 _).out.mono ?_
    rintro e w1 ⟨va, rfl, hs1, hb1⟩
    have HS1 := hid hs1
    obtain ⟨a1, k1, rfl, _⟩ := hs1
    have B1 := Blk.new w1 37 #[.int .i64 rop, .bool rnow, .int .i64 rfl', .slice a1 rvals.length k1]
    have hA1 := (Below.refl w1.heap.size w1).alloc (Nat.le_refl _) (.cells #[.int .i64 rop, .bool rnow, .int .i64 rfl', .slice a1 rvals.length k1] 37)
    have b1 := hb1.trans (hA1.mono hb1.size)
    have HS1 := hid (HS1.out.below (Nat.le_refl _) hA1)
    unfold headV
    go_wp2_with fail
    refine (c2 _ b1).out.mono ?_
    rintro e w2 ⟨vb, ev, rfl, her, hs2, hb2⟩
    have HS2 := hid hs2
    have HER := hid her
    obtain ⟨a2, k2, rfl, _⟩ := hs2
    have B2 := B1.below hb2
    have HS1 := hid (HS1.out.below (Nat.le_refl _) hb2)
    have B3 := Blk.new w2 37 #[.int .i64 rop, .bool rnow, .int .i64 rfl', .slice a2 rvals.length k2]
    have hA2 := (Below.refl w2.heap.size w2).alloc (Nat.le_refl _) (.cells #[.int .i64 rop, .bool rnow, .int .i64 rfl', .slice a2 rvals.length k2] 37)
    have B4 := B2.below hA2
    have HS1 := hid (HS1.out.below (Nat.le_refl _) hA2)
    have HS2 := hid (HS2.out.below (Nat.le_refl _) hA2)
    have HER := hid (HER.out.below hA2)
    have b2 := (b1.trans (hb2.mono b1.size))
    have b3 := b2.trans (hA2.mono b2.size)
    have c3 := hid (place_any ev re (-1) _ (HG.out.below b3) HER.out)
    clear c1 c2 her
    unfold headV
    go_wp2_with fail
    refine c3.out.mono ?_
    rintro e w3 ⟨rfl, hb3⟩
    have B5 := B4.below hb3
    have B6 := B3.below hb3
    have c4 := hid (sameHead_true rop rnow rfl' _ _ rvals w3 (by omega) (HS1.out.below (Nat.le_refl _) hb3) (HS2.out.below (Nat.le_refl _) hb3))
    have t0 : w3.cell? ⟨w1.heap.size, 0, none⟩ = some (.int .i64 rop) := (B5.cell 0).trans rfl
    have t1 : w3.cell? ⟨w1.heap.size, 1, none⟩ = some (.bool rnow) := (B5.cell 1).trans rfl
    have t2 : w3.cell? ⟨w1.heap.size, 2, none⟩ = some (.int .i64 rfl') := (B5.cell 2).trans rfl
    have t3 : w3.cell? ⟨w1.heap.size, 3, none⟩ = some (.slice a1 rvals.length k1) := (B5.cell 3).trans rfl
    have y0 : w3.cell? ⟨w2.heap.size, 0, none⟩ = some (.int .i64 rop) := (B6.cell 0).trans rfl
    have y1 : w3.cell? ⟨w2.heap.size, 1, none⟩ = some (.bool rnow) := (B6.cell 1).trans rfl
    have y2 : w3.cell? ⟨w2.heap.size, 2, none⟩ = some (.int .i64 rfl') := (B6.cell 2).trans rfl
    have y3 : w3.cell? ⟨w2.heap.size, 3, none⟩ = some (.slice a2 rvals.length k2) := (B6.cell 3).trans rfl
    have b4 := b3.trans (hb3.mono b3.size)
    unfold headV at c4
    clear B1 B2 B3 B4 B5 B6
    go_wp2_with fail
    refine c4.out.mono ?_
    rintro e w4 ⟨rfl, hb4⟩
    go_wp2
    go_ret
    exact ⟨rfl, b4.trans (hb4.mono b4.size)⟩
theorem headReads_row (s : ByteArray) (w : World) (hs : s.size ≤ maxLen) (hL : laidMetH Tryz.prog Rows.headReadsRow.laid w) :
    Calls Tryz.prog 5 #[.string s] w fun e w' => e = .returned (.bool true) ∧ Below w.heap.size w w' := by
  unfold maxLen at hs
  have := headReads_law s.data.toList w (by simpa using hs) (cardBase.etype_of_laid (by simp [Rows.headReadsRow]) hL)
    (cardBase.tab_of_laid (n := 256) (t := 162) (e := 5) (L := Rows.headReadsRow.laid) (by kernel_rfl) asName (by kernel_rfl) Tryz.underlying162 Tryz.underlying5 (by kernel_rfl) (by kernel_rfl) hL)
    (cardBase.tab_of_laid (n := 20) (t := 189) (e := 66) (L := Rows.headReadsRow.laid) (by kernel_rfl) ptName (by kernel_rfl) Tryz.underlying189 Tryz.underlying66 (by kernel_rfl) (by kernel_rfl) hL)
  rwa [bs_data] at this
end Go.Proofs.YtnkdbmenmaabjaaGreatDoor
