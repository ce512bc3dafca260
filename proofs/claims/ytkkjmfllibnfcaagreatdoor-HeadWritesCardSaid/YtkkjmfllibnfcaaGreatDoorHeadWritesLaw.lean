/- The law HeadWrites answers true. -/
import Derived.Test.YtkkjmfllibnfcaaGreatDoorCardBase
import Derived.Test.YtkkjmfllibnfcaaGreatDoorHeadWr
import Derived.Test.YtkkjmfllibnfcaaGreatDoorHeadWrR
namespace Go.Proofs.YtkkjmfllibnfcaaGreatDoor
open Go Go.RowKit Go.ChangeShapes
set_option linter.unusedVariables false
set_option linter.unusedSectionVars false
set_option linter.unusedSimpArgs false
set_option maxRecDepth 100000
set_option maxHeartbeats 4000000 in
theorem headWrites_law (op : Int) (now : Bool) (flags : Int) (v : Value) (vs : List Nat) (words data : Int) (w : World) (h0 : -9223372036854775808 ≤ op) (h1 : op ≤ 9223372036854775807) (g0 : -9223372036854775808 ≤ flags) (g1 : flags ≤ 9223372036854775807)
    (hn : vs.length ≤ 9223372036854775807) (hv : ∀ x ∈ vs, x ≤ 18446744073709551615) (hsl : Sl w v 1 vs.length (u64Cells vs)) (hg : EType w) (hT : AS w) (hP : PT w) :
    Calls Tryz.prog 7 #[headV op now flags v, .int .i64 words, .int .i64 data] w fun e w' => e = .returned (.bool true) ∧ Below w.heap.size w w' := by
  have c1 := fun w1 (hb : Below w.heap.size w w1) => hid (rwrite_any op now flags v vs words data w1 h0 h1 g0 g1 hn hv (hsl.below (Nat.le_refl _) hb))
  have c2 := fun w1 (hb : Below w.heap.size w w1) => hid (write_any op now flags v vs words data w1 h0 h1 g0 g1 hn hv (hsl.below (Nat.le_refl _) hb) (hT.below hb (Nat.le_refl _)) (hP.below hb (Nat.le_refl _)))
  have cp := fun u k pl w1 (hb : Below w.heap.size w w1) (hu : ErrIs w1 u k pl) => hid (placed_ok u k pl w1 (hg.below hb) hu)
  unfold WriteRPost at c1
  unfold WritePost at c2
  generalize writeH op now flags vs words data = R at *
  obtain ⟨X, k, pl⟩ := R
  obtain ⟨sa, sc, rfl, hsl1, hsl2⟩ := hsl
  clear hg hT hP hsl2
  have b1 := (Below.refl w.heap.size w).alloc (Nat.le_refl _) (.cells #[.int .i64 op, .bool now, .int .i64 flags, .slice sa vs.length sc] 36)
  have B1 := Blk.new w 36 #[.int .i64 op, .bool now, .int .i64 flags, .slice sa vs.length sc]
  unfold faultV at c1
  simp only [headV] at c1 c2
  go_enter Tryz.func7, Tryz.ntmps7
  unfold headV
  by_cases hl : 50 < vs.length
  · go_wp2_with fail
    go_ret
    exact ⟨rfl, b1⟩
  · go_wp2_with fail
    refine (c1 _ b1).out.mono ?_
    rintro e w1 ⟨rfl, hb1⟩
    have B2 := B1.below hb1
    have b2 := b1.trans (hb1.mono b1.size)
    have b3 := b2.alloc b2.size (.cells #[.int .i64 (k : Nat), .int .i64 pl] 24)
    have F3 := Blk.new w1 24 #[.int .i64 (k : Nat), .int .i64 pl]
    have B3 := B2.below ((Below.refl _ _).alloc (Nat.le_refl _) (.cells #[.int .i64 (k : Nat), .int .i64 pl] 24))
    have p0 : w1.cell? ⟨w.heap.size, 0, none⟩ = some (.int .i64 op) := (B2.cell 0).trans rfl
    have p1 : w1.cell? ⟨w.heap.size, 1, none⟩ = some (.bool now) := (B2.cell 1).trans rfl
    have p2 : w1.cell? ⟨w.heap.size, 2, none⟩ = some (.int .i64 flags) := (B2.cell 2).trans rfl
    have p3 : w1.cell? ⟨w.heap.size, 3, none⟩ = some (.slice sa vs.length sc) := (B2.cell 3).trans rfl
    have q8 := B2.lt
    clear hb1
    go_wp2_with fail
    refine (c2 _ b3).out.mono ?_
    rintro e w2 ⟨ev, rfl, her, hb2⟩
    have F4 := F3.below hb2
    have b4 := b3.trans (hb2.mono b3.size)
    have f0 : w2.cell? ⟨w1.heap.size, 0, none⟩ = some (.int .i64 (k : Nat)) := (F4.cell 0).trans rfl
    have f1 : w2.cell? ⟨w1.heap.size, 1, none⟩ = some (.int .i64 pl) := (F4.cell 1).trans rfl
    go_wp2_with fail
    refine (cp _ _ _ _ b4 her).out.mono ?_
    rintro e w3 ⟨rfl, hb3⟩
    go_wp2_with fail
    go_ret
    exact ⟨rfl, b4.trans (hb3.mono b4.size)⟩
theorem headWrites_row (op : Int) (now : Bool) (flags : Int) (v : Value) (vs : List Nat) (words data : Int) (w : World) (h0 : -9223372036854775808 ≤ op ∧ op ≤ 9223372036854775807) (g0 : -9223372036854775808 ≤ flags ∧ flags ≤ 9223372036854775807)
    (hn : vs.length ≤ 9223372036854775807) (hv : ∀ x ∈ vs, x ≤ 18446744073709551615) (hsl : Sl w v 1 vs.length (u64Cells vs)) (hL : laidMetH Tryz.prog Rows.headWritesRow.laid w) :
    Calls Tryz.prog 7 #[headV op now flags v, .int .i64 words, .int .i64 data] w fun e w' => e = .returned (.bool true) ∧ Below w.heap.size w w' :=
  headWrites_law op now flags v vs words data w h0.1 h0.2 g0.1 g0.2 hn hv hsl (cardBase.etype_of_laid (by simp [Rows.headWritesRow]) hL)
    (cardBase.tab_of_laid (n := 256) (t := 145) (e := 5) (L := Rows.headWritesRow.laid) (by kernel_rfl) asName (by kernel_rfl) Tryz.underlying145 Tryz.underlying5 (by kernel_rfl) (by kernel_rfl) hL)
    (cardBase.tab_of_laid (n := 20) (t := 210) (e := 45) (L := Rows.headWritesRow.laid) (by kernel_rfl) ptName (by kernel_rfl) Tryz.underlying210 Tryz.underlying45 (by kernel_rfl) (by kernel_rfl) hL)
end Go.Proofs.YtkkjmfllibnfcaaGreatDoor
