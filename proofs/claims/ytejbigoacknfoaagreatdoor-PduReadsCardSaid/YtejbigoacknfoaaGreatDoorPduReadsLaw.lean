/- The walk of the law PduReads: it returns true. -/
import Derived.Test.YtejbigoacknfoaaGreatDoorPduRdR
import Derived.Test.YtejbigoacknfoaaGreatDoorSame
import Derived.Test.YtejbigoacknfoaaGreatDoorHeadArg
import Derived.Test.YtejbigoacknfoaaGreatDoorBlk
set_option linter.unusedSectionVars false
set_option linter.unusedSimpArgs false
set_option linter.unusedVariables false
namespace Go.Proofs.YtejbigoacknfoaaGreatDoor
open Go Go.RowKit
set_option linter.unusedVariables false
set_option linter.unusedSectionVars false
set_option linter.unusedSimpArgs false
set_option maxRecDepth 100000
theorem ahsP_len : ∀ (f : Nat) (rest : List UInt8) (k : Nat), (ahsP f rest k).1.length ≤ f
  | 0, _, _ => by simp [ahsP]
  | f + 1, rest, k => by
    simp only [ahsP]
    split
    · simp
    · split
      · simp
      · split
        · have := ahsP_len f (rest.drop (3 + num (rest.take 2) + padN (3 + num (rest.take 2)))) (k + (3 + num (rest.take 2) + padN (3 + num (rest.take 2))))
          simp only [List.length_cons]
          omega
        · simp
theorem readP_len (s : List UInt8) (mode : Int) (hs : s.length ≤ 3000) : (readP s mode).vals.length ≤ 1000000 ∧ (readP s mode).ahs.length ≤ 1000000 := by
  have h1 := read_len' (s.take 48)
  have h2 : (ahsOf s).1.length ≤ 3001 := by
    refine Nat.le_trans (ahsP_len _ _ _) ?_
    simp; omega
  unfold readP
  split
  · simp [rdNo]
  split
  · simp [rdNo]
  unfold readPa
  split
  · simp [rdNo]
  split
  · simp [rdNo]
  split
  · simp [rdNo]
  split
  · simp [rdNo]
  split
  · simp [rdNo]
  split
  · simp [rdNo]
  exact ⟨by simp only; omega, by simp only; omega⟩
set_option maxHeartbeats 8000000 in
theorem pduReads_law (s : List UInt8) (mode : Int) (w : World) (hm0 : -9223372036854775808 ≤ mode) (hm1 : mode ≤ 9223372036854775807) (hg : EType w) (hT : AS w) (hP : PT w) :
    Calls Tryz.prog 7 #[.string (bs s), .int .i64 mode] w fun e w' => e = .returned (.bool true) ∧ Below w.heap.size w w' := by
  by_cases hs : s.length ≤ 3000
  · have hd : decide ((3000 : Int) < (s.length : Int)) = false := decide_eq_false (by omega)
    have c1 := fun w1 => hid (rpduRead_any s mode w1 (by omega) hm0 hm1)
    have c2 := fun w1 (hb : Below w.heap.size w w1) => hid (pduRead_any s mode w1 (by omega) hm0 hm1 (hg.below hb) (hT.below hb (Nat.le_refl _)) (hP.below hb (Nat.le_refl _)))
    have c3 := fun w1 => hid (rsize_any s mode w1 (by omega) hm0 hm1)
    have c4 := fun w1 => hid (size_any s mode w1 (by omega) hm0 hm1)
    have cb := fun k w1 (hb : Below w.heap.size w w1) => hid (bare_ok (errV 22 k) k w1 (hg.below hb) (ErrIs.errV w1 k))
    unfold PduRdRPost at c1
    unfold PduRdPost at c2
    obtain ⟨hl1, hl2⟩ := readP_len s mode hs
    generalize readP s mode = R at *
    generalize sizeP s mode = Z at *
    obtain ⟨z1, z2⟩ := Z
    simp only at c3 c4
    have CB1 := hid (cb R.e); have CB2 := hid (cb z2)
    clear cb hg hT hP
    have he1 : (errV 22 R.e).cells = #[errV 22 R.e] := by unfold errV; split <;> rfl
    have he2 : (errV 22 z2).cells = #[errV 22 z2] := by unfold errV; split <;> rfl
    generalize errV 22 R.e = ev1 at *
    generalize errV 22 z2 = ev2 at *
    have b0 := Below.refl w.heap.size w
    go_enter Tryz.func7, Tryz.ntmps7
    go_wp2_with fail
    refine (c1 _).out.mono ?_
    rintro e w2 ⟨v1, a1, rfl, hv1, ha1, hb2⟩
    have V1 := hid hv1; have A1 := hid ha1
    obtain ⟨p1, n1, rfl, _⟩ := hv1
    obtain ⟨q1, m1, rfl, _⟩ := ha1
    unfold pduV
    go_wp2_with fail
    have b2 := hb2
    have B3 := Blk.new w2 55 #[.int .i64 R.op, .bool R.now, .int .i64 R.flags, .slice p1 R.vals.length n1, .slice q1 R.ahs.length m1, .string (bs R.data)]
    have hA3 := (Below.refl w2.heap.size w2).alloc (Nat.le_refl _) (.cells #[.int .i64 R.op, .bool R.now, .int .i64 R.flags, .slice p1 R.vals.length n1, .slice q1 R.ahs.length m1, .string (bs R.data)] 55)
    have V3 := hid (V1.out.below (by omega) hA3)
    have A3 := hid (A1.out.below (by omega) hA3)
    have b3 := b2.trans (hA3.mono b2.size)
    have hp3 : w.heap.size ≤ w2.heap.size := b2.size
    generalize w2.alloc (.cells #[.int .i64 R.op, .bool R.now, .int .i64 R.flags, .slice p1 R.vals.length n1, .slice q1 R.ahs.length m1, .string (bs R.data)] 55) = w3 at *
    generalize w2.heap.size = pA at *
    clear hA3
    refine (c2 _ b3).out.mono ?_
    rintro e w4 ⟨v2, a2, rfl, hv2, ha2, hb4⟩
    have V2 := hid hv2; have A2 := hid ha2
    obtain ⟨p2, n2, rfl, _⟩ := hv2
    obtain ⟨q2, m2, rfl, _⟩ := ha2
    unfold pduV
    have B4 := B3.below hb4
    have V4 := hid (V3.out.below (by omega) hb4)
    have A4 := hid (A3.out.below (by omega) hb4)
    have b4 := b3.trans (hb4.mono b3.size)
    go_wp2_with fail
    have C5 := Blk.new w4 55 #[.int .i64 R.op, .bool R.now, .int .i64 R.flags, .slice p2 R.vals.length n2, .slice q2 R.ahs.length m2, .string (bs R.data)]
    have hA5 := (Below.refl w4.heap.size w4).alloc (Nat.le_refl _) (.cells #[.int .i64 R.op, .bool R.now, .int .i64 R.flags, .slice p2 R.vals.length n2, .slice q2 R.ahs.length m2, .string (bs R.data)] 55)
    have V5 := hid (V4.out.below (by omega) hA5)
    have A5 := hid (A4.out.below (by omega) hA5)
    have V6 := hid (V2.out.below (by omega) hA5)
    have A6 := hid (A2.out.below (by omega) hA5)
    have B5 := B4.below hA5
    have b5 := b4.trans (hA5.mono b4.size)
    generalize w4.alloc (.cells #[.int .i64 R.op, .bool R.now, .int .i64 R.flags, .slice p2 R.vals.length n2, .slice q2 R.ahs.length m2, .string (bs R.data)] 55) = w5 at *
    generalize w4.heap.size = pB at *
    clear hA5
    refine (c3 _).out.mono ?_
    rintro e w6 ⟨rfl, hb6⟩
    go_wp2_with fail
    refine (c4 _).out.mono ?_
    rintro e w7 ⟨rfl, hb7⟩
    have hb7' := hb6.trans (hb7.mono hb6.size)
    go_wp2_with fail
    refine (CB1.out _ (b5.trans (hb7'.mono b5.size))).out.mono ?_
    rintro e w8 ⟨rfl, hb8⟩
    have hb8' := hb7'.trans (hb8.mono hb7'.size)
    have b8 := b5.trans (hb8'.mono b5.size)
    have B8 := B5.below hb8'
    have C8 := C5.below hb8'
    have V8 := hid (V5.out.below (by omega) hb8')
    have A8 := hid (A5.out.below (by omega) hb8')
    have V9 := hid (V6.out.below (by omega) hb8')
    have A9 := hid (A6.out.below (by omega) hb8')
    have s3 : w8.cell? ⟨pA, 3, none⟩ = some (.slice p1 R.vals.length n1) := (B8.cell 3).trans rfl
    have s4 : w8.cell? ⟨pA, 4, none⟩ = some (.slice q1 R.ahs.length m1) := (B8.cell 4).trans rfl
    have t3 : w8.cell? ⟨pB, 3, none⟩ = some (.slice p2 R.vals.length n2) := (C8.cell 3).trans rfl
    have t4 : w8.cell? ⟨pB, 4, none⟩ = some (.slice q2 R.ahs.length m2) := (C8.cell 4).trans rfl
    have s0 : w8.cell? ⟨pA, 0, none⟩ = some (.int .i64 R.op) := (B8.cell 0).trans rfl
    have s1 : w8.cell? ⟨pA, 1, none⟩ = some (.bool R.now) := (B8.cell 1).trans rfl
    have s2 : w8.cell? ⟨pA, 2, none⟩ = some (.int .i64 R.flags) := (B8.cell 2).trans rfl
    have s5 : w8.cell? ⟨pA, 5, none⟩ = some (.string (bs R.data)) := (B8.cell 5).trans rfl
    have t0 : w8.cell? ⟨pB, 0, none⟩ = some (.int .i64 R.op) := (C8.cell 0).trans rfl
    have t1 : w8.cell? ⟨pB, 1, none⟩ = some (.bool R.now) := (C8.cell 1).trans rfl
    have t2 : w8.cell? ⟨pB, 2, none⟩ = some (.int .i64 R.flags) := (C8.cell 2).trans rfl
    have t5 : w8.cell? ⟨pB, 5, none⟩ = some (.string (bs R.data)) := (C8.cell 5).trans rfl
    have cS := hid (same_true R.op R.now R.flags (.slice p1 R.vals.length n1) (.slice p2 R.vals.length n2) (.slice q1 R.ahs.length m1) (.slice q2 R.ahs.length m2) R.vals R.ahs R.data w8 hl1 hl2 V8.out V9.out A8.out A9.out)
    unfold pduV at cS
    go_wp2_with fail
    refine cS.out.mono ?_
    rintro e w9 ⟨rfl, hb9⟩
    have b9 := b8.trans (hb9.mono b8.size)
    go_wp2_with fail
    refine (CB2.out _ b9).out.mono ?_
    rintro e w10 ⟨rfl, hb10⟩
    go_wp2_with fail
    go_ret
    exact ⟨rfl, b9.trans (hb10.mono b9.size)⟩
  · have hd : decide ((3000 : Int) < (s.length : Int)) = true := decide_eq_true (by omega)
    clear hg hT hP
    go_enter Tryz.func7, Tryz.ntmps7
    go_wp2
    go_ret
    exact ⟨rfl, Below.refl _ _⟩
theorem pduReads_row (s : ByteArray) (mode : Int) (w : World) (hs : s.size ≤ maxLen) (hm : -9223372036854775808 ≤ mode ∧ mode ≤ 9223372036854775807) (hL : laidMetH Tryz.prog Rows.pduReadsRow.laid w) :
    Calls Tryz.prog 7 #[.string s, .int .i64 mode] w fun e w' => e = .returned (.bool true) ∧ Below w.heap.size w w' := by
  have := pduReads_law s.data.toList mode w hm.1 hm.2 (cardBase.etype_of_laid (by simp [Rows.pduReadsRow]) hL)
    (cardBase.tab_of_laid (n := 256) (t := 328) (e := 5) (L := Rows.pduReadsRow.laid) (by kernel_rfl) asName (by kernel_rfl) Tryz.underlying328 Tryz.underlying5 (by kernel_rfl) (by kernel_rfl) hL)
    (cardBase.tab_of_laid (n := 20) (t := 348) (e := 161) (L := Rows.pduReadsRow.laid) (by kernel_rfl) ptName (by kernel_rfl) Tryz.underlying348 Tryz.underlying161 (by kernel_rfl) (by kernel_rfl) hL)
  rwa [bs_data] at this
end Go.Proofs.YtejbigoacknfoaaGreatDoor
