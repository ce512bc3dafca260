/- The walk of the law PduWrites: it returns true. -/
import Derived.Test.YtejbigoacknfoaaGreatDoorPduWrR
import Derived.Test.YtejbigoacknfoaaGreatDoorWide
import Derived.Test.YtejbigoacknfoaaGreatDoorGuard
import Derived.Test.YtejbigoacknfoaaGreatDoorPduArg
import Derived.Test.YtejbigoacknfoaaGreatDoorCardBase
set_option linter.unusedSectionVars false
set_option linter.unusedSimpArgs false
set_option linter.unusedVariables false
namespace Go.Proofs.YtejbigoacknfoaaGreatDoor
open Go Go.RowKit
set_option linter.unusedVariables false
set_option linter.unusedSectionVars false
set_option linter.unusedSimpArgs false
set_option maxRecDepth 100000
def LargePost (w : World) (e : Ending) (w' : World) : Prop := (∃ b : Bool, e = .returned (.bool b)) ∧ Below w.heap.size w w'
set_option maxHeartbeats 4000000 in
theorem large_any (op : Int) (now : Bool) (flags : Int) (v : Value) (vs : List Nat) (av : Value) (n : Nat) (I : Nat → Int × List UInt8) (d : List UInt8) (w : World) (hp : PduIn w op flags v vs av n I d) :
    Calls Tryz.prog 25 #[pduV op now flags v av d] w fun e w' => LargePost w e w' := by
  have c1 := fun w1 (hb : Below w.heap.size w w1) => hid (wide_any av n I w1 (hp.ahs.below hb))
  unfold WidePost at c1
  obtain ⟨aa, ac, rfl⟩ := ahs_form hp.ahs
  obtain ⟨sa, sc, rfl, _⟩ := id hp.vals
  clear hp
  have b1 := (Below.refl w.heap.size w).alloc (Nat.le_refl _) (.cells #[.int .i64 op, .bool now, .int .i64 flags, .slice sa vs.length sc, .slice aa n ac, .string (bs d)] 55)
  have B1 := Blk.new w 55 #[.int .i64 op, .bool now, .int .i64 flags, .slice sa vs.length sc, .slice aa n ac, .string (bs d)]
  go_enter Tryz.func25, Tryz.ntmps25
  unfold pduV
  go_wp2_with fail
  refine (c1 _ b1).out.mono ?_
  rintro e w2 ⟨⟨b, rfl⟩, hb⟩
  have B2 := B1.below hb
  have b2 := b1.trans (hb.mono b1.size)
  have t3 : w2.cell? ⟨w.heap.size, 3, none⟩ = some (.slice sa vs.length sc) := (B2.cell 3).trans rfl
  have t5 : w2.cell? ⟨w.heap.size, 5, none⟩ = some (.string (bs d)) := (B2.cell 5).trans rfl
  obtain ⟨q1, h1⟩ : ∃ q, decide ((50 : Int) < (vs.length : Int)) = q := ⟨_, rfl⟩
  obtain ⟨q2, h2⟩ : ∃ q, decide ((2500 : Int) < (d.length : Int)) = q := ⟨_, rfl⟩
  obtain ⟨q3, h3⟩ : ∃ q, decide ((d.length : Int) ≤ 100000) = q := ⟨_, rfl⟩
  obtain ⟨q4, h4⟩ : ∃ q, decide ((100009 : Int) < (d.length : Int)) = q := ⟨_, rfl⟩
  cases b <;> cases q1 <;> cases q2 <;> cases q3 <;> cases q4
  all_goals
    go_wp2
    go_ret
    exact ⟨⟨_, rfl⟩, b2⟩
set_option maxHeartbeats 8000000 in
theorem pduWrites_law (op : Int) (now : Bool) (flags : Int) (v : Value) (vs : List Nat) (av : Value) (n : Nat) (I : Nat → Int × List UInt8) (d : List UInt8) (mode : Int) (w : World) (hp : PduIn w op flags v vs av n I d) (hm0 : -9223372036854775808 ≤ mode) (hm1 : mode ≤ 9223372036854775807) (hg : EType w) (hT : AS w) (hP : PT w) :
    Calls Tryz.prog 5 #[pduV op now flags v av d, .int .i64 mode] w fun e w' => e = .returned (.bool true) ∧ Below w.heap.size w w' := by
  have c0 := fun w1 (hb : Below w.heap.size w w1) => hid (large_any op now flags v vs av n I d w1 (hp.below hb))
  have c1 := fun w1 (hb : Below w.heap.size w w1) => hid (rpduWrite_any op now flags v vs av n I d mode w1 (hp.below hb) hm0 hm1 (hg.below hb) (hT.below hb (Nat.le_refl _)) (hP.below hb (Nat.le_refl _)))
  have c2 := fun w1 (hb : Below w.heap.size w w1) => hid (pduWrite_any op now flags v vs av n I d mode w1 (hp.below hb) hm0 hm1 (hg.below hb) (hT.below hb (Nat.le_refl _)) (hP.below hb (Nat.le_refl _)))
  have c3 := fun w1 (hb : Below w.heap.size w w1) => hid (pduRight_any op now flags v vs av n I d w1 (hp.below hb) (hg.below hb) (hT.below hb (Nat.le_refl _)) (hP.below hb (Nat.le_refl _)))
  have c4 := fun w1 (hb : Below w.heap.size w w1) => hid (rpduRight_any op now flags v vs av n I d w1 (hp.below hb) (hg.below hb) (hT.below hb (Nat.le_refl _)) (hP.below hb (Nat.le_refl _)))
  have cm := fun w1 => hid (modes_any mode w1 hm0 hm1)
  have cb := fun k w1 (hb : Below w.heap.size w w1) => hid (bare_ok (errV 22 k) k w1 (hg.below hb) (ErrIs.errV w1 k))
  unfold LargePost at c0
  unfold PduWRPost at c1
  unfold PduWPost at c2
  obtain ⟨aa, ac, rfl⟩ := ahs_form hp.ahs
  obtain ⟨sa, sc, rfl, _⟩ := id hp.vals
  generalize pduW op now flags vs n I d mode = R at *
  obtain ⟨L, k⟩ := R
  generalize pduE op now flags vs n I d = E at *
  simp only at c1 c2
  have CB1 := hid (cb k); have CB2 := hid (cb E)
  have C3 := hid c3; have C4 := hid c4; have CM := hid cm
  clear hp hg hT hP cb c3 c4 cm
  have hel : (errV 22 k).cells = #[errV 22 k] := by unfold errV; split <;> rfl
  have b1 := (Below.refl w.heap.size w).alloc (Nat.le_refl _) (.cells #[.int .i64 op, .bool now, .int .i64 flags, .slice sa vs.length sc, .slice aa n ac, .string (bs d)] 55)
  have B1 := Blk.new w 55 #[.int .i64 op, .bool now, .int .i64 flags, .slice sa vs.length sc, .slice aa n ac, .string (bs d)]
  generalize errV 22 k = ev at *
  generalize errV 22 E = e2 at *
  unfold pduV at c0 c1 c2
  go_enter Tryz.func5, Tryz.ntmps5
  unfold pduV
  go_wp2_with fail
  refine (c0 _ b1).out.mono ?_
  rintro e w2 ⟨⟨b, rfl⟩, hb2⟩
  have B2 := B1.below hb2
  have b2 := b1.trans (hb2.mono b1.size)
  cases b with
  | true =>
    go_wp2
    go_ret
    exact ⟨rfl, b2⟩
  | false =>
    have t0 : w2.cell? ⟨w.heap.size, 0, none⟩ = some (.int .i64 op) := (B2.cell 0).trans rfl
    have t1 : w2.cell? ⟨w.heap.size, 1, none⟩ = some (.bool now) := (B2.cell 1).trans rfl
    have t2 : w2.cell? ⟨w.heap.size, 2, none⟩ = some (.int .i64 flags) := (B2.cell 2).trans rfl
    have t3 : w2.cell? ⟨w.heap.size, 3, none⟩ = some (.slice sa vs.length sc) := (B2.cell 3).trans rfl
    have t4 : w2.cell? ⟨w.heap.size, 4, none⟩ = some (.slice aa n ac) := (B2.cell 4).trans rfl
    have t5 : w2.cell? ⟨w.heap.size, 5, none⟩ = some (.string (bs d)) := (B2.cell 5).trans rfl
    go_wp2_with fail
    refine (c1 _ b2).out.mono ?_
    rintro e w3 ⟨rfl, hb3⟩
    have B3 := B2.below hb3
    have b3 := b2.trans (hb3.mono b2.size)
    clear t0 t1 t2 t3 t4 t5
    have t0 : w3.cell? ⟨w.heap.size, 0, none⟩ = some (.int .i64 op) := (B3.cell 0).trans rfl
    have t1 : w3.cell? ⟨w.heap.size, 1, none⟩ = some (.bool now) := (B3.cell 1).trans rfl
    have t2 : w3.cell? ⟨w.heap.size, 2, none⟩ = some (.int .i64 flags) := (B3.cell 2).trans rfl
    have t3 : w3.cell? ⟨w.heap.size, 3, none⟩ = some (.slice sa vs.length sc) := (B3.cell 3).trans rfl
    have t4 : w3.cell? ⟨w.heap.size, 4, none⟩ = some (.slice aa n ac) := (B3.cell 4).trans rfl
    have t5 : w3.cell? ⟨w.heap.size, 5, none⟩ = some (.string (bs d)) := (B3.cell 5).trans rfl
    go_wp2_with fail
    refine (c2 _ b3).out.mono ?_
    rintro e w5 ⟨rfl, hb5⟩
    have B5 := B3.below hb5
    have b5 := b3.trans (hb5.mono b3.size)
    clear t0 t1 t2 t3 t4 t5 c0 c1 c2
    have hmx : Tryz.prog.follows .mixedOrders = true := by kernel_rfl
    have hll : (L == L) = true := by simp
    go_wp2_with fail
    by_cases hneg : mode < 0
    · have hd0 : decide ((0 : Int) ≤ mode) = false := decide_eq_false (by omega)
      rw [hd0, Bool.false_and] at CM
      refine wpIn_wide (n := 4).1 ?_
      refine region_guard (aF := ?kAneg) [(23, ev), (24, .int .i64 (k : Nat)), (25, .bool true), (26, .bool true), (27, .string (bs L)), (28, .string (bs L)), (29, .bool true), (30, .bool true), (31, .bool true), (32, pduV op now flags (.slice sa vs.length sc) (.slice aa n ac) d), (33, e2), (34, pduV op now flags (.slice sa vs.length sc) (.slice aa n ac) d), (35, .int .i64 (E : Nat)), (36, .bool true), (37, .bool true), (38, .bool true), (39, .int .i64 mode), (40, .bool false), (41, .int .i64 mode), (42, .bool false), (43, .bool false), (44, undef), (45, undef), (46, .bool false), (47, .bool true), (48, .bool true), (4, .bool true)] (fun W => Blk W w.heap.size 55 #[.int .i64 op, .bool now, .int .i64 flags, .slice sa vs.length sc, .slice aa n ac, .string (bs d)] ∧ Below w.heap.size w W) ?kBneg hmx (by kernel_rfl) (by kernel_rfl) ⟨B5, b5.drew⟩ ?kCneg ?kDneg
      case kBneg =>
        simp only [putAll, List.foldl_cons, List.foldl_nil, List.setIfInBounds_toArray, List.set_cons_zero, List.set_cons_succ]
        exact rfl
      case kCneg =>
        refine ⟨?_, ?_, ?_, ?_, ?_, ?_, ?_, ?_, ?_, ?_, ?_, ?_, ?_, ?_, ?_, ?_, ?_, ?_, ?_, ?_, ?_, ?_, ?_, ?_, ?_, ?_, ?_, trivial⟩
        all_goals refine ⟨fun d hd => by simp at hd <;> (subst hd; simp), ?_⟩
        all_goals first
          | refine .inl ⟨by first | exact trivial | exact ⟨by simp, rfl⟩, fun W h => ⟨?_, ?_⟩⟩
          | refine .inr ⟨⟨by simp, rfl⟩, fun d hd => by simp at hd <;> (subst hd; rfl), fun W h f hf => by simp [go_sem, Oper.about] at hf⟩
        all_goals first
          | (simp [go_sem, Oper.about]; done)
          | (simp [go_sem, Oper.about]; exact trivial)
          | skip
        all_goals obtain ⟨hBW, hbW⟩ := h
        all_goals
          have t0 : W.cell? ⟨w.heap.size, 0, none⟩ = some (.int .i64 op) := (hBW.cell 0).trans rfl
          have t1 : W.cell? ⟨w.heap.size, 1, none⟩ = some (.bool now) := (hBW.cell 1).trans rfl
          have t2 : W.cell? ⟨w.heap.size, 2, none⟩ = some (.int .i64 flags) := (hBW.cell 2).trans rfl
          have t3 : W.cell? ⟨w.heap.size, 3, none⟩ = some (.slice sa vs.length sc) := (hBW.cell 3).trans rfl
          have t4 : W.cell? ⟨w.heap.size, 4, none⟩ = some (.slice aa n ac) := (hBW.cell 4).trans rfl
          have t5 : W.cell? ⟨w.heap.size, 5, none⟩ = some (.string (bs d)) := (hBW.cell 5).trans rfl
        all_goals first
          | (simp [OpInv, go_sem, hBW, hbW, hd0]; done)
          | (simp [OpInv, go_sem, pduV, t0, t1, t2, t3, t4, t5, hBW, hbW]; done)
          | skip
        · have hc := (CB1.out W hbW).out
          simp [OpInv, go_sem]
          refine callsIn_wide.2 (hc.mono ?_)
          rintro e w7 ⟨rfl, hb⟩
          exact ⟨_, rfl, rfl, hBW.below hb, hbW.trans (hb.mono hbW.size)⟩
        · have hc := (C3.out W hbW).out
          simp [OpInv, go_sem]
          refine callsIn_wide.2 (hc.mono ?_)
          rintro e w7 ⟨rfl, hb⟩
          exact ⟨_, rfl, rfl, hBW.below hb, hbW.trans (hb.mono hbW.size)⟩
        · have hc := (C4.out W hbW).out
          simp [OpInv, go_sem]
          refine callsIn_wide.2 (hc.mono ?_)
          rintro e w7 ⟨rfl, hb⟩
          exact ⟨_, rfl, rfl, hBW.below hb, hbW.trans (hb.mono hbW.size)⟩
        · have hc := (CB2.out W hbW).out
          simp [OpInv, go_sem]
          refine callsIn_wide.2 (hc.mono ?_)
          rintro e w7 ⟨rfl, hb⟩
          exact ⟨_, rfl, rfl, hBW.below hb, hbW.trans (hb.mono hbW.size)⟩
        · have hc := (CM.out W).out
          simp [OpInv, go_sem]
          refine callsIn_wide.2 (hc.mono ?_)
          rintro e _ ⟨rfl, rfl⟩
          exact ⟨_, rfl, rfl, hBW, hbW⟩
      case kDneg =>
        rintro W ⟨hBW, hbW⟩
        gi_wp2
        go_wp2
        go_ret
        exact ⟨rfl, hbW⟩
    · have hd0 : decide ((0 : Int) ≤ mode) = true := decide_eq_true (by omega)
      rw [hd0, Bool.true_and] at CM
      obtain ⟨q, hd3⟩ : ∃ q, decide (mode ≤ 3) = q := ⟨_, rfl⟩
      rw [hd3] at CM
      refine wpIn_wide (n := 4).1 ?_
      refine region_guard (aF := ?kApos) [(23, ev), (24, .int .i64 (k : Nat)), (25, .bool true), (26, .bool true), (27, .string (bs L)), (28, .string (bs L)), (29, .bool true), (30, .bool true), (31, .bool true), (32, pduV op now flags (.slice sa vs.length sc) (.slice aa n ac) d), (33, e2), (34, pduV op now flags (.slice sa vs.length sc) (.slice aa n ac) d), (35, .int .i64 (E : Nat)), (36, .bool true), (37, .bool true), (38, .bool true), (39, .int .i64 mode), (40, .bool q), (41, .int .i64 mode), (42, .bool true), (43, .bool true), (44, .int .i64 mode), (45, .bool q), (46, .bool q), (47, .bool true), (48, .bool true), (4, .bool true)] (fun W => Blk W w.heap.size 55 #[.int .i64 op, .bool now, .int .i64 flags, .slice sa vs.length sc, .slice aa n ac, .string (bs d)] ∧ Below w.heap.size w W) ?kBpos hmx (by kernel_rfl) (by kernel_rfl) ⟨B5, b5.drew⟩ ?kCpos ?kDpos
      case kBpos =>
        simp only [putAll, List.foldl_cons, List.foldl_nil, List.setIfInBounds_toArray, List.set_cons_zero, List.set_cons_succ]
        exact rfl
      case kCpos =>
        refine ⟨?_, ?_, ?_, ?_, ?_, ?_, ?_, ?_, ?_, ?_, ?_, ?_, ?_, ?_, ?_, ?_, ?_, ?_, ?_, ?_, ?_, ?_, ?_, ?_, ?_, ?_, ?_, trivial⟩
        all_goals refine ⟨fun d hd => by simp at hd <;> (subst hd; simp), ?_⟩
        all_goals first
          | refine .inl ⟨by first | exact trivial | exact ⟨by simp, rfl⟩, fun W h => ⟨?_, ?_⟩⟩
          | refine .inr ⟨⟨by simp, rfl⟩, fun d hd => by simp at hd <;> (subst hd; rfl), fun W h f hf => by simp [go_sem, Oper.about] at hf⟩
        all_goals first
          | (simp [go_sem, Oper.about]; done)
          | (simp [go_sem, Oper.about]; exact trivial)
          | skip
        all_goals obtain ⟨hBW, hbW⟩ := h
        all_goals
          have t0 : W.cell? ⟨w.heap.size, 0, none⟩ = some (.int .i64 op) := (hBW.cell 0).trans rfl
          have t1 : W.cell? ⟨w.heap.size, 1, none⟩ = some (.bool now) := (hBW.cell 1).trans rfl
          have t2 : W.cell? ⟨w.heap.size, 2, none⟩ = some (.int .i64 flags) := (hBW.cell 2).trans rfl
          have t3 : W.cell? ⟨w.heap.size, 3, none⟩ = some (.slice sa vs.length sc) := (hBW.cell 3).trans rfl
          have t4 : W.cell? ⟨w.heap.size, 4, none⟩ = some (.slice aa n ac) := (hBW.cell 4).trans rfl
          have t5 : W.cell? ⟨w.heap.size, 5, none⟩ = some (.string (bs d)) := (hBW.cell 5).trans rfl
        all_goals first
          | (simp [OpInv, go_sem, hBW, hbW, hd0, hd3]; done)
          | (simp [OpInv, go_sem, pduV, t0, t1, t2, t3, t4, t5, hBW, hbW]; done)
          | skip
        · have hc := (CB1.out W hbW).out
          simp [OpInv, go_sem]
          refine callsIn_wide.2 (hc.mono ?_)
          rintro e w7 ⟨rfl, hb⟩
          exact ⟨_, rfl, rfl, hBW.below hb, hbW.trans (hb.mono hbW.size)⟩
        · have hc := (C3.out W hbW).out
          simp [OpInv, go_sem]
          refine callsIn_wide.2 (hc.mono ?_)
          rintro e w7 ⟨rfl, hb⟩
          exact ⟨_, rfl, rfl, hBW.below hb, hbW.trans (hb.mono hbW.size)⟩
        · have hc := (C4.out W hbW).out
          simp [OpInv, go_sem]
          refine callsIn_wide.2 (hc.mono ?_)
          rintro e w7 ⟨rfl, hb⟩
          exact ⟨_, rfl, rfl, hBW.below hb, hbW.trans (hb.mono hbW.size)⟩
        · have hc := (CB2.out W hbW).out
          simp [OpInv, go_sem]
          refine callsIn_wide.2 (hc.mono ?_)
          rintro e w7 ⟨rfl, hb⟩
          exact ⟨_, rfl, rfl, hBW.below hb, hbW.trans (hb.mono hbW.size)⟩
        · have hc := (CM.out W).out
          simp [OpInv, go_sem]
          refine callsIn_wide.2 (hc.mono ?_)
          rintro e _ ⟨rfl, rfl⟩
          exact ⟨_, rfl, rfl, hBW, hbW⟩
      case kDpos =>
        rintro W ⟨hBW, hbW⟩
        gi_wp2
        go_wp2
        go_ret
        exact ⟨rfl, hbW⟩
theorem pduWrites_row (op : Int) (now : Bool) (flags : Int) (v : Value) (vs : List Nat) (av : Value) (n : Nat) (I : Nat → Int × List UInt8) (d : List UInt8) (mode : Int) (w : World) (hp : PduIn w op flags v vs av n I d) (hm : -9223372036854775808 ≤ mode ∧ mode ≤ 9223372036854775807) (hL : laidMetH Tryz.prog Rows.pduWritesRow.laid w) :
    Calls Tryz.prog 5 #[pduV op now flags v av d, .int .i64 mode] w fun e w' => e = .returned (.bool true) ∧ Below w.heap.size w w' :=
  pduWrites_law op now flags v vs av n I d mode w hp hm.1 hm.2 (cardBase.etype_of_laid (by simp [Rows.pduWritesRow]) hL)
    (cardBase.tab_of_laid (n := 256) (t := 328) (e := 5) (L := Rows.pduWritesRow.laid) (by kernel_rfl) asName (by kernel_rfl) Tryz.underlying328 Tryz.underlying5 (by kernel_rfl) (by kernel_rfl) hL)
    (cardBase.tab_of_laid (n := 20) (t := 348) (e := 161) (L := Rows.pduWritesRow.laid) (by kernel_rfl) ptName (by kernel_rfl) Tryz.underlying348 Tryz.underlying161 (by kernel_rfl) (by kernel_rfl) hL)
end Go.Proofs.YtejbigoacknfoaaGreatDoor
