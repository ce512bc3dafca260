/- The walk of the law HeadKnows: it returns true. -/
import Derived.Test.YtkkjmfllibnfcaaGreatDoorHeadRightR
import Derived.Test.YtkkjmfllibnfcaaGreatDoorHeadValue
import Derived.Test.YtkkjmfllibnfcaaGreatDoorEqualFields
import Derived.Test.YtkkjmfllibnfcaaGreatDoorCardBase
import Derived.Deep.RegionHeld3
namespace Go.Proofs.YtkkjmfllibnfcaaGreatDoor
open Go Go.RowKit
set_option linter.unusedVariables false
set_option linter.unusedSectionVars false
set_option linter.unusedSimpArgs false
set_option maxRecDepth 100000
set_option maxHeartbeats 4000000 in
theorem headKnows_law (op0 op : Int) (now : Bool) (flags : Int) (v : Value) (vs : List Nat) (name : List UInt8) (w : World) (a0 : -9223372036854775808 ≤ op0) (a1 : op0 ≤ 9223372036854775807) (h0 : -9223372036854775808 ≤ op) (h1 : op ≤ 9223372036854775807) (g0 : -9223372036854775808 ≤ flags) (g1 : flags ≤ 9223372036854775807)
    (hnm : name.length ≤ 9223372036854775807) (hn : vs.length ≤ 9223372036854775807) (hv : ∀ x ∈ vs, x ≤ 18446744073709551615) (hsl : Sl w v 1 vs.length (u64Cells vs)) (hg : EType w) (hT : AS w) (hP : PT w) :
    Calls Tryz.prog 4 #[.int .i64 op0, headV op now flags v, .string (bs name)] w fun e w' => e = .returned (.bool true) ∧ Below w.heap.size w w' := by
  have HSL := hid hsl
  have c1 := fun w1 => hid (kind_any op0 w1)
  have c2 := fun w1 (hb : Below w.heap.size w w1) => hid (hname_any op0 a0 a1 w1 (hT.below hb (Nat.le_refl _)) (hP.below hb (Nat.le_refl _)))
  have c3 := fun w1 (hb : Below w.heap.size w w1) => hid (hflags_any op0 a0 a1 w1 (hT.below hb (Nat.le_refl _)) (hP.below hb (Nat.le_refl _)))
  have c4 := fun w1 (hb : Below w.heap.size w w1) => hid (hfields_any op0 a0 a1 w1 (hT.below hb (Nat.le_refl _)) (hP.below hb (Nat.le_refl _)))
  have c5 := fun w1 (hb : Below w.heap.size w w1) => hid (rvalue_h op now flags v vs name w1 h0 h1 hn (HSL.out.below (by omega) hb) (hT.below hb (Nat.le_refl _)) (hP.below hb (Nat.le_refl _)))
  have c6 := fun w1 (hb : Below w.heap.size w w1) => hid (value_h op now flags v vs name w1 h0 h1 hn (HSL.out.below (by omega) hb) (hT.below hb (Nat.le_refl _)) (hP.below hb (Nat.le_refl _)))
  have c7 := fun w1 (hb : Below w.heap.size w w1) => hid (right_any op now flags v vs w1 h0 h1 g0 g1 hn hv (HSL.out.below (by omega) hb) (hT.below hb (Nat.le_refl _)) (hP.below hb (Nat.le_refl _)))
  have c8 := fun w1 (hb : Below w.heap.size w w1) => hid (rright_any op now flags v vs w1 h0 h1 g0 g1 hn hv (HSL.out.below (by omega) hb))
  obtain ⟨sa, sc, rfl, hsl1, hsl2⟩ := hsl
  clear hsl1 hsl2
  unfold headV at *
  by_cases h50 : 50 < name.length
  · have hd : decide ((50 : Int) < (name.length : Int)) = true := decide_eq_true (by omega)
    clear c1 c2 c3 c4 c5 c6 c7 c8
    go_enter Tryz.func4, Tryz.ntmps4
    go_wp2
    go_ret
    exact ⟨rfl, (Below.refl _ _).alloc (Nat.le_refl _) _⟩
  by_cases h51 : 50 < vs.length
  · have hd : decide ((50 : Int) < (name.length : Int)) = false := decide_eq_false (by omega)
    have hd2 : decide ((50 : Int) < (vs.length : Int)) = true := decide_eq_true (by omega)
    clear c1 c2 c3 c4 c5 c6 c7 c8
    go_enter Tryz.func4, Tryz.ntmps4
    go_wp2
    go_ret
    exact ⟨rfl, (Below.refl _ _).alloc (Nat.le_refl _) _⟩
  have hd : decide ((50 : Int) < (name.length : Int)) = false := decide_eq_false (by omega)
  have hd2 : decide ((50 : Int) < (vs.length : Int)) = false := decide_eq_false (by omega)
  cases hf : findH op0 with
  | none =>
    unfold KindPost at c1
    unfold FieldsPost at c4
    have hE1 : HErr (findH op0) = errV 22 1 := by rw [hf]; rfl
    have hS1 : (findH op0).isSome = false := by rw [hf]; rfl
    have hxl : (hFields (findH op0)).length ≤ 12 := by rw [hf]; exact Nat.zero_le _
    rw [hE1] at c2 c3 c4
    rw [hS1] at c1
    clear hE1 hS1
    generalize hName (findH op0) = nm at *
    generalize hFlags (findH op0) = fl at *
    generalize hFields (findH op0) = xs at *
    have hev : ∀ (W : World) (x : Value) (ki : Int), (∃ k : Nat, ki = k ∧ x = errV 22 k) → ∃ k : Nat, ki = k ∧ ErrIs W x k (-1) := by
      rintro W x ki ⟨k, h, rfl⟩
      exact ⟨k, h, ErrIs.errV W k⟩
    have cb : ∀ (x : Value) (ki : Int) (W : World), Below w.heap.size w W → (∃ k : Nat, ki = k ∧ x = errV 22 k) → Hid (Calls Tryz.prog 21 #[x, .int .i64 ki] W fun e w' => e = .returned (.bool true) ∧ Below W.heap.size W w') := by
      rintro x ki W hb ⟨k, rfl, rfl⟩
      exact hid (bare_ok _ k W (hg.below hb) (ErrIs.errV W k))
    have cp : ∀ (x : Value) (W : World), Below w.heap.size w W → ErrIs W x (rightH op now flags vs).1 (rightH op now flags vs).2 → Hid (Calls Tryz.prog 14 #[x, faultV (rightH op now flags vs).1 (rightH op now flags vs).2] W fun e w' => e = .returned (.bool true) ∧ Below W.heap.size W w') :=
      fun x W hb h => hid (placed_ok x _ _ W (hg.below hb) h)
    unfold RightPost at c7
    unfold RRightPost at c8
    have b0 := (Below.refl w.heap.size w).alloc (Nat.le_refl _) (.cells #[.int .i64 op, .bool now, .int .i64 flags, .slice sa vs.length sc] 36)
    have B0 := Blk.new w 36 #[.int .i64 op, .bool now, .int .i64 flags, .slice sa vs.length sc]
    generalize valueH op vs name = vh at *
    obtain ⟨x1, x2⟩ := vh
    generalize rightH op now flags vs = rh at *
    obtain ⟨y1, y2⟩ := rh
    simp only at c5 c6 c7 c8 cp
    clear hf hg hT hP hv
    go_enter Tryz.func4, Tryz.ntmps4
    go_wp2_with fail
    refine (c1 _).out.mono ?_
    rintro e w1 ⟨v1, rfl, hs1, _, hb⟩
    have B1 := B0.below hb
    have b1 := b0.trans (hb.mono b0.size)
    clear hb
    go_wp2_with fail
    refine (c2 _ b1).out.mono ?_
    rintro e w2 ⟨rfl, hb⟩
    have B2 := B1.below hb
    have hs1 := hs1.below (by omega) hb
    have b2 := b1.trans (hb.mono b1.size)
    clear hb
    go_wp2_with fail
    refine (c3 _ b2).out.mono ?_
    rintro e w3 ⟨rfl, hb⟩
    have B3 := B2.below hb
    have hs1 := hs1.below (by omega) hb
    have b3 := b2.trans (hb.mono b2.size)
    clear hb
    go_wp2_with fail
    refine (c4 _ b3).out.mono ?_
    rintro e w4 ⟨v2, rfl, hs2, _, hb⟩
    have B4 := B3.below hb
    have hs1 := hs1.below (by omega) hb
    have b4 := b3.trans (hb.mono b3.size)
    have p0 : w4.cell? ⟨w.heap.size, 0, none⟩ = some (.int .i64 op) := (B4.cell 0).trans rfl
    have p1 : w4.cell? ⟨w.heap.size, 1, none⟩ = some (.bool now) := (B4.cell 1).trans rfl
    have p2 : w4.cell? ⟨w.heap.size, 2, none⟩ = some (.int .i64 flags) := (B4.cell 2).trans rfl
    have p3 : w4.cell? ⟨w.heap.size, 3, none⟩ = some (.slice sa vs.length sc) := (B4.cell 3).trans rfl
    clear hb
    go_wp2_with fail
    refine (c5 _ b4).out.mono ?_
    rintro e w5 ⟨rfl, hb⟩
    have B5 := B4.below hb
    have hs1 := hs1.below (by omega) hb
    have hs2 := hs2.below (by omega) hb
    have b5 := b4.trans (hb.mono b4.size)
    clear hb p0 p1 p2 p3
    have p0 : w5.cell? ⟨w.heap.size, 0, none⟩ = some (.int .i64 op) := (B5.cell 0).trans rfl
    have p1 : w5.cell? ⟨w.heap.size, 1, none⟩ = some (.bool now) := (B5.cell 1).trans rfl
    have p2 : w5.cell? ⟨w.heap.size, 2, none⟩ = some (.int .i64 flags) := (B5.cell 2).trans rfl
    have p3 : w5.cell? ⟨w.heap.size, 3, none⟩ = some (.slice sa vs.length sc) := (B5.cell 3).trans rfl
    go_wp2_with fail
    refine (c6 _ b5).out.mono ?_
    rintro e w6 ⟨rfl, hb⟩
    have B6 := B5.below hb
    have hs1 := hs1.below (by omega) hb
    have hs2 := hs2.below (by omega) hb
    have b6 := b5.trans (hb.mono b5.size)
    clear hb p0 p1 p2 p3 B1 B2 B3 B4 B5 b1 b2 b3 b4 b5 c1 c2 c3 c4 c5 c6
    have hlt := B6.lt
    have p0 : w6.cell? ⟨w.heap.size, 0, none⟩ = some (.int .i64 op) := (B6.cell 0).trans rfl
    have p1 : w6.cell? ⟨w.heap.size, 1, none⟩ = some (.bool now) := (B6.cell 1).trans rfl
    have p2 : w6.cell? ⟨w.heap.size, 2, none⟩ = some (.int .i64 flags) := (B6.cell 2).trans rfl
    have p3 : w6.cell? ⟨w.heap.size, 3, none⟩ = some (.slice sa vs.length sc) := (B6.cell 3).trans rfl
    go_wp2
    have hst : ∀ W W' : World, (W.cell? ⟨w.heap.size, 0, none⟩ = some (.int .i64 op) ∧ W.cell? ⟨w.heap.size, 1, none⟩ = some (.bool now) ∧ W.cell? ⟨w.heap.size, 2, none⟩ = some (.int .i64 flags) ∧ W.cell? ⟨w.heap.size, 3, none⟩ = some (.slice sa vs.length sc) ∧ Below w6.heap.size w6 W) → Below W.heap.size W W' → (W'.cell? ⟨w.heap.size, 0, none⟩ = some (.int .i64 op) ∧ W'.cell? ⟨w.heap.size, 1, none⟩ = some (.bool now) ∧ W'.cell? ⟨w.heap.size, 2, none⟩ = some (.int .i64 flags) ∧ W'.cell? ⟨w.heap.size, 3, none⟩ = some (.slice sa vs.length sc) ∧ Below w6.heap.size w6 W') := by
      rintro W W' ⟨q0, q1, q2, q3, q4⟩ hb
      have hl := Nat.lt_of_lt_of_le hlt q4.size
      exact ⟨(hb.cell (p := ⟨w.heap.size, 0, none⟩) hl).trans q0, (hb.cell (p := ⟨w.heap.size, 1, none⟩) hl).trans q1, (hb.cell (p := ⟨w.heap.size, 2, none⟩) hl).trans q2, (hb.cell (p := ⟨w.heap.size, 3, none⟩) hl).trans q3, q4.trans (hb.mono q4.size)⟩
    have hbw : ∀ W : World, (W.cell? ⟨w.heap.size, 0, none⟩ = some (.int .i64 op) ∧ W.cell? ⟨w.heap.size, 1, none⟩ = some (.bool now) ∧ W.cell? ⟨w.heap.size, 2, none⟩ = some (.int .i64 flags) ∧ W.cell? ⟨w.heap.size, 3, none⟩ = some (.slice sa vs.length sc) ∧ Below w6.heap.size w6 W) → Below w.heap.size w W := fun W h => b6.trans (h.2.2.2.2.mono b6.size)
    have d1 : ∀ (x : Value) (ki : Int) (W : World), (W.cell? ⟨w.heap.size, 0, none⟩ = some (.int .i64 op) ∧ W.cell? ⟨w.heap.size, 1, none⟩ = some (.bool now) ∧ W.cell? ⟨w.heap.size, 2, none⟩ = some (.int .i64 flags) ∧ W.cell? ⟨w.heap.size, 3, none⟩ = some (.slice sa vs.length sc) ∧ Below w6.heap.size w6 W) → (∃ k : Nat, ki = k ∧ x = errV 22 k) → Hid (Calls Tryz.prog 21 #[x, .int .i64 ki] W fun e w' => e = .returned (.bool true) ∧ (w'.cell? ⟨w.heap.size, 0, none⟩ = some (.int .i64 op) ∧ w'.cell? ⟨w.heap.size, 1, none⟩ = some (.bool now) ∧ w'.cell? ⟨w.heap.size, 2, none⟩ = some (.int .i64 flags) ∧ w'.cell? ⟨w.heap.size, 3, none⟩ = some (.slice sa vs.length sc) ∧ Below w6.heap.size w6 w')) := by
      intro x ki W hS hx
      refine hid ((cb x ki W (hbw W hS) hx).out.mono ?_)
      rintro e w' ⟨rfl, hb⟩
      exact ⟨rfl, hst W w' hS hb⟩
    have d2 : ∀ (W : World), (W.cell? ⟨w.heap.size, 0, none⟩ = some (.int .i64 op) ∧ W.cell? ⟨w.heap.size, 1, none⟩ = some (.bool now) ∧ W.cell? ⟨w.heap.size, 2, none⟩ = some (.int .i64 flags) ∧ W.cell? ⟨w.heap.size, 3, none⟩ = some (.slice sa vs.length sc) ∧ Below w6.heap.size w6 W) → Hid (Calls Tryz.prog 22 #[v2, v1] W fun e w' => e = .returned (.bool true) ∧ (w'.cell? ⟨w.heap.size, 0, none⟩ = some (.int .i64 op) ∧ w'.cell? ⟨w.heap.size, 1, none⟩ = some (.bool now) ∧ w'.cell? ⟨w.heap.size, 2, none⟩ = some (.int .i64 flags) ∧ w'.cell? ⟨w.heap.size, 3, none⟩ = some (.slice sa vs.length sc) ∧ Below w6.heap.size w6 w')) := by
      intro W hS
      refine hid ((eqFields_true v2 v1 _ W (by omega) (hs2.below (by omega) hS.2.2.2.2) (hs1.below (by omega) hS.2.2.2.2)).mono ?_)
      rintro e w' ⟨rfl, hb⟩
      exact ⟨rfl, hst W w' hS hb⟩
    have d3 : ∀ (W : World), (W.cell? ⟨w.heap.size, 0, none⟩ = some (.int .i64 op) ∧ W.cell? ⟨w.heap.size, 1, none⟩ = some (.bool now) ∧ W.cell? ⟨w.heap.size, 2, none⟩ = some (.int .i64 flags) ∧ W.cell? ⟨w.heap.size, 3, none⟩ = some (.slice sa vs.length sc) ∧ Below w6.heap.size w6 W) → Hid (Calls Tryz.prog 23 #[.agg #[.int .i64 op, .bool now, .int .i64 flags, .slice sa vs.length sc]] W fun e w' => (∃ ev, e = .returned ev ∧ ErrIs w' ev y1 y2) ∧ (w'.cell? ⟨w.heap.size, 0, none⟩ = some (.int .i64 op) ∧ w'.cell? ⟨w.heap.size, 1, none⟩ = some (.bool now) ∧ w'.cell? ⟨w.heap.size, 2, none⟩ = some (.int .i64 flags) ∧ w'.cell? ⟨w.heap.size, 3, none⟩ = some (.slice sa vs.length sc) ∧ Below w6.heap.size w6 w')) := by
      intro W hS
      refine hid ((c7 W (hbw W hS)).out.mono ?_)
      rintro e w' ⟨ev, rfl, her, hb⟩
      exact ⟨⟨ev, rfl, her⟩, hst W w' hS hb⟩
    have d4 : ∀ (W : World), (W.cell? ⟨w.heap.size, 0, none⟩ = some (.int .i64 op) ∧ W.cell? ⟨w.heap.size, 1, none⟩ = some (.bool now) ∧ W.cell? ⟨w.heap.size, 2, none⟩ = some (.int .i64 flags) ∧ W.cell? ⟨w.heap.size, 3, none⟩ = some (.slice sa vs.length sc) ∧ Below w6.heap.size w6 W) → Hid (Calls Tryz.prog 24 #[.agg #[.int .i64 op, .bool now, .int .i64 flags, .slice sa vs.length sc]] W fun e w' => e = .returned (faultV y1 y2) ∧ (∀ ev, ErrIs W ev y1 y2 → ErrIs w' ev y1 y2) ∧ (w'.cell? ⟨w.heap.size, 0, none⟩ = some (.int .i64 op) ∧ w'.cell? ⟨w.heap.size, 1, none⟩ = some (.bool now) ∧ w'.cell? ⟨w.heap.size, 2, none⟩ = some (.int .i64 flags) ∧ w'.cell? ⟨w.heap.size, 3, none⟩ = some (.slice sa vs.length sc) ∧ Below w6.heap.size w6 w')) := by
      intro W hS
      refine hid ((c8 W (hbw W hS)).out.mono ?_)
      rintro e w' ⟨rfl, hb⟩
      exact ⟨rfl, fun ev h => h.below hb, hst W w' hS hb⟩
    have d5 : ∀ (x : Value) (W : World), (W.cell? ⟨w.heap.size, 0, none⟩ = some (.int .i64 op) ∧ W.cell? ⟨w.heap.size, 1, none⟩ = some (.bool now) ∧ W.cell? ⟨w.heap.size, 2, none⟩ = some (.int .i64 flags) ∧ W.cell? ⟨w.heap.size, 3, none⟩ = some (.slice sa vs.length sc) ∧ Below w6.heap.size w6 W) → ErrIs W x y1 y2 → Hid (Calls Tryz.prog 14 #[x, faultV y1 y2] W fun e w' => e = .returned (.bool true) ∧ (w'.cell? ⟨w.heap.size, 0, none⟩ = some (.int .i64 op) ∧ w'.cell? ⟨w.heap.size, 1, none⟩ = some (.bool now) ∧ w'.cell? ⟨w.heap.size, 2, none⟩ = some (.int .i64 flags) ∧ w'.cell? ⟨w.heap.size, 3, none⟩ = some (.slice sa vs.length sc) ∧ Below w6.heap.size w6 w')) := by
      intro x W hS hx
      refine hid ((cp x W (hbw W hS) hx).out.mono ?_)
      rintro e w' ⟨rfl, hb⟩
      exact ⟨rfl, hst W w' hS hb⟩
    have hd0 : Below w6.heap.size w6 w6.drew := (Below.refl _ _).drew
    clear cb cp c7 c8 hst hbw hev hs1 hs2 B0 B6
    go_region_held3 (fun W => W.cell? ⟨w.heap.size, 0, none⟩ = some (.int .i64 op) ∧ W.cell? ⟨w.heap.size, 1, none⟩ = some (.bool now) ∧ W.cell? ⟨w.heap.size, 2, none⟩ = some (.int .i64 flags) ∧ W.cell? ⟨w.heap.size, 3, none⟩ = some (.slice sa vs.length sc) ∧ Below w6.heap.size w6 W)
      (first | assumption | exact ⟨by assumption, by assumption, by assumption, by assumption, by assumption⟩ | exact ⟨p0, p1, p2, p3, hd0⟩)
      (first
        | (go_at_call 21; refine (d1 _ _ _ ?_ ?_).out.mono ?_; (first | assumption | exact ⟨by assumption, by assumption, by assumption, by assumption, by assumption⟩ | exact ⟨p0, p1, p2, p3, hd0⟩); (first | exact ⟨1, rfl, rfl⟩ | exact ⟨0, rfl, rfl⟩ | exact ⟨x2, rfl, rfl⟩); rintro e wa ⟨rfl, j0, j1, j2, j3, j4⟩)
        | (go_at_call 22; refine (d2 _ ?_).out.mono ?_; (first | assumption | exact ⟨by assumption, by assumption, by assumption, by assumption, by assumption⟩ | exact ⟨p0, p1, p2, p3, hd0⟩); rintro e wb ⟨rfl, k0, k1, k2, k3, k4⟩)
        | (go_at_call 23; refine (d3 _ ?_).out.mono ?_; (first | assumption | exact ⟨by assumption, by assumption, by assumption, by assumption, by assumption⟩ | exact ⟨p0, p1, p2, p3, hd0⟩); rintro e wc ⟨⟨ev, rfl, her⟩, l0, l1, l2, l3, l4⟩)
        | (go_at_call 24; refine (d4 _ ?_).out.mono ?_; (first | assumption | exact ⟨by assumption, by assumption, by assumption, by assumption, by assumption⟩ | exact ⟨p0, p1, p2, p3, hd0⟩); rintro e wd ⟨rfl, herk, m0, m1, m2, m3, m4⟩; have her3 := herk _ (by assumption))
        | (go_at_call 14; refine (d5 _ _ ?_ ?_).out.mono ?_; (first | assumption | exact ⟨by assumption, by assumption, by assumption, by assumption, by assumption⟩ | exact ⟨p0, p1, p2, p3, hd0⟩); assumption; rintro e we ⟨rfl, n0, n1, n2, n3, n4⟩))
    go_wp2_with fail
    go_ret
    refine ⟨rfl, b6.trans (Below.mono ?_ b6.size)⟩
    assumption
  | some r =>
    unfold KindPost at c1
    unfold FieldsPost at c4
    have hE1 : HErr (findH op0) = errV 22 0 := by rw [hf]; rfl
    have hS1 : (findH op0).isSome = true := by rw [hf]; rfl
    have hxl : (hFields (findH op0)).length ≤ 12 := by rw [hf]; exact Nat.le_of_lt (head_fine r (findH_mem hf)).2.2.2.2.2.2.1
    rw [hE1] at c2 c3 c4
    rw [hS1] at c1
    clear hE1 hS1
    generalize hName (findH op0) = nm at *
    generalize hFlags (findH op0) = fl at *
    generalize hFields (findH op0) = xs at *
    have hev : ∀ (W : World) (x : Value) (ki : Int), (∃ k : Nat, ki = k ∧ x = errV 22 k) → ∃ k : Nat, ki = k ∧ ErrIs W x k (-1) := by
      rintro W x ki ⟨k, h, rfl⟩
      exact ⟨k, h, ErrIs.errV W k⟩
    have cb : ∀ (x : Value) (ki : Int) (W : World), Below w.heap.size w W → (∃ k : Nat, ki = k ∧ x = errV 22 k) → Hid (Calls Tryz.prog 21 #[x, .int .i64 ki] W fun e w' => e = .returned (.bool true) ∧ Below W.heap.size W w') := by
      rintro x ki W hb ⟨k, rfl, rfl⟩
      exact hid (bare_ok _ k W (hg.below hb) (ErrIs.errV W k))
    have cp : ∀ (x : Value) (W : World), Below w.heap.size w W → ErrIs W x (rightH op now flags vs).1 (rightH op now flags vs).2 → Hid (Calls Tryz.prog 14 #[x, faultV (rightH op now flags vs).1 (rightH op now flags vs).2] W fun e w' => e = .returned (.bool true) ∧ Below W.heap.size W w') :=
      fun x W hb h => hid (placed_ok x _ _ W (hg.below hb) h)
    unfold RightPost at c7
    unfold RRightPost at c8
    have b0 := (Below.refl w.heap.size w).alloc (Nat.le_refl _) (.cells #[.int .i64 op, .bool now, .int .i64 flags, .slice sa vs.length sc] 36)
    have B0 := Blk.new w 36 #[.int .i64 op, .bool now, .int .i64 flags, .slice sa vs.length sc]
    generalize valueH op vs name = vh at *
    obtain ⟨x1, x2⟩ := vh
    generalize rightH op now flags vs = rh at *
    obtain ⟨y1, y2⟩ := rh
    simp only at c5 c6 c7 c8 cp
    clear hf hg hT hP hv
    go_enter Tryz.func4, Tryz.ntmps4
    go_wp2_with fail
    refine (c1 _).out.mono ?_
    rintro e w1 ⟨v1, rfl, hs1, _, hb⟩
    have B1 := B0.below hb
    have b1 := b0.trans (hb.mono b0.size)
    clear hb
    go_wp2_with fail
    refine (c2 _ b1).out.mono ?_
    rintro e w2 ⟨rfl, hb⟩
    have B2 := B1.below hb
    have hs1 := hs1.below (by omega) hb
    have b2 := b1.trans (hb.mono b1.size)
    clear hb
    go_wp2_with fail
    refine (c3 _ b2).out.mono ?_
    rintro e w3 ⟨rfl, hb⟩
    have B3 := B2.below hb
    have hs1 := hs1.below (by omega) hb
    have b3 := b2.trans (hb.mono b2.size)
    clear hb
    go_wp2_with fail
    refine (c4 _ b3).out.mono ?_
    rintro e w4 ⟨v2, rfl, hs2, _, hb⟩
    have B4 := B3.below hb
    have hs1 := hs1.below (by omega) hb
    have b4 := b3.trans (hb.mono b3.size)
    have p0 : w4.cell? ⟨w.heap.size, 0, none⟩ = some (.int .i64 op) := (B4.cell 0).trans rfl
    have p1 : w4.cell? ⟨w.heap.size, 1, none⟩ = some (.bool now) := (B4.cell 1).trans rfl
    have p2 : w4.cell? ⟨w.heap.size, 2, none⟩ = some (.int .i64 flags) := (B4.cell 2).trans rfl
    have p3 : w4.cell? ⟨w.heap.size, 3, none⟩ = some (.slice sa vs.length sc) := (B4.cell 3).trans rfl
    clear hb
    go_wp2_with fail
    refine (c5 _ b4).out.mono ?_
    rintro e w5 ⟨rfl, hb⟩
    have B5 := B4.below hb
    have hs1 := hs1.below (by omega) hb
    have hs2 := hs2.below (by omega) hb
    have b5 := b4.trans (hb.mono b4.size)
    clear hb p0 p1 p2 p3
    have p0 : w5.cell? ⟨w.heap.size, 0, none⟩ = some (.int .i64 op) := (B5.cell 0).trans rfl
    have p1 : w5.cell? ⟨w.heap.size, 1, none⟩ = some (.bool now) := (B5.cell 1).trans rfl
    have p2 : w5.cell? ⟨w.heap.size, 2, none⟩ = some (.int .i64 flags) := (B5.cell 2).trans rfl
    have p3 : w5.cell? ⟨w.heap.size, 3, none⟩ = some (.slice sa vs.length sc) := (B5.cell 3).trans rfl
    go_wp2_with fail
    refine (c6 _ b5).out.mono ?_
    rintro e w6 ⟨rfl, hb⟩
    have B6 := B5.below hb
    have hs1 := hs1.below (by omega) hb
    have hs2 := hs2.below (by omega) hb
    have b6 := b5.trans (hb.mono b5.size)
    clear hb p0 p1 p2 p3 B1 B2 B3 B4 B5 b1 b2 b3 b4 b5 c1 c2 c3 c4 c5 c6
    have hlt := B6.lt
    have p0 : w6.cell? ⟨w.heap.size, 0, none⟩ = some (.int .i64 op) := (B6.cell 0).trans rfl
    have p1 : w6.cell? ⟨w.heap.size, 1, none⟩ = some (.bool now) := (B6.cell 1).trans rfl
    have p2 : w6.cell? ⟨w.heap.size, 2, none⟩ = some (.int .i64 flags) := (B6.cell 2).trans rfl
    have p3 : w6.cell? ⟨w.heap.size, 3, none⟩ = some (.slice sa vs.length sc) := (B6.cell 3).trans rfl
    go_wp2
    have hst : ∀ W W' : World, (W.cell? ⟨w.heap.size, 0, none⟩ = some (.int .i64 op) ∧ W.cell? ⟨w.heap.size, 1, none⟩ = some (.bool now) ∧ W.cell? ⟨w.heap.size, 2, none⟩ = some (.int .i64 flags) ∧ W.cell? ⟨w.heap.size, 3, none⟩ = some (.slice sa vs.length sc) ∧ Below w6.heap.size w6 W) → Below W.heap.size W W' → (W'.cell? ⟨w.heap.size, 0, none⟩ = some (.int .i64 op) ∧ W'.cell? ⟨w.heap.size, 1, none⟩ = some (.bool now) ∧ W'.cell? ⟨w.heap.size, 2, none⟩ = some (.int .i64 flags) ∧ W'.cell? ⟨w.heap.size, 3, none⟩ = some (.slice sa vs.length sc) ∧ Below w6.heap.size w6 W') := by
      rintro W W' ⟨q0, q1, q2, q3, q4⟩ hb
      have hl := Nat.lt_of_lt_of_le hlt q4.size
      exact ⟨(hb.cell (p := ⟨w.heap.size, 0, none⟩) hl).trans q0, (hb.cell (p := ⟨w.heap.size, 1, none⟩) hl).trans q1, (hb.cell (p := ⟨w.heap.size, 2, none⟩) hl).trans q2, (hb.cell (p := ⟨w.heap.size, 3, none⟩) hl).trans q3, q4.trans (hb.mono q4.size)⟩
    have hbw : ∀ W : World, (W.cell? ⟨w.heap.size, 0, none⟩ = some (.int .i64 op) ∧ W.cell? ⟨w.heap.size, 1, none⟩ = some (.bool now) ∧ W.cell? ⟨w.heap.size, 2, none⟩ = some (.int .i64 flags) ∧ W.cell? ⟨w.heap.size, 3, none⟩ = some (.slice sa vs.length sc) ∧ Below w6.heap.size w6 W) → Below w.heap.size w W := fun W h => b6.trans (h.2.2.2.2.mono b6.size)
    have d1 : ∀ (x : Value) (ki : Int) (W : World), (W.cell? ⟨w.heap.size, 0, none⟩ = some (.int .i64 op) ∧ W.cell? ⟨w.heap.size, 1, none⟩ = some (.bool now) ∧ W.cell? ⟨w.heap.size, 2, none⟩ = some (.int .i64 flags) ∧ W.cell? ⟨w.heap.size, 3, none⟩ = some (.slice sa vs.length sc) ∧ Below w6.heap.size w6 W) → (∃ k : Nat, ki = k ∧ x = errV 22 k) → Hid (Calls Tryz.prog 21 #[x, .int .i64 ki] W fun e w' => e = .returned (.bool true) ∧ (w'.cell? ⟨w.heap.size, 0, none⟩ = some (.int .i64 op) ∧ w'.cell? ⟨w.heap.size, 1, none⟩ = some (.bool now) ∧ w'.cell? ⟨w.heap.size, 2, none⟩ = some (.int .i64 flags) ∧ w'.cell? ⟨w.heap.size, 3, none⟩ = some (.slice sa vs.length sc) ∧ Below w6.heap.size w6 w')) := by
      intro x ki W hS hx
      refine hid ((cb x ki W (hbw W hS) hx).out.mono ?_)
      rintro e w' ⟨rfl, hb⟩
      exact ⟨rfl, hst W w' hS hb⟩
    have d2 : ∀ (W : World), (W.cell? ⟨w.heap.size, 0, none⟩ = some (.int .i64 op) ∧ W.cell? ⟨w.heap.size, 1, none⟩ = some (.bool now) ∧ W.cell? ⟨w.heap.size, 2, none⟩ = some (.int .i64 flags) ∧ W.cell? ⟨w.heap.size, 3, none⟩ = some (.slice sa vs.length sc) ∧ Below w6.heap.size w6 W) → Hid (Calls Tryz.prog 22 #[v2, v1] W fun e w' => e = .returned (.bool true) ∧ (w'.cell? ⟨w.heap.size, 0, none⟩ = some (.int .i64 op) ∧ w'.cell? ⟨w.heap.size, 1, none⟩ = some (.bool now) ∧ w'.cell? ⟨w.heap.size, 2, none⟩ = some (.int .i64 flags) ∧ w'.cell? ⟨w.heap.size, 3, none⟩ = some (.slice sa vs.length sc) ∧ Below w6.heap.size w6 w')) := by
      intro W hS
      refine hid ((eqFields_true v2 v1 _ W (by omega) (hs2.below (by omega) hS.2.2.2.2) (hs1.below (by omega) hS.2.2.2.2)).mono ?_)
      rintro e w' ⟨rfl, hb⟩
      exact ⟨rfl, hst W w' hS hb⟩
    have d3 : ∀ (W : World), (W.cell? ⟨w.heap.size, 0, none⟩ = some (.int .i64 op) ∧ W.cell? ⟨w.heap.size, 1, none⟩ = some (.bool now) ∧ W.cell? ⟨w.heap.size, 2, none⟩ = some (.int .i64 flags) ∧ W.cell? ⟨w.heap.size, 3, none⟩ = some (.slice sa vs.length sc) ∧ Below w6.heap.size w6 W) → Hid (Calls Tryz.prog 23 #[.agg #[.int .i64 op, .bool now, .int .i64 flags, .slice sa vs.length sc]] W fun e w' => (∃ ev, e = .returned ev ∧ ErrIs w' ev y1 y2) ∧ (w'.cell? ⟨w.heap.size, 0, none⟩ = some (.int .i64 op) ∧ w'.cell? ⟨w.heap.size, 1, none⟩ = some (.bool now) ∧ w'.cell? ⟨w.heap.size, 2, none⟩ = some (.int .i64 flags) ∧ w'.cell? ⟨w.heap.size, 3, none⟩ = some (.slice sa vs.length sc) ∧ Below w6.heap.size w6 w')) := by
      intro W hS
      refine hid ((c7 W (hbw W hS)).out.mono ?_)
      rintro e w' ⟨ev, rfl, her, hb⟩
      exact ⟨⟨ev, rfl, her⟩, hst W w' hS hb⟩
    have d4 : ∀ (W : World), (W.cell? ⟨w.heap.size, 0, none⟩ = some (.int .i64 op) ∧ W.cell? ⟨w.heap.size, 1, none⟩ = some (.bool now) ∧ W.cell? ⟨w.heap.size, 2, none⟩ = some (.int .i64 flags) ∧ W.cell? ⟨w.heap.size, 3, none⟩ = some (.slice sa vs.length sc) ∧ Below w6.heap.size w6 W) → Hid (Calls Tryz.prog 24 #[.agg #[.int .i64 op, .bool now, .int .i64 flags, .slice sa vs.length sc]] W fun e w' => e = .returned (faultV y1 y2) ∧ (∀ ev, ErrIs W ev y1 y2 → ErrIs w' ev y1 y2) ∧ (w'.cell? ⟨w.heap.size, 0, none⟩ = some (.int .i64 op) ∧ w'.cell? ⟨w.heap.size, 1, none⟩ = some (.bool now) ∧ w'.cell? ⟨w.heap.size, 2, none⟩ = some (.int .i64 flags) ∧ w'.cell? ⟨w.heap.size, 3, none⟩ = some (.slice sa vs.length sc) ∧ Below w6.heap.size w6 w')) := by
      intro W hS
      refine hid ((c8 W (hbw W hS)).out.mono ?_)
      rintro e w' ⟨rfl, hb⟩
      exact ⟨rfl, fun ev h => h.below hb, hst W w' hS hb⟩
    have d5 : ∀ (x : Value) (W : World), (W.cell? ⟨w.heap.size, 0, none⟩ = some (.int .i64 op) ∧ W.cell? ⟨w.heap.size, 1, none⟩ = some (.bool now) ∧ W.cell? ⟨w.heap.size, 2, none⟩ = some (.int .i64 flags) ∧ W.cell? ⟨w.heap.size, 3, none⟩ = some (.slice sa vs.length sc) ∧ Below w6.heap.size w6 W) → ErrIs W x y1 y2 → Hid (Calls Tryz.prog 14 #[x, faultV y1 y2] W fun e w' => e = .returned (.bool true) ∧ (w'.cell? ⟨w.heap.size, 0, none⟩ = some (.int .i64 op) ∧ w'.cell? ⟨w.heap.size, 1, none⟩ = some (.bool now) ∧ w'.cell? ⟨w.heap.size, 2, none⟩ = some (.int .i64 flags) ∧ w'.cell? ⟨w.heap.size, 3, none⟩ = some (.slice sa vs.length sc) ∧ Below w6.heap.size w6 w')) := by
      intro x W hS hx
      refine hid ((cp x W (hbw W hS) hx).out.mono ?_)
      rintro e w' ⟨rfl, hb⟩
      exact ⟨rfl, hst W w' hS hb⟩
    have hd0 : Below w6.heap.size w6 w6.drew := (Below.refl _ _).drew
    clear cb cp c7 c8 hst hbw hev hs1 hs2 B0 B6
    go_region_held3 (fun W => W.cell? ⟨w.heap.size, 0, none⟩ = some (.int .i64 op) ∧ W.cell? ⟨w.heap.size, 1, none⟩ = some (.bool now) ∧ W.cell? ⟨w.heap.size, 2, none⟩ = some (.int .i64 flags) ∧ W.cell? ⟨w.heap.size, 3, none⟩ = some (.slice sa vs.length sc) ∧ Below w6.heap.size w6 W)
      (first | assumption | exact ⟨by assumption, by assumption, by assumption, by assumption, by assumption⟩ | exact ⟨p0, p1, p2, p3, hd0⟩)
      (first
        | (go_at_call 21; refine (d1 _ _ _ ?_ ?_).out.mono ?_; (first | assumption | exact ⟨by assumption, by assumption, by assumption, by assumption, by assumption⟩ | exact ⟨p0, p1, p2, p3, hd0⟩); (first | exact ⟨1, rfl, rfl⟩ | exact ⟨0, rfl, rfl⟩ | exact ⟨x2, rfl, rfl⟩); rintro e wa ⟨rfl, j0, j1, j2, j3, j4⟩)
        | (go_at_call 22; refine (d2 _ ?_).out.mono ?_; (first | assumption | exact ⟨by assumption, by assumption, by assumption, by assumption, by assumption⟩ | exact ⟨p0, p1, p2, p3, hd0⟩); rintro e wb ⟨rfl, k0, k1, k2, k3, k4⟩)
        | (go_at_call 23; refine (d3 _ ?_).out.mono ?_; (first | assumption | exact ⟨by assumption, by assumption, by assumption, by assumption, by assumption⟩ | exact ⟨p0, p1, p2, p3, hd0⟩); rintro e wc ⟨⟨ev, rfl, her⟩, l0, l1, l2, l3, l4⟩)
        | (go_at_call 24; refine (d4 _ ?_).out.mono ?_; (first | assumption | exact ⟨by assumption, by assumption, by assumption, by assumption, by assumption⟩ | exact ⟨p0, p1, p2, p3, hd0⟩); rintro e wd ⟨rfl, herk, m0, m1, m2, m3, m4⟩; have her3 := herk _ (by assumption))
        | (go_at_call 14; refine (d5 _ _ ?_ ?_).out.mono ?_; (first | assumption | exact ⟨by assumption, by assumption, by assumption, by assumption, by assumption⟩ | exact ⟨p0, p1, p2, p3, hd0⟩); assumption; rintro e we ⟨rfl, n0, n1, n2, n3, n4⟩))
    go_wp2_with fail
    go_ret
    refine ⟨rfl, b6.trans (Below.mono ?_ b6.size)⟩
    assumption
theorem headKnows_row (op0 op : Int) (now : Bool) (flags : Int) (v : Value) (vs : List Nat) (s : ByteArray) (w : World) (a0 : -9223372036854775808 ≤ op0) (a1 : op0 ≤ 9223372036854775807) (h0 : -9223372036854775808 ≤ op ∧ op ≤ 9223372036854775807) (g0 : -9223372036854775808 ≤ flags ∧ flags ≤ 9223372036854775807)
    (hn : vs.length ≤ 9223372036854775807) (hv : ∀ x ∈ vs, x ≤ 18446744073709551615) (hsl : Sl w v 1 vs.length (u64Cells vs)) (hs : s.size ≤ maxLen) (hL : laidMetH Tryz.prog Rows.headKnowsRow.laid w) :
    Calls Tryz.prog 4 #[.int .i64 op0, headV op now flags v, .string s] w fun e w' => e = .returned (.bool true) ∧ Below w.heap.size w w' := by
  unfold maxLen at hs
  have := headKnows_law op0 op now flags v vs s.data.toList w a0 a1 h0.1 h0.2 g0.1 g0.2 (by simpa using hs) hn hv hsl (cardBase.etype_of_laid (by simp [Rows.headKnowsRow]) hL)
    (cardBase.tab_of_laid (n := 256) (t := 145) (e := 5) (L := Rows.headKnowsRow.laid) (by kernel_rfl) asName (by kernel_rfl) Tryz.underlying145 Tryz.underlying5 (by kernel_rfl) (by kernel_rfl) hL)
    (cardBase.tab_of_laid (n := 20) (t := 210) (e := 45) (L := Rows.headKnowsRow.laid) (by kernel_rfl) ptName (by kernel_rfl) Tryz.underlying210 Tryz.underlying45 (by kernel_rfl) (by kernel_rfl) hL)
  rwa [bs_data] at this
end Go.Proofs.YtkkjmfllibnfcaaGreatDoor
