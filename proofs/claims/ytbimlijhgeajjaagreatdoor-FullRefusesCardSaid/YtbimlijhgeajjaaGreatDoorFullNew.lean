/- A full feature phase, made: full.New, the document's NewFull. -/
import Derived.Test.YtbimlijhgeajjaaGreatDoorTRight
import Derived.Test.YtbimlijhgeajjaaGreatDoorTRightR
import Derived.Test.YtbimlijhgeajjaaGreatDoorNegoR
import Derived.Test.YtbimlijhgeajjaaGreatDoorGhost
set_option linter.unusedSectionVars false
set_option linter.unusedSimpArgs false
set_option linter.unusedVariables false
namespace Go.Proofs.YtbimlijhgeajjaaGreatDoor
open Go Go.RowKit
set_option linter.unusedVariables false
set_option linter.unusedSectionVars false
set_option linter.unusedSimpArgs false
set_option maxRecDepth 100000
/-- the cells of a Full, the program's and the document's -/
def fullC (p ta ga ua oa : Value) (sn ss : List UInt8) (lim : Int) (name : List UInt8) (disc : Bool) (stat cmd : Int) (gp left : Value) (closed : Bool) : Array Value :=
  #[p, ta, ga, ua, .string (bs sn), .string (bs ss), .int .i64 lim, oa, .string (bs name), .bool disc, .int .u32 stat, .int .u32 cmd, gp, left, .bool closed]
theorem gNewF (m : Int) (h0 : ¬ m < 0) (h1 : ¬ 20000 < m) (w : World) :
    Calls Tryz.prog 37 #[.int .i64 m] w fun e w' => e = .returned (.tuple #[.pointer (some ⟨w.heap.size, 0, none⟩), .nilIface]) ∧ w' = w.alloc (.cells #[.string ⟨#[]⟩, .int .i64 m] 169) := by
  go_enter Tryz.func37, Tryz.ntmps37
  go_wp2
  go_ret2
  exact ⟨rfl, rfl⟩
theorem grownN {w w' : World} {B : Nat} (h : Below B w w') (hB : w.heap.size ≤ B) (r : Option Nat) : w.grownBy w' r := ⟨h.os, h.tape, h.output, h.size, fun k hk _ => h.block k (Nat.lt_of_lt_of_le hk hB)⟩
theorem grownNT {w w1 w2 : World} {r : Option Nat} (h : w.grownBy w1 r) (h2 : w1.grownBy w2 r) : w.grownBy w2 r :=
  ⟨h2.os.trans h.os, h2.tape.trans h.tape, h2.output.trans h.output, Nat.le_trans h.size h2.size, fun k hk hne => (h2.block k (Nat.lt_of_lt_of_le hk h.size) hne).trans (h.block k hk hne)⟩
theorem grownNF {w w' : World} {g : Nat} (h : w.grownBy w' (some g)) (i : Nat) (v : Value) : w.grownBy (w'.setCell ⟨g, i, none⟩ v) (some g) :=
  grownNT h ⟨rfl, rfl, rfl, by simp [World.setCell], fun k hk hne => Below.heap_setCell w' ⟨g, i, none⟩ v k (by rintro rfl; exact hne rfl)⟩
theorem blk_offN {W : World} {b b' : Nat} {t : TypeId} {cs : Array Value} (h : Blk W b' t cs) (i : Nat) (u : Value) (hn : b' ≠ b) : Blk (W.setCell ⟨b, i, none⟩ u) b' t cs := (Below.heap_setCell W ⟨b, i, none⟩ u b' hn).trans h
theorem belowGN {B : Nat} {w a b : World} {g : Nat} (h : Below B w a) (h2 : a.grownBy b (some g)) (hg : B ≤ g) (hB : B ≤ a.heap.size) : Below B w b :=
  h.grown h2 hB (fun k hk => by cases hk; exact hg)
def FMade (T TG : TypeId) (p ta ga ua oa : Value) (sn ss : List UInt8) (lim : Int) (name : List UInt8) (disc : Bool) (stat cmd : Int) (B g : Nat) (w : World) : Prop :=
  ∃ gg, B ≤ g ∧ B ≤ gg ∧ gg ≠ g ∧ Blk w g T (fullC p ta ga ua oa sn ss lim name disc stat cmd (.pointer (some ⟨gg, 0, none⟩)) (.slice none 0 0) false) ∧ Blk w gg TG #[.string ⟨#[]⟩, .int .i64 8192]
section
variable (ta ga ua oa : Option Addr) (tc gc uc oc : Nat) (ts : List (List UInt8)) (gs : GL) (us : PL) (sn ss : List UInt8) (lim : Int) (own : PL) (p : Value) (name : List UInt8) (disc : Bool) (stat cmd : Int) (w : World)
  (C : ConfIn w ts gs us sn ss lim own (.slice ta ts.length tc) (.slice ga gs.length gc) (.slice ua us.length uc) (.slice oa own.length oc))
  (hsz : ∀ k, (own.getD k ([], [])).2.length ≤ 100000)
include C hsz
def FNewPost (p ta ga ua oa : Value) (sn ss : List UInt8) (lim : Int) (name : List UInt8) (disc : Bool) (stat cmd : Int) (R : Nat × Int) (w : World) (e : Ending) (w' : World) : Prop :=
  (∃ q er, e = .returned (.tuple #[.pointer q, er]) ∧ ErrIs w' er R.1 R.2 ∧ (R.1 ≠ 0 → q = none) ∧ (R.1 = 0 → ∃ g, q = some ⟨g, 0, none⟩ ∧ FMade 87 169 p ta ga ua oa sn ss lim name disc stat cmd w.heap.size g w')) ∧ Below w.heap.size w w'
set_option maxHeartbeats 4000000 in
theorem fNew_any (pp : Option Addr) (hg : EType w) (hT : AS w) (hev : EV w) :
    Calls Tryz.prog 9 #[confV (.slice ta ts.length tc) (.slice ga gs.length gc) (.slice ua us.length uc) (.slice oa own.length oc) sn ss lim, .pointer pp, .string (bs name), .bool disc, .int .u32 stat, .int .u32 cmd] w fun e w' =>
      FNewPost (.pointer pp) (.slice ta ts.length tc) (.slice ga gs.length gc) (.slice ua us.length uc) (.slice oa own.length oc) sn ss lim name disc stat cmd (rightP ts gs us sn ss lim own) w e w' := by
  obtain ⟨W1, hW1⟩ : ∃ W1, w.alloc (.cells #[.slice ta ts.length tc, .slice ga gs.length gc, .slice ua us.length uc, .string (bs sn), .string (bs ss), .int .i64 lim, .slice oa own.length oc] 30) = W1 := ⟨_, rfl⟩
  have b1 : Below w.heap.size w W1 := by rw [← hW1]; exact (Below.refl _ _).alloc (Nat.le_refl _) _
  have t0 : W1.cell? ⟨w.heap.size, 0, none⟩ = some (.slice ta ts.length tc) := by rw [← hW1]; simp
  have t1 : W1.cell? ⟨w.heap.size, 1, none⟩ = some (.slice ga gs.length gc) := by rw [← hW1]; simp
  have t2 : W1.cell? ⟨w.heap.size, 2, none⟩ = some (.slice ua us.length uc) := by rw [← hW1]; simp
  have t3 : W1.cell? ⟨w.heap.size, 3, none⟩ = some (.string (bs sn)) := by rw [← hW1]; simp
  have t4 : W1.cell? ⟨w.heap.size, 4, none⟩ = some (.string (bs ss)) := by rw [← hW1]; simp
  have t5 : W1.cell? ⟨w.heap.size, 5, none⟩ = some (.int .i64 lim) := by rw [← hW1]; simp
  have t6 : W1.cell? ⟨w.heap.size, 6, none⟩ = some (.slice oa own.length oc) := by rw [← hW1]; simp
  have z1 : W1.heap.size = w.heap.size + 1 := by rw [← hW1]; simp
  have ct := hid (tRight_any ta ga ua oa tc gc uc oc ts gs us sn ss lim own W1 (C.below b1) hsz (hg.below b1) (hT.below b1 (Nat.le_refl _)) (hev.below b1))
  have cg := fun W => hid (gNewF 8192 (by omega) (by omega) W)
  generalize rightP ts gs us sn ss lim own = R at *
  unfold ErrP at ct
  unfold confV at ct ⊢
  clear C hsz hg hT hev
  go_enter Tryz.func9, Tryz.ntmps9
  go_wp2_with fail
  refine ct.out.mono ?_
  rintro e w1 ⟨⟨er, rfl, her⟩, hb1⟩
  have b2 := b1.trans (hb1.mono b1.size)
  have hs1 := hb1.size
  have t0 := (hb1.cell (p := ⟨w.heap.size, 0, none⟩) (by simp only; omega)).trans t0
  have t1 := (hb1.cell (p := ⟨w.heap.size, 1, none⟩) (by simp only; omega)).trans t1
  have t2 := (hb1.cell (p := ⟨w.heap.size, 2, none⟩) (by simp only; omega)).trans t2
  have t3 := (hb1.cell (p := ⟨w.heap.size, 3, none⟩) (by simp only; omega)).trans t3
  have t4 := (hb1.cell (p := ⟨w.heap.size, 4, none⟩) (by simp only; omega)).trans t4
  have t5 := (hb1.cell (p := ⟨w.heap.size, 5, none⟩) (by simp only; omega)).trans t5
  have t6 := (hb1.cell (p := ⟨w.heap.size, 6, none⟩) (by simp only; omega)).trans t6
  clear hW1
  by_cases h0 : R.1 = 0
  · obtain rfl := errOf_zero her h0
    have HER := hid her
    clear her
    go_wp2_with fail
    refine (cg _).out.mono ?_
    rintro e w2 ⟨rfl, hw2⟩
    have hb2 : Below w1.heap.size w1 w2 := by rw [hw2]; exact (Below.refl _ _).alloc (Nat.le_refl _) _
    have G2 : Blk w2 w1.heap.size 169 #[.string ⟨#[]⟩, .int .i64 8192] := by rw [hw2]; exact Blk.new _ _ _
    have b3 := b2.trans (hb2.mono b2.size)
    have t0 := (hb2.cell (p := ⟨w.heap.size, 0, none⟩) (by simp only; omega)).trans t0
    have t1 := (hb2.cell (p := ⟨w.heap.size, 1, none⟩) (by simp only; omega)).trans t1
    have t2 := (hb2.cell (p := ⟨w.heap.size, 2, none⟩) (by simp only; omega)).trans t2
    have t3 := (hb2.cell (p := ⟨w.heap.size, 3, none⟩) (by simp only; omega)).trans t3
    have t4 := (hb2.cell (p := ⟨w.heap.size, 4, none⟩) (by simp only; omega)).trans t4
    have t5 := (hb2.cell (p := ⟨w.heap.size, 5, none⟩) (by simp only; omega)).trans t5
    have t6 := (hb2.cell (p := ⟨w.heap.size, 6, none⟩) (by simp only; omega)).trans t6
    clear hw2
    have h12 := G2.lt
    go_wp2
    go_ret2
    have hb4 := (Below.refl w2.heap.size w2).alloc (Nat.le_refl _) (.cells (fullC (.pointer pp) (.slice ta ts.length tc) (.slice ga gs.length gc) (.slice ua us.length uc) (.slice oa own.length oc) sn ss lim name disc stat cmd (.pointer (some ⟨w1.heap.size, 0, none⟩)) (.slice none 0 0) false) 87)
    refine ⟨⟨_, _, rfl, HER.out.below (hb2.trans (hb4.mono hb2.size)), fun h => absurd h0 h, fun _ => ⟨_, rfl, w1.heap.size, by omega, by omega, by omega, ?_, G2.below hb4⟩⟩, b3.trans (hb4.mono b3.size)⟩
    exact Blk.new w2 87 (fullC (.pointer pp) (.slice ta ts.length tc) (.slice ga gs.length gc) (.slice ua us.length uc) (.slice oa own.length oc) sn ss lim name disc stat cmd (.pointer (some ⟨w1.heap.size, 0, none⟩)) (.slice none 0 0) false)
  · obtain ⟨T, x, rfl⟩ := errOf_pos her h0
    have HER := hid her
    clear her
    go_wp2
    go_ret2
    exact ⟨⟨_, _, rfl, HER.out, fun _ => rfl, fun h => absurd h h0⟩, b2⟩
def RFNewPost (p ta ga ua oa : Value) (sn ss : List UInt8) (lim : Int) (name : List UInt8) (disc : Bool) (stat cmd : Int) (R : Nat × Int) (w : World) (e : Ending) (w' : World) : Prop :=
  (∃ q, e = .returned (.tuple #[.pointer q, faultV R.1 R.2]) ∧ (R.1 ≠ 0 → q = none) ∧ (R.1 = 0 → ∃ g, q = some ⟨g, 0, none⟩ ∧ FMade 65 108 p ta ga ua oa sn ss lim name disc stat cmd w.heap.size g w')) ∧ Below w.heap.size w w'
set_option maxHeartbeats 4000000 in
theorem rfNew_any (pp : Option Addr) (hon : own.length ≤ 100000) (hP : PT w) (hR : (rightP ts gs us sn ss lim own).1 = 0 → (rightP ts gs us sn ss lim own).2 = -1) :
    Calls Tryz.prog 8 #[confV (.slice ta ts.length tc) (.slice ga gs.length gc) (.slice ua us.length uc) (.slice oa own.length oc) sn ss lim, .pointer pp, .string (bs name), .bool disc, .int .u32 stat, .int .u32 cmd] w fun e w' =>
      RFNewPost (.pointer pp) (.slice ta ts.length tc) (.slice ga gs.length gc) (.slice ua us.length uc) (.slice oa own.length oc) sn ss lim name disc stat cmd (rightP ts gs us sn ss lim own) w e w' := by
  obtain ⟨W1, hW1⟩ : ∃ W1, w.alloc (.cells #[.slice ta ts.length tc, .slice ga gs.length gc, .slice ua us.length uc, .string (bs sn), .string (bs ss), .int .i64 lim, .slice oa own.length oc] 30) = W1 := ⟨_, rfl⟩
  have b1 : Below w.heap.size w W1 := by rw [← hW1]; exact (Below.refl _ _).alloc (Nat.le_refl _) _
  have t0 : W1.cell? ⟨w.heap.size, 0, none⟩ = some (.slice ta ts.length tc) := by rw [← hW1]; simp
  have t1 : W1.cell? ⟨w.heap.size, 1, none⟩ = some (.slice ga gs.length gc) := by rw [← hW1]; simp
  have t2 : W1.cell? ⟨w.heap.size, 2, none⟩ = some (.slice ua us.length uc) := by rw [← hW1]; simp
  have t3 : W1.cell? ⟨w.heap.size, 3, none⟩ = some (.string (bs sn)) := by rw [← hW1]; simp
  have t4 : W1.cell? ⟨w.heap.size, 4, none⟩ = some (.string (bs ss)) := by rw [← hW1]; simp
  have t5 : W1.cell? ⟨w.heap.size, 5, none⟩ = some (.int .i64 lim) := by rw [← hW1]; simp
  have t6 : W1.cell? ⟨w.heap.size, 6, none⟩ = some (.slice oa own.length oc) := by rw [← hW1]; simp
  have z1 : W1.heap.size = w.heap.size + 1 := by rw [← hW1]; simp
  obtain ⟨W2, hW2⟩ : ∃ W2, W1.alloc (.cells #[.int .i64 0, .int .i64 0] 34) = W2 := ⟨_, rfl⟩
  have F0 : ResF (w.heap.size + 1) W2 := by have := heap_alloc_new W1 (.cells #[.int .i64 0, .int .i64 0] 34); rw [z1, hW2] at this; exact this
  have hb0 : Below W1.heap.size W1 W2 := by rw [← hW2]; exact (Below.refl _ _).alloc (Nat.le_refl _) _
  have b2 := b1.trans (hb0.mono b1.size)
  have z2 : W2.heap.size = w.heap.size + 2 := by rw [← hW2]; simp [z1]
  have t0 := (hb0.cell (p := ⟨w.heap.size, 0, none⟩) (by simp only; omega)).trans t0
  have t1 := (hb0.cell (p := ⟨w.heap.size, 1, none⟩) (by simp only; omega)).trans t1
  have t2 := (hb0.cell (p := ⟨w.heap.size, 2, none⟩) (by simp only; omega)).trans t2
  have t3 := (hb0.cell (p := ⟨w.heap.size, 3, none⟩) (by simp only; omega)).trans t3
  have t4 := (hb0.cell (p := ⟨w.heap.size, 4, none⟩) (by simp only; omega)).trans t4
  have t5 := (hb0.cell (p := ⟨w.heap.size, 5, none⟩) (by simp only; omega)).trans t5
  have t6 := (hb0.cell (p := ⟨w.heap.size, 6, none⟩) (by simp only; omega)).trans t6
  have ct := hid (rtRight_any ta ga ua oa tc gc uc oc ts gs us sn ss lim own W2 (C.below b2) hsz hon (hP.below b2 (Nat.le_refl _)))
  have cis := fun k pl W => hid (faultIs_any k pl W)
  have cgd := fun W => hid (good_any W)
  generalize rightP ts gs us sn ss lim own = R at *
  obtain ⟨R1, R2⟩ := R
  simp only at *
  unfold FaultP faultV at ct
  unfold faultV at cis
  unfold confV at ct ⊢
  clear C hsz hP
  go_enter Tryz.func8, Tryz.ntmps8
  go_wp2_with fail
  refine ct.out.mono ?_
  rintro e w1 ⟨rfl, hb1⟩
  have b3 := b2.trans (hb1.mono b2.size)
  have hs1 := hb1.size
  have t0 := (hb1.cell (p := ⟨w.heap.size, 0, none⟩) (by simp only; omega)).trans t0
  have t1 := (hb1.cell (p := ⟨w.heap.size, 1, none⟩) (by simp only; omega)).trans t1
  have t2 := (hb1.cell (p := ⟨w.heap.size, 2, none⟩) (by simp only; omega)).trans t2
  have t3 := (hb1.cell (p := ⟨w.heap.size, 3, none⟩) (by simp only; omega)).trans t3
  have t4 := (hb1.cell (p := ⟨w.heap.size, 4, none⟩) (by simp only; omega)).trans t4
  have t5 := (hb1.cell (p := ⟨w.heap.size, 5, none⟩) (by simp only; omega)).trans t5
  have t6 := (hb1.cell (p := ⟨w.heap.size, 6, none⟩) (by simp only; omega)).trans t6
  have F1 := F0.below hb1
  clear hW1 hW2
  simp only at *
  obtain ⟨w2, hw2⟩ : ∃ w2, w1.alloc (.cells #[.int .i64 (R1 : Nat), .int .i64 R2] 34) = w2 := ⟨_, rfl⟩
  have hbA : Below w1.heap.size w1 w2 := by rw [← hw2]; exact (Below.refl w1.heap.size w1).alloc (Nat.le_refl _) _
  have B1 := b3.trans (hbA.mono b3.size)
  have F2 : ResF (w.heap.size + 1) w2 := F1.below hbA
  have p0 : w2.cell? ⟨w1.heap.size, 0, none⟩ = some (.int .i64 (R1 : Nat)) := by rw [← hw2]; simp
  have p1 : w2.cell? ⟨w1.heap.size, 1, none⟩ = some (.int .i64 R2) := by rw [← hw2]; simp
  have t0 := (hbA.cell (p := ⟨w.heap.size, 0, none⟩) (by simp only; omega)).trans t0
  have t1 := (hbA.cell (p := ⟨w.heap.size, 1, none⟩) (by simp only; omega)).trans t1
  have t2 := (hbA.cell (p := ⟨w.heap.size, 2, none⟩) (by simp only; omega)).trans t2
  have t3 := (hbA.cell (p := ⟨w.heap.size, 3, none⟩) (by simp only; omega)).trans t3
  have t4 := (hbA.cell (p := ⟨w.heap.size, 4, none⟩) (by simp only; omega)).trans t4
  have t5 := (hbA.cell (p := ⟨w.heap.size, 5, none⟩) (by simp only; omega)).trans t5
  have t6 := (hbA.cell (p := ⟨w.heap.size, 6, none⟩) (by simp only; omega)).trans t6
  have zA : w2.heap.size = w1.heap.size + 1 := by rw [← hw2]; simp
  go_wp2_with fail
  refine (cis _ _ _).out.mono ?_
  rintro e w3 ⟨rfl, hb3⟩
  clear hw2
  have F3 := F2.below hb3
  have B3 := B1.trans (hb3.mono B1.size)
  have hs3 := hb3.size
  have p0 := (hb3.cell (p := ⟨w1.heap.size, 0, none⟩) (by simp only; omega)).trans p0
  have p1 := (hb3.cell (p := ⟨w1.heap.size, 1, none⟩) (by simp only; omega)).trans p1
  have t0 := (hb3.cell (p := ⟨w.heap.size, 0, none⟩) (by simp only; omega)).trans t0
  have t1 := (hb3.cell (p := ⟨w.heap.size, 1, none⟩) (by simp only; omega)).trans t1
  have t2 := (hb3.cell (p := ⟨w.heap.size, 2, none⟩) (by simp only; omega)).trans t2
  have t3 := (hb3.cell (p := ⟨w.heap.size, 3, none⟩) (by simp only; omega)).trans t3
  have t4 := (hb3.cell (p := ⟨w.heap.size, 4, none⟩) (by simp only; omega)).trans t4
  have t5 := (hb3.cell (p := ⟨w.heap.size, 5, none⟩) (by simp only; omega)).trans t5
  have t6 := (hb3.cell (p := ⟨w.heap.size, 6, none⟩) (by simp only; omega)).trans t6
  have q0 := F3.c0
  have q1 := F3.c1
  have q2 := F3.f0
  have q3 := F3.f1
  by_cases h0 : R1 = 0
  · have h2 := hR h0
    subst h0 h2
    go_wp2
    have hmx : Tryz.prog.follows .mixedOrders = true := by kernel_rfl
    obtain ⟨r, hr⟩ : ∃ r, w.heap.size + 1 = r := ⟨_, rfl⟩
    rw [hr] at F3 q0 q1 q2 q3 ⊢
    have hF3 := F3.lt
    refine wpIn_wide (n := 4).1 ?_
    refine region_ghost (G := Nat × Nat) (fun y => [(21, .pointer pp), (22, .agg #[.slice ta ts.length tc, .slice ga gs.length gc, .slice ua us.length uc, .string (bs sn), .string (bs ss), .int .i64 lim, .slice oa own.length oc]), (23, .string (bs name)), (24, .bool disc), (25, .int .u32 stat), (26, .int .u32 cmd), (27, .agg #[.string ⟨#[]⟩, .int .i64 8192]), (28, .pointer (some ⟨y.1, 0, none⟩)), (29, .agg (fullC (.pointer pp) (.slice ta ts.length tc) (.slice ga gs.length gc) (.slice ua us.length uc) (.slice oa own.length oc) sn ss lim name disc stat cmd (.pointer (some ⟨y.1, 0, none⟩)) (.slice none 0 0) false)), (30, .pointer (some ⟨y.2, 0, none⟩)), (31, .agg #[.int .i64 0, .int .i64 (-1)]), (12, .pointer (some ⟨y.2, 0, none⟩))])
      (fun d y W => w3.grownBy W (some r) ∧ Blk W r 34 (if d 12 = true then #[.int .i64 0, .int .i64 (-1)] else #[.int .i64 0, .int .i64 0]) ∧
        (d 7 = true → w3.heap.size ≤ y.1 ∧ Blk W y.1 108 #[.string ⟨#[]⟩, .int .i64 8192]) ∧
        (d 8 = true → d 7 = true) ∧ (d 9 = true → d 7 = true ∧ w3.heap.size ≤ y.2 ∧ y.1 ≠ y.2 ∧ Blk W y.2 65 (fullC (.pointer pp) (.slice ta ts.length tc) (.slice ga gs.length gc) (.slice ua us.length uc) (.slice oa own.length oc) sn ss lim name disc stat cmd (.pointer (some ⟨y.1, 0, none⟩)) (.slice none 0 0) false)))
      (0, 0) (aF := ?kA) ?kB hmx [21, 22, 23, 24, 25, 26, 27, 28, 29, 30, 31, 12] (fun _ => rfl) (by kernel_rfl) (by kernel_rfl) ⟨grownN (Below.refl w3.heap.size w3).drew (Nat.le_refl _) _, by simp; exact F3, by simp, by simp, by simp⟩ ?kE ?kQ
    case kB =>
      intro y
      simp only [putAll, List.foldl_cons, List.foldl_nil, List.setIfInBounds_toArray, List.set_cons_zero, List.set_cons_succ]
      exact rfl
    case kE =>
      refine ⟨?o0, ?o1, ?o2, ?o3, ?o4, ?o5, ?o6, ?o7, ?o8, ?o9, ?o10, ?o11, ?o12, trivial⟩
      all_goals refine ⟨by simp, fun d y W hC hd hdep => ⟨by first | (simp [go_sem, Oper.about]; done) | (simp [go_sem, Oper.about]; exact trivial), ?_⟩⟩
      case o7 =>
        have h9 : d 9 = false := by
          cases hq : d 9 with
          | false => rfl
          | true =>
            have := (hC.2.2.2.2 hq).1
            have hd' : d 7 = false := hd
            rw [hd'] at this; cases this
        have hN := (Below.refl W.heap.size W).alloc (Nat.le_refl _) (.cells #[.string ⟨#[]⟩, .int .i64 8192] 108)
        refine opGhost_new (W.heap.size, y.2) [28, 29] (w' := W.alloc (.cells #[.string ⟨#[]⟩, .int .i64 8192] 108)) (by simp [go_sem, fullC]) rfl (by kernel_rfl) (by simp [AgreeOff]) ⟨grownNT hC.1 (grownN hN (Nat.le_refl _) _), ?_, fun _ => ⟨hC.1.size, Blk.new _ _ _⟩, fun _ => rfl, fun h => ?_⟩
        · have e : also d 7 12 = d 12 := rfl
          rw [e]
          exact hC.2.1.below hN
        · have e : also d 7 9 = d 9 := rfl
          rw [e, h9] at h; cases h
      case o9 =>
        simp [Region.binds] at hdep
        have d7 : d 7 = true := hC.2.2.2.1 (by simp [hdep])
        clear hdep
        have hN := (Below.refl W.heap.size W).alloc (Nat.le_refl _) (.cells (fullC (.pointer pp) (.slice ta ts.length tc) (.slice ga gs.length gc) (.slice ua us.length uc) (.slice oa own.length oc) sn ss lim name disc stat cmd (.pointer (some ⟨y.1, 0, none⟩)) (.slice none 0 0) false) 65)
        obtain ⟨g1, g2⟩ := hC.2.2.1 d7
        have hgl := g2.lt
        refine opGhost_new (y.1, W.heap.size) [30, 12] (w' := W.alloc (.cells (fullC (.pointer pp) (.slice ta ts.length tc) (.slice ga gs.length gc) (.slice ua us.length uc) (.slice oa own.length oc) sn ss lim name disc stat cmd (.pointer (some ⟨y.1, 0, none⟩)) (.slice none 0 0) false) 65)) (by simp [go_sem, fullC]) rfl (by kernel_rfl) (by simp [AgreeOff]) ⟨grownNT hC.1 (grownN hN (Nat.le_refl _) _), ?_, fun _ => ⟨g1, g2.below hN⟩, hC.2.2.2.1, fun _ => ⟨d7, hC.1.size, ?_, Blk.new _ _ _⟩⟩
        · have e : also d 9 12 = d 12 := rfl
          rw [e]
          exact hC.2.1.below hN
        · show y.1 ≠ W.heap.size
          omega
      case o10 =>
        have hc := (cgd W).out
        refine opGhost_call (f := 29) (args := #[]) (w' := W) (by simp [go_sem]) rfl (by simp) (callsIn_wide.2 (hc.mono ?_))
        rintro e W2 ⟨rfl, hb2⟩
        refine ⟨y, by simp [go_sem], .inl rfl, grownNT hC.1 (grownN hb2 (Nat.le_refl _) _), ?_, fun h => ?_, hC.2.2.2.1, fun h => ?_⟩
        · have e : also d 10 12 = d 12 := rfl
          rw [e]
          exact hC.2.1.below hb2
        · exact ⟨(hC.2.2.1 h).1, (hC.2.2.1 h).2.below hb2⟩
        · obtain ⟨x1, x2, x3, x4⟩ := hC.2.2.2.2 h
          exact ⟨x1, x2, x3, x4.below hb2⟩
      case o12 =>
        have hd' : d 12 = false := hd
        have q2 := hC.2.1
        rw [if_neg (by rw [hd']; simp)] at q2
        have v0 := q2.free 0
        have v1 := q2.free 1
        have u0 := (q2.cell 0).trans (rfl : _ = some (Value.int .i64 0))
        have u1 := (q2.cell 1).trans (rfl : _ = some (Value.int .i64 0))
        refine opGhost_store (w' := (W.setCell ⟨r, 0, none⟩ (.int .i64 0)).setCell ⟨r, 1, none⟩ (.int .i64 (-1))) (by simp [go_sem, v0, v1, u0, u1]) rfl ⟨grownNF (grownNF hC.1 0 _) 1 _, ?_, fun h => ?_, hC.2.2.2.1, fun h => ?_⟩
        · rw [if_pos (by show also d 12 12 = true; unfold also; simp)]
          exact (q2.set 0 _).set 1 _
        · obtain ⟨x1, x2⟩ := hC.2.2.1 h
          exact ⟨x1, blk_offN (blk_offN x2 0 _ (by omega)) 1 _ (by omega)⟩
        · obtain ⟨x1, x2, x3, x4⟩ := hC.2.2.2.2 h
          exact ⟨x1, x2, x3, blk_offN (blk_offN x4 0 _ (by omega)) 1 _ (by omega)⟩
      case o8 =>
        simp [Region.binds] at hdep
        exact opGhost_same (by simp [go_sem, fullC]) rfl ⟨hC.1, hC.2.1, hC.2.2.1, fun _ => by simp [also, hdep], hC.2.2.2.2⟩
      case o1 =>
        have gc : ∀ k u, w3.cell? ⟨w.heap.size, k, none⟩ = some u → W.cell? ⟨w.heap.size, k, none⟩ = some u := fun k u h => hC.1.cell h (by intro e; have := Option.some.inj e; simp only at this; omega)
        have d0 := gc _ _ t0
        have d1 := gc _ _ t1
        have d2 := gc _ _ t2
        have d3 := gc _ _ t3
        have d4 := gc _ _ t4
        have d5 := gc _ _ t5
        have d6 := gc _ _ t6
        exact opGhost_same (by simp [go_sem, d0, d1, d2, d3, d4, d5, d6]) rfl hC
      all_goals exact opGhost_same (by simp [go_sem, fullC]) rfl hC
    case kQ =>
      rintro d ⟨y1, y2⟩ w5 hall ⟨H5, R5, G5, -, X5⟩
      rw [if_pos (hall 12 (by simp))] at R5
      obtain ⟨g1, G5⟩ := G5 (hall 7 (by simp))
      obtain ⟨-, x1, x2, X5⟩ := X5 (hall 9 (by simp))
      simp only at g1 G5 x1 x2 X5
      have q0 := (R5.cell 0).trans (rfl : _ = some (Value.int .i64 0))
      have q1 := (R5.cell 1).trans (rfl : _ = some (Value.int .i64 (-1)))
      gi_wp2
      go_wp2
      refine bodyPost_ret (v := .tuple #[.pointer (some ⟨y2, 0, none⟩), .agg #[.int .i64 0, .int .i64 (-1)]]) (by simp [results, Tryz.results8, go_sem, q0, q1]) rfl ?_
      exact ⟨⟨_, rfl, fun h => absurd rfl h, fun _ => ⟨y2, rfl, y1, by have := B3.size; omega, by have := B3.size; omega, x2, X5, G5⟩⟩, belowGN B3 H5 (by omega) B3.size⟩
  · rw [decide_eq_false h0]
    go_wp2
    go_still_tail 2, (by kernel_rfl)
    change wpList _ _ _ _ _ w3.drew
    go_wp2
    refine bodyPost_ret (v := .tuple #[.pointer none, .agg #[.int .i64 (R1 : Nat), .int .i64 R2]]) (by simp [results, Tryz.results8, go_sem, q0, q1]) rfl ?_
    exact ⟨⟨none, rfl, fun _ => rfl, fun h => absurd h h0⟩, (B3.drew.setCell (p := ⟨w.heap.size + 1, 0, none⟩) (by simp only; omega) _).setCell (p := ⟨w.heap.size + 1, 1, none⟩) (by simp only; omega) _⟩
end
end Go.Proofs.YtbimlijhgeajjaaGreatDoor
