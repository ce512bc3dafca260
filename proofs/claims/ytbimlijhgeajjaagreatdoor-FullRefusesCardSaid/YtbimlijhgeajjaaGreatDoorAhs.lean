/- What is wrong with a PDU: by the program and by the document. -/
import Derived.Test.YtbimlijhgeajjaaGreatDoorParse
import Derived.Test.YtbimlijhgeajjaaGreatDoorHeadWr
import Derived.Test.YtbimlijhgeajjaaGreatDoorHeadRightR
import Derived.Test.YtbimlijhgeajjaaGreatDoorAhsWrR
import Derived.Test.YtbimlijhgeajjaaGreatDoorNegoR
import Derived.Test.YtbimlijhgeajjaaGreatDoorHeadRdBase
import Derived.Test.YtbimlijhgeajjaaGreatDoorProg
import Derived.Test.YtbimlijhgeajjaaGreatDoorBase
import Derived.Deep.QuietTactic
import Derived.BigQuiet
import Derived.Test.YtbimlijhgeajjaaGreatDoorAhsW
import Derived.Test.YtbimlijhgeajjaaGreatDoorField
import Derived.Test.YtbimlijhgeajjaaGreatDoorPairKey
import Derived.Maps.AppendAt
set_option linter.unusedSectionVars false
set_option linter.unusedSimpArgs false
set_option linter.unusedVariables false
namespace Go.Proofs.YtbimlijhgeajjaaGreatDoor
open Go Go.RowKit
set_option linter.unusedVariables false
set_option linter.unusedSectionVars false
set_option linter.unusedSimpArgs false
set_option maxRecDepth 100000
theorem idx0 (x y : Value) (W : World) : (Instr.index 204 (.agg #[x, y]) (.int .i64 0)).run Tryz.prog W = .ok x W := by rfl
theorem idx1 (x y : Value) (W : World) : (Instr.index 204 (.agg #[x, y]) (.int .i64 1)).run Tryz.prog W = .ok y W := by rfl
/-- a PDU that comes in -/
structure PduIn (w : World) (op : Int) (flags : Int) (v : Value) (vs : List Nat) (av : Value) (n : Nat) (I : Nat → Int × List UInt8) (d : List UInt8) : Prop where
  op0 : -9223372036854775808 ≤ op
  op1 : op ≤ 9223372036854775807
  fl0 : -9223372036854775808 ≤ flags
  fl1 : flags ≤ 9223372036854775807
  len : vs.length ≤ 9223372036854775807
  fits : ∀ x ∈ vs, x ≤ 18446744073709551615
  vals : Sl w v 1 vs.length (u64Cells vs)
  ahs : AhsIn w av n I
  data : d.length ≤ 9223372036854775807
theorem PduIn.below {w w' : World} {op flags : Int} {v av : Value} {vs : List Nat} {n : Nat} {I : Nat → Int × List UInt8} {d : List UInt8} (h : PduIn w op flags v vs av n I d) (hb : Below w.heap.size w w') : PduIn w' op flags v vs av n I d :=
  ⟨h.op0, h.op1, h.fl0, h.fl1, h.len, h.fits, h.vals.below (Nat.le_refl _) hb, h.ahs.below hb, h.data⟩
theorem ahs_form {w : World} {v : Value} {n : Nat} {I : Nat → Int × List UInt8} (h : AhsIn w v n I) : ∃ a c, v = .slice a n c := by
  rcases h.2.1 with ⟨rfl, rfl⟩ | ⟨a, cap, rfl⟩
  · exact ⟨_, _, rfl⟩
  · exact ⟨_, _, rfl⟩
section
variable (op : Int) (now : Bool) (flags : Int) (v : Value) (vs : List Nat) (av : Value) (n : Nat) (I : Nat → Int × List UInt8) (d : List UInt8) (w : World) (hp : PduIn w op flags v vs av n I d) (hg : EType w) (hT : AS w) (hP : PT w)
include hp hg hT hP
set_option maxHeartbeats 4000000 in
theorem pduRight_any : Calls Tryz.prog 59 #[pduV op now flags v av d] w fun e w' => e = .returned (errV 32 (pduE op now flags vs n I d)) ∧ Below w.heap.size w w' := by
  have c1 := fun w1 (hb : Below w.heap.size w w1) => hid (right_any op now flags v vs w1 hp.op0 hp.op1 hp.fl0 hp.fl1 hp.len hp.fits (hp.vals.below (Nat.le_refl _) hb) (hT.below hb (Nat.le_refl _)) (hP.below hb (Nat.le_refl _)))
  have c2 := fun w1 (hb : Below w.heap.size w w1) => hid (ahsRight_any av n I w1 (hp.ahs.below hb))
  have c3 := fun x k pl w1 (hb : Below w.heap.size w w1) (he : ErrIs w1 x k pl) => hid (tell_any x k pl w1 (hg.below hb) he)
  have HD := hid (show pduE op now flags vs n I d = if (rightH op now flags vs).1 ≠ 0 then (rightH op now flags vs).1 else if (ahsW I n 0 0).1 ≠ 0 then (ahsW I n 0 0).1 else if 100000 < d.length then 4 else 0 from rfl)
  have hdl := hp.data
  obtain ⟨aa, ac, rfl⟩ := ahs_form hp.ahs
  obtain ⟨sa, sc, rfl, _⟩ := id hp.vals
  unfold RightPost at c1
  generalize pduE op now flags vs n I d = E at *
  generalize rightH op now flags vs = rh at *
  generalize ahsW I n 0 0 = ah at *
  obtain ⟨k1, p1⟩ := rh
  obtain ⟨k2, p2⟩ := ah
  simp only at c1 c2 HD
  have C1 := hid c1; have C2 := hid c2; have C3 := hid c3
  clear hg hT hP c1 c2 c3 hp
  have b1 := (Below.refl w.heap.size w).alloc (Nat.le_refl _) (.cells #[.int .i64 op, .bool now, .int .i64 flags, .slice sa vs.length sc, .slice aa n ac, .string (bs d)] 54)
  have B1 := Blk.new w 54 #[.int .i64 op, .bool now, .int .i64 flags, .slice sa vs.length sc, .slice aa n ac, .string (bs d)]
  go_enter Tryz.func59, Tryz.ntmps59
  unfold pduV
  go_wp2_with fail
  generalize hW1 : w.alloc (.cells #[.int .i64 op, .bool now, .int .i64 flags, .slice sa vs.length sc, .slice aa n ac, .string (bs d)] 54) = w1 at *
  clear hW1
  have hmx : Tryz.prog.follows .mixedOrders = true := by kernel_rfl
  refine wpIn_wide (n := 4).1 ?_
  refine region_rel (aF := ?kA) [7, 10, 11] (fun t v W => if t = 7 then ErrIs W v k1 p1 else if t = 10 then ErrIs W v k2 p2 else ∃ x y, v = .agg #[x, y] ∧ ErrIs W x k1 p1 ∧ ErrIs W y k2 p2) [(5, some (.pointer (some ⟨w.heap.size, 0, none⟩))), (6, some (headV op now flags (.slice sa vs.length sc))), (7, none), (8, some (.pointer (some ⟨w.heap.size, 4, none⟩))), (9, some (.slice aa n ac)), (10, none), (11, none), (12, some (.int .i64 0))] (fun W => Below w1.heap.size w1 W) ?kB hmx (by kernel_rfl) ?kE ?kR (fun w w' h hb => h.trans (hb.mono h.size)) (Below.refl _ _).drew ?kC ?kD
  case kB =>
    intro g
    simp only [putRel, putAll, List.map_cons, List.map_nil, Option.getD_some, Option.getD_none, List.foldl_cons, List.foldl_nil, List.setIfInBounds_toArray, List.set_cons_zero, List.set_cons_succ]
    exact rfl
  case kE => kernel_rfl
  case kR =>
    intro t v W W' h hb
    revert h
    intro h
    split
    · rename_i h7; rw [if_pos h7] at h; exact h.below hb
    · rename_i h7
      rw [if_neg h7] at h
      split
      · rename_i h10; rw [if_pos h10] at h; exact h.below hb
      · rename_i h10
        rw [if_neg h10] at h
        obtain ⟨x, y, rfl, hx, hy⟩ := h
        exact ⟨x, y, rfl, hx.below hb, hy.below hb⟩
  case kC =>
    intro g
    refine ⟨?_, ?_, ?_, ?_, ?_, ?_, ?_, ?_, trivial⟩
    all_goals refine ⟨by simp, fun W h hg => ⟨?_, ?_⟩⟩
    all_goals first
      | (simp [go_sem, Oper.about]; done)
      | (simp [go_sem, Oper.about]; exact trivial)
      | skip
    all_goals
      have hrf : ∀ w : World, Below w.heap.size w w := fun w => Below.refl _ w
      have t0 : W.cell? ⟨w.heap.size, 0, none⟩ = some (.int .i64 op) := (h.cell (p := ⟨w.heap.size, 0, none⟩) B1.lt).trans ((B1.cell 0).trans rfl)
      have t1 : W.cell? ⟨w.heap.size, 1, none⟩ = some (.bool now) := (h.cell (p := ⟨w.heap.size, 1, none⟩) B1.lt).trans ((B1.cell 1).trans rfl)
      have t2 : W.cell? ⟨w.heap.size, 2, none⟩ = some (.int .i64 flags) := (h.cell (p := ⟨w.heap.size, 2, none⟩) B1.lt).trans ((B1.cell 2).trans rfl)
      have t3 : W.cell? ⟨w.heap.size, 3, none⟩ = some (.slice sa vs.length sc) := (h.cell (p := ⟨w.heap.size, 3, none⟩) B1.lt).trans ((B1.cell 3).trans rfl)
      have t4 : W.cell? ⟨w.heap.size, 4, none⟩ = some (.slice aa n ac) := (h.cell (p := ⟨w.heap.size, 4, none⟩) B1.lt).trans ((B1.cell 4).trans rfl)
    all_goals first
      | (simp [OpRel, go_sem, headV, hrf]; done)
      | (simp [OpRel, go_sem, headV, t0, t1, t2, t3, hrf]; done)
      | (simp [OpRel, go_sem, t4, hrf]; done)
      | skip
    · have hc := (C1.out W (b1.trans (h.mono b1.size))).out
      unfold headV at hc
      simp [OpRel, go_sem, headV]
      refine callsIn_wide.2 (hc.mono ?_)
      rintro e w5 ⟨ev, rfl, her, hb⟩
      exact ⟨ev, rfl, her, hb⟩
    · have hc := (C2.out W (b1.trans (h.mono b1.size))).out
      simp [OpRel, go_sem]
      refine callsIn_wide.2 (hc.mono ?_)
      rintro e w5 ⟨⟨ev, rfl, her⟩, hb⟩
      exact ⟨ev, rfl, her, hb⟩
    · have h7 : ErrIs W (g 7) k1 p1 := hg 7 (by simp) (by simp [Op.operands])
      have h10 : ErrIs W (g 10) k2 p2 := hg 10 (by simp) (by simp [Op.operands])
      have HX7 := hid h7; have HX10 := hid h10
      clear hg
      generalize g 7 = x7 at *
      generalize g 10 = x10 at *
      cases h7 <;> cases h10 <;> (simp [OpRel, go_sem, hrf]; first | exact ⟨HX7.out, HX10.out⟩ | exact ⟨_, _, ⟨rfl, rfl⟩, HX7.out, HX10.out⟩)
  case kD =>
    intro g W hW hg
    obtain ⟨x, y, hxy, hx, hy⟩ : ∃ x y, g 11 = .agg #[x, y] ∧ ErrIs W x k1 p1 ∧ ErrIs W y k2 p2 := hg 11 (by simp)
    have B2 := B1.below hW
    have b2 := b1.trans (hW.mono b1.size)
    have t5 : W.cell? ⟨w.heap.size, 5, none⟩ = some (.string (bs d)) := (B2.cell 5).trans rfl
    have HX := hid hx; have HY := hid hy
    rw [hxy]
    generalize g 7 = g7
    generalize g 10 = g10
    clear hxy hg
    have hci := (C3.out)
    have HCI := hid hci
    clear hci
    have hi0 := idx0
    have hi1 := idx1
    gi_wp2
    go_wp2
    refine wp_loop_rounds 3 ?_
    rw [rounds_succ]
    by_cases hk1 : k1 = 0
    · subst hk1
      obtain rfl := errIs_zeroH hx
      by_cases hk2 : k2 = 0
      · subst hk2
        obtain rfl := errIs_zeroH hy
        by_cases hd : 100000 < d.length
        · have HE := hid (show E = 4 by rw [HD.out, if_neg (by simp), if_neg (by simp), if_pos hd])
          have hdd : decide ((100000 : Int) < (d.length : Int)) = true := decide_eq_true (by omega)
          go_wp2
          rw [rounds_succ]
          go_wp2
          rw [rounds_succ]
          go_wp2
          go_ret
          exact ⟨by rw [HE.out]; rfl, b2⟩
        · have HE := hid (show E = 0 by rw [HD.out, if_neg (by simp), if_neg (by simp), if_neg hd])
          have hdd : decide ((100000 : Int) < (d.length : Int)) = false := decide_eq_false (by omega)
          go_wp2
          rw [rounds_succ]
          go_wp2
          rw [rounds_succ]
          go_wp2
          go_ret
          exact ⟨by rw [HE.out]; rfl, b2⟩
      · have HE := hid (show E = k2 by rw [HD.out, if_neg (by simp), if_pos hk2])
        cases hy with
        | nil => exact absurd rfl hk2
        | bare k h =>
          go_wp2
          rw [rounds_succ]
          go_wp2_with fail
          refine (HCI.out _ _ _ W b2 HY.out).out.mono ?_
          rintro e w3 ⟨rfl, hb3⟩
          go_wp2
          go_ret
          exact ⟨by rw [HE.out, errV, if_neg hk2]; rfl, b2.trans (hb3.mono b2.size)⟩
        | at_ k h pl b e0 e1 =>
          go_wp2
          rw [rounds_succ]
          go_wp2_with fail
          refine (HCI.out _ _ _ W b2 HY.out).out.mono ?_
          rintro e w3 ⟨rfl, hb3⟩
          go_wp2
          go_ret
          exact ⟨by rw [HE.out, errV, if_neg hk2]; rfl, b2.trans (hb3.mono b2.size)⟩
    · have HE := hid (show E = k1 by rw [HD.out, if_pos hk1])
      cases hx with
      | nil => exact absurd rfl hk1
      | bare k h =>
        go_wp2_with fail
        refine (HCI.out _ _ _ W b2 HX.out).out.mono ?_
        rintro e w3 ⟨rfl, hb3⟩
        go_wp2
        go_ret
        exact ⟨by rw [HE.out, errV, if_neg hk1]; rfl, b2.trans (hb3.mono b2.size)⟩
      | at_ k h pl b e0 e1 =>
        go_wp2_with fail
        refine (HCI.out _ _ _ W b2 HX.out).out.mono ?_
        rintro e w3 ⟨rfl, hb3⟩
        go_wp2
        go_ret
        exact ⟨by rw [HE.out, errV, if_neg hk1]; rfl, b2.trans (hb3.mono b2.size)⟩
set_option maxHeartbeats 4000000 in
theorem rpduRight_any : Calls Tryz.prog 49 #[pduV op now flags v av d] w fun e w' => e = .returned (.int .i64 (pduE op now flags vs n I d : Nat)) ∧ Below w.heap.size w w' := by
  have c1 := fun w1 (hb : Below w.heap.size w w1) => hid (rright_any op now flags v vs w1 hp.op0 hp.op1 hp.fl0 hp.fl1 hp.len hp.fits (hp.vals.below (Nat.le_refl _) hb))
  have c2 := fun w1 (hb : Below w.heap.size w w1) => hid (rahsWrite_any av n I w1 (hp.ahs.below hb))
  have ci := fun k pl w1 => hid (faultIs_any k pl w1)
  have HD := hid (show pduE op now flags vs n I d = if (rightH op now flags vs).1 ≠ 0 then (rightH op now flags vs).1 else if (ahsW I n 0 0).1 ≠ 0 then (ahsW I n 0 0).1 else if 100000 < d.length then 4 else 0 from rfl)
  have hdl := hp.data
  obtain ⟨aa, ac, rfl⟩ := ahs_form hp.ahs
  obtain ⟨sa, sc, rfl, _⟩ := id hp.vals
  unfold RRightPost faultV headV at c1
  unfold AhsWrRPost at c2
  generalize pduE op now flags vs n I d = E at *
  generalize (if (ahsW I n 0 0).1 = 0 then ahsB I n 0 [] else []) = X at *
  generalize rightH op now flags vs = rh at *
  generalize ahsW I n 0 0 = ah at *
  obtain ⟨k1, p1⟩ := rh
  obtain ⟨k2, p2⟩ := ah
  simp only at c1 c2 HD
  unfold faultV at c2
  clear hg hT hP hp
  have b1 := (Below.refl w.heap.size w).alloc (Nat.le_refl _) (.cells #[.int .i64 op, .bool now, .int .i64 flags, .slice sa vs.length sc, .slice aa n ac, .string (bs d)] 54)
  have B1 := Blk.new w 54 #[.int .i64 op, .bool now, .int .i64 flags, .slice sa vs.length sc, .slice aa n ac, .string (bs d)]
  go_enter Tryz.func49, Tryz.ntmps49
  unfold pduV
  go_wp2_with fail
  refine (c1 _ b1).out.mono ?_
  rintro e w2 ⟨rfl, hb2⟩
  have F2 := Blk.new w2 34 #[.int .i64 (k1 : Nat), .int .i64 p1]
  have hA2 := (Below.refl w2.heap.size w2).alloc (Nat.le_refl _) (.cells #[.int .i64 (k1 : Nat), .int .i64 p1] 34)
  have hb2' := hb2.trans (hA2.mono hb2.size)
  go_wp2_with fail
  refine (ci k1 p1 _).out.mono ?_
  rintro e w3 ⟨rfl, hb3⟩
  have F3 := F2.below hb3
  have hb3' := hb2'.trans (hb3.mono hb2'.size)
  have B3 := B1.below hb3'
  have b3 := b1.trans (hb3'.mono b1.size)
  by_cases hk1 : k1 = 0
  · subst hk1
    have p4 : w3.cell? ⟨w.heap.size, 4, none⟩ = some (.slice aa n ac) := (B3.cell 4).trans rfl
    go_wp2_with fail
    refine (c2 _ b3).out.mono ?_
    rintro e w4 ⟨rfl, hb4⟩
    have F4 := Blk.new w4 34 #[.int .i64 (k2 : Nat), .int .i64 p2]
    have hA4 := (Below.refl w4.heap.size w4).alloc (Nat.le_refl _) (.cells #[.int .i64 (k2 : Nat), .int .i64 p2] 34)
    have hb4' := hb4.trans (hA4.mono hb4.size)
    go_wp2_with fail
    refine (ci k2 p2 _).out.mono ?_
    rintro e w5 ⟨rfl, hb5⟩
    have F5 := F4.below hb5
    have hb5' := hb4'.trans (hb5.mono hb4'.size)
    have B5 := B3.below hb5'
    have b5 := b3.trans (hb5'.mono b3.size)
    by_cases hk2 : k2 = 0
    · subst hk2
      have p5 : w5.cell? ⟨w.heap.size, 5, none⟩ = some (.string (bs d)) := (B5.cell 5).trans rfl
      by_cases hd : 100000 < d.length
      · have HE := hid (show E = 4 by rw [HD.out, if_neg (by simp), if_neg (by simp), if_pos hd])
        have hdd : decide ((100000 : Int) < (d.length : Int)) = true := decide_eq_true (by omega)
        go_wp2
        go_ret
        exact ⟨by rw [HE.out]; rfl, b5⟩
      · have HE := hid (show E = 0 by rw [HD.out, if_neg (by simp), if_neg (by simp), if_neg hd])
        have hdd : decide ((100000 : Int) < (d.length : Int)) = false := decide_eq_false (by omega)
        go_wp2
        go_ret
        exact ⟨by rw [HE.out]; rfl, b5⟩
    · have HE := hid (show E = k2 by rw [HD.out, if_neg (by simp), if_pos hk2])
      have hz : decide (k2 = 0) = false := decide_eq_false hk2
      have f0 : w5.cell? ⟨w4.heap.size, 0, none⟩ = some (.int .i64 (k2 : Nat)) := (F5.cell 0).trans rfl
      rw [hz]
      go_wp2
      go_ret
      exact ⟨by rw [HE.out]; rfl, b5⟩
  · have HE := hid (show E = k1 by rw [HD.out, if_pos hk1])
    have hz : decide (k1 = 0) = false := decide_eq_false hk1
    have f0 : w3.cell? ⟨w2.heap.size, 0, none⟩ = some (.int .i64 (k1 : Nat)) := (F3.cell 0).trans rfl
    rw [hz]
    go_wp2
    go_ret
    exact ⟨by rw [HE.out]; rfl, b3⟩
end
end Go.Proofs.YtbimlijhgeajjaaGreatDoor

namespace Go.Proofs.YtbimlijhgeajjaaGreatDoor
open Go.RowKit
set_option linter.unusedVariables false
set_option maxRecDepth 100000
def trimR (l : List UInt8) (c : UInt8) : List UInt8 := (l.reverse.dropWhile (· == c)).reverse
def trimL (l : List UInt8) (c : UInt8) : List UInt8 := l.dropWhile (· == c)
theorem trimR_snoc (l : List UInt8) (x c : UInt8) : trimR (l ++ [x]) c = if x = c then trimR l c else l ++ [x] := by
  unfold trimR
  rw [List.reverse_append, List.reverse_singleton, List.singleton_append, List.dropWhile_cons]
  by_cases h : x = c
  · subst h; simp
  · simp [h]
theorem trim_nil (l : List UInt8) (c : UInt8) : trimL (trimR l c) c = [] ↔ l = List.replicate l.length c := by
  have h1 : ∀ l : List UInt8, trimL l c = [] ↔ ∀ x ∈ l, x = c := by
    intro l; unfold trimL
    induction l with
    | nil => simp
    | cons a l ih =>
      rw [List.dropWhile_cons]
      by_cases ha : a = c
      · subst ha; simp [ih]
      · simp [ha]
  have h2 : (∀ x ∈ trimR l c, x = c) ↔ ∀ x ∈ l, x = c := by
    constructor
    · intro h
      rw [← List.reverse_reverse l]
      unfold trimR at h
      generalize l.reverse = r at *
      intro x hx
      induction r with
      | nil => simp at hx
      | cons a r ih =>
        rw [List.dropWhile_cons] at h
        by_cases ha : a = c
        · subst ha
          simp at h hx
          rcases hx with hx | rfl
          · exact ih (by simpa using h) (by simpa using hx)
          · rfl
        · rw [if_neg (by simpa using ha)] at h
          exact h x hx
    · intro h x hx
      unfold trimR at hx
      exact h x (by simpa using (List.dropWhile_sublist _).subset (List.mem_reverse.1 hx))
  rw [h1, h2, List.eq_replicate_iff]
  simp
end Go.Proofs.YtbimlijhgeajjaaGreatDoor

namespace Go.Proofs.YtbimlijhgeajjaaGreatDoor
open Go.RowKit
set_option linter.unusedVariables false
set_option maxRecDepth 100000
def runpadV (l : List UInt8) (n : Int) : Value := .tuple (if unpadE l n = 0 then #[.string (bs (l.take n.toNat)), .int .i64 (n + padI n), .int .i64 0] else #[.string (bs []), .int .i64 0, .int .i64 (unpadE l n : Nat)])
theorem drewN_drewN (w : World) (a b : Nat) : (w.drewN a).drewN b = w.drewN (a + b) := by
  simp [World.drewN, Nat.add_assoc]
theorem trim0_iff (l : List UInt8) (k p : Nat) (hp : k + p ≤ l.length) : trimL (trimR ((l.drop k).take p) 0) 0 = [] ↔ (l.drop k).take p = List.replicate p 0 := by
  rw [trim_nil]
  have : ((l.drop k).take p).length = p := by simp; omega
  rw [this]
end Go.Proofs.YtbimlijhgeajjaaGreatDoor

namespace Go.Proofs.YtbimlijhgeajjaaGreatDoor
open Go.RowKit
set_option linter.unusedVariables false
set_option maxRecDepth 100000
/-- the headers that bytes are: what was read, what is wrong (0: nothing), and where -/
def ahsP : Nat → List UInt8 → Nat → List (Nat × List UInt8) × Nat × Int
  | 0, _, _ => ([], 0, -1)
  | f + 1, rest, at_ =>
    if rest.length = 0 then ([], 0, -1) else if rest.length < 3 then ([], 7, at_) else
      if unpadE rest (3 + num (rest.take 2) : Nat) = 0 then
        (((rest.getD 2 0).toNat, (rest.take (3 + num (rest.take 2))).drop 3) :: (ahsP f (rest.drop (3 + num (rest.take 2) + padN (3 + num (rest.take 2)))) (at_ + (3 + num (rest.take 2) + padN (3 + num (rest.take 2))))).1,
          (ahsP f (rest.drop (3 + num (rest.take 2) + padN (3 + num (rest.take 2)))) (at_ + (3 + num (rest.take 2) + padN (3 + num (rest.take 2))))).2)
      else ([], unpadE rest (3 + num (rest.take 2) : Nat), at_)
def ahsCells (xs : List (Nat × List UInt8)) : List Value := xs.flatMap fun x => [.int .i64 (x.1 : Nat), .string (bs x.2)]
theorem infoAhs : (Tryz.prog.info? 120).map (fun i => (i.zero, i.size, i.bytes)) = some (some (.agg #[.int .i64 0, .string ⟨#[]⟩]), 2, 24) := by kernel_rfl
def RAhs (l : List UInt8) (w : World) (v at_ : Value) (wr : World) : Prop :=
  ∃ (k f : Nat) (xs : List (Nat × List UInt8)), k ≤ l.length ∧ l.length - k < f ∧ 4 * xs.length ≤ k ∧ at_ = .int .i64 (k : Nat) ∧
    ahsP (l.length + 1) l 0 = (xs ++ (ahsP f (l.drop k) k).1, (ahsP f (l.drop k) k).2) ∧ wr.ownsRow w.heap.size 120 2 v xs.length (ahsCells xs) ∧ Below w.heap.size w wr
theorem ahsCells_snoc (xs : List (Nat × List UInt8)) (x : Nat × List UInt8) : ahsCells (xs ++ [x]) = ahsCells xs ++ [.int .i64 (x.1 : Nat), .string (bs x.2)] := by
  simp [ahsCells]
theorem num2_lt (l : List UInt8) : num (l.take 2) ≤ 65535 := by
  have h1 := num_lt (l.take 2)
  have h2 : (l.take 2).length ≤ 2 := by simp; omega
  have h3 := Nat.pow_le_pow_right (n := 256) (by omega) h2
  omega
def AhsPost (l : List UInt8) (w : World) (e : Ending) (w' : World) : Prop :=
  (∃ v er, e = .returned (.tuple #[v, er]) ∧ ErrIs w' er (ahsP (l.length + 1) l 0).2.1 (ahsP (l.length + 1) l 0).2.2 ∧
      Sl w' v 2 (if (ahsP (l.length + 1) l 0).2.1 = 0 then (ahsP (l.length + 1) l 0).1.length else 0) (if (ahsP (l.length + 1) l 0).2.1 = 0 then ahsCells (ahsP (l.length + 1) l 0).1 else [])) ∧ Below w.heap.size w w'
end Go.Proofs.YtbimlijhgeajjaaGreatDoor
