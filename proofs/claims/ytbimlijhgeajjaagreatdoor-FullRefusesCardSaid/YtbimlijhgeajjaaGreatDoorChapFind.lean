/- What is said to an offer, by the program. -/
import Derived.Test.YtbimlijhgeajjaaGreatDoorNegoOps
import Derived.StillTailTactics
import Derived.Deep.QuietTactic
import Derived.BigQuiet
import Derived.Deep.DeepCutAuto
import Derived.Test.YtbimlijhgeajjaaGreatDoorSplitPure
set_option linter.unusedSectionVars false
set_option linter.unusedSimpArgs false
set_option linter.unusedVariables false
namespace Go.Proofs.YtbimlijhgeajjaaGreatDoor
open Go Go.RowKit
set_option linter.unusedVariables false
set_option linter.unusedSectionVars false
set_option linter.unusedSimpArgs false
set_option maxRecDepth 100000
theorem ansP_none {mine : PL} {x : List UInt8 × List UInt8} {login disc : Bool} (h : findK keyRows x.1 = none) : ansP mine x login disc = (notU, []) := by unfold ansP; rw [h]
theorem ansP_some {mine : PL} {x : List UInt8 × List UInt8} {login disc : Bool} {k : KR} (h : findK keyRows x.1 = some k) : ansP mine x login disc = (
    if (k.lo == [76]) = true ∧ login = false then (rejectL, []) else
    if (k.no == [78]) = true ∧ disc = true then (irrL, []) else
    if fitsP x.1 x.2 ≠ 0 then (rejectL, []) else
    if dnum k.lk = 6 ∨ dnum k.lk = 7 then ([], x.2) else
    if (resP x.1 x.2 (ofP mine x.1).1).2 ≠ 0 then (rejectL, []) else ((resP x.1 x.2 (ofP mine x.1).1).1, (resP x.1 x.2 (ofP mine x.1).1).1)) := by
  unfold ansP
  rw [h, fits_some h]
  rfl
section
variable (g : Nat) (ov rv : Value) (own : PL) (x1 x2 : List UInt8) (login disc : Bool) (w : World) (hb : Blk w g 105 #[ov, rv]) (h : PSl w ov own) (hn : own.length ≤ 9223372036854775807)
  (h1 : x1.length ≤ 9223372036854775807) (h2 : x2.length ≤ 100000) (hsz : ∀ k, (own.getD k ([], [])).2.length ≤ 100000) (hT : AS w) (hev : EV w) (hP : PT w)
include hb h hn h1 h2 hsz hT hev hP
set_option maxHeartbeats 8000000 in
theorem nAnswer_any : Calls Tryz.prog 46 #[.pointer (some ⟨g, 0, none⟩), .agg #[.string (bs x1), .string (bs x2)], .bool login, .bool disc] w fun e w' => e = .returned (.tuple #[.string (bs (ansP own (x1, x2) login disc).1), .string (bs (ansP own (x1, x2) login disc).2)]) ∧ Below w.heap.size w w' := by
  obtain ⟨W1, hW1⟩ : ∃ W1, w.alloc (.cells #[.string (bs x1), .string (bs x2)] 83) = W1 := ⟨_, rfl⟩
  have b1 : Below w.heap.size w W1 := by rw [← hW1]; exact (Below.refl _ _).alloc (Nat.le_refl _) _
  have p0 : W1.cell? ⟨w.heap.size, 0, none⟩ = some (.string (bs x1)) := by rw [← hW1]; simp
  have p1 : W1.cell? ⟨w.heap.size, 1, none⟩ = some (.string (bs x2)) := by rw [← hW1]; simp
  have z1 : W1.heap.size = w.heap.size + 1 := by rw [← hW1]; simp
  have co := fun W (hq : Below w.heap.size w W) => hid (of_any x1 W (hT.below hq (Nat.le_refl _)))
  unfold OfPost at co
  have cf := fun W (hq : Below w.heap.size w W) => hid (fits_any x1 x2 W h2 (hT.below hq (Nat.le_refl _)) (hev.below hq))
  have cO := fun W (hq : Below w.heap.size w W) => hid (nOwn_any g ov rv own x1 W (hb.below hq) h1 (hT.below hq (Nat.le_refl _)) (h.below hq) hn)
  have hol := ofP_len (key := x1) hsz (by omega)
  have cR := fun W (hq : Below w.heap.size w W) => hid (result_any x1 x2 (ofP own x1).1 W h2 hol (hT.below hq (Nat.le_refl _)) (hP.below hq (Nat.le_refl _)) (hev.below hq))
  have HN := hid (@ansP_none own (x1, x2) login disc)
  have HS := hid (fun k h => @ansP_some own (x1, x2) login disc k h)
  have hpw : w.heap.size < W1.heap.size := by omega
  simp only at HN HS
  cases hfk : findK keyRows x1 with
  | none =>
    have co := co W1 b1
    rw [hfk] at co
    have HE := hid (HN.out hfk)
    simp only [keyVal, keyErr] at co
    rw [errV_pos _ _ (by omega)] at co
    clear HN HS hfk cf cO cR h hb
    go_enter Tryz.func46, Tryz.ntmps46
    go_wp2_with fail
    refine co.out.mono ?_
    rintro e w2 ⟨rfl, hb2⟩
    go_wp2
    go_ret2
    exact ⟨by rw [HE.out]; rfl, (b1.trans (hb2.mono b1.size)).alloc (by have := hb2.size; omega) _⟩
  | some k =>
    have co := co W1 b1
    rw [hfk] at co
    have HE := hid (HS.out k hfk)
    simp only [keyVal, keyErr, KR.cells, errV_zero] at co
    generalize ansP own (x1, x2) login disc = A at *
    generalize ofP own x1 = op at *
    obtain ⟨o1, o2⟩ := op
    simp only at *
    generalize resP x1 x2 o1 = R at *
    obtain ⟨r1, r2⟩ := R
    simp only at *
    generalize fitsP x1 x2 = F at *
    generalize (k.no == [78]) = bn at *
    generalize (k.lo == [76]) = bl at *
    generalize dnum k.lk = kd at *
    clear HN HS hfk h hb
    go_enter Tryz.func46, Tryz.ntmps46
    go_wp2_with fail
    refine co.out.mono ?_
    rintro e w2 ⟨rfl, hb2⟩
    have b2 := b1.trans (hb2.mono b1.size)
    have p0 := (hb2.cell (p := ⟨w.heap.size, 0, none⟩) hpw).trans p0
    have p1 := (hb2.cell (p := ⟨w.heap.size, 1, none⟩) hpw).trans p1
    have hp2 : w.heap.size < w2.heap.size := Nat.lt_of_lt_of_le hpw hb2.size
    obtain ⟨W3, hW3⟩ : ∃ W3, w2.alloc (.cells #[.string (bs k.name), .int .i64 (kd : Int), .int .i64 (dnum k.ll : Int), .int .i64 (dnum k.lh : Int), .string (bs k.dv), .bool bn, .bool bl] 125) = W3 := ⟨_, rfl⟩
    have hA3 : Below w2.heap.size w2 W3 := by rw [← hW3]; exact (Below.refl _ _).alloc (Nat.le_refl _) _
    have b3 := b2.trans (hA3.mono b2.size)
    have p0 := (hA3.cell (p := ⟨w.heap.size, 0, none⟩) hp2).trans p0
    have p1 := (hA3.cell (p := ⟨w.heap.size, 1, none⟩) hp2).trans p1
    have d1 : W3.cell? ⟨w2.heap.size, 1, none⟩ = some (.int .i64 (kd : Int)) := by rw [← hW3]; simp
    have d5 : W3.cell? ⟨w2.heap.size, 5, none⟩ = some (.bool bn) := by rw [← hW3]; simp
    have d6 : W3.cell? ⟨w2.heap.size, 6, none⟩ = some (.bool bl) := by rw [← hW3]; simp
    have hlt3 : w2.heap.size < W3.heap.size := by rw [← hW3]; simp
    have hp3 : w.heap.size < W3.heap.size := by omega
    go_upto_region 2 with fail
    by_cases hA : bl = true ∧ login = false
    · obtain ⟨rfl, rfl⟩ := hA
      have HF := hid (show A = (rejectL, []) by rw [HE.out, if_pos ⟨rfl, rfl⟩])
      clear HE
      go_wp2
      go_ret2
      exact ⟨by rw [HF.out]; rfl, b3⟩
    have HE1 := hid (HE.out.trans (if_neg hA))
    clear HE
    have hbl : bl = false ∨ (bl = true ∧ login = true) := by
      cases bl
      · exact .inl rfl
      · cases login
        · exact absurd ⟨rfl, rfl⟩ hA
        · exact .inr ⟨rfl, rfl⟩
    clear hA
    by_cases hB : bn = true ∧ disc = true
    · obtain ⟨rfl, rfl⟩ := hB
      have HF := hid (show A = (irrL, []) by rw [HE1.out, if_pos ⟨rfl, rfl⟩])
      clear HE1
      rcases hbl with rfl | ⟨rfl, rfl⟩
      all_goals
        go_wp2
        go_ret2
        exact ⟨by rw [HF.out]; rfl, b3⟩
    have HE2 := hid (HE1.out.trans (if_neg hB))
    clear HE1
    have hbn : bn = false ∨ (bn = true ∧ disc = false) := by
      cases bn
      · exact .inl rfl
      · cases disc
        · exact .inr ⟨rfl, rfl⟩
        · exact absurd ⟨rfl, rfl⟩ hB
    clear hB
    have cf := cf _ b3
    have d1k : ((kd : Int) == 6) = decide (kd = 6) ∧ ((kd : Int) == 7) = decide (kd = 7) := by
      refine ⟨?_, ?_⟩
      all_goals
        rw [Bool.eq_iff_iff, beq_iff_eq, decide_eq_true_eq]
        omega
    by_cases hF : F = 0
    · subst hF
      have HE3 := hid (HE2.out.trans (if_neg (by simp)))
      clear HE2
      rw [errV_zero] at cf
      by_cases hk : kd = 6 ∨ kd = 7
      · have HF := hid (show A = ([], x2) by rw [HE3.out, if_pos hk])
        clear HE3 cO cR co
        rcases hbl with rfl | ⟨rfl, rfl⟩ <;> rcases hbn with rfl | ⟨rfl, rfl⟩ <;> rcases hk with rfl | rfl
        all_goals
          go_wp2_with fail
          refine cf.out.mono ?_
          rintro e w4 ⟨rfl, hb4⟩
          have b4 := b3.trans (hb4.mono b3.size)
          have p1 := (hb4.cell (p := ⟨w.heap.size, 1, none⟩) hp3).trans p1
          have d1 := (hb4.cell (p := ⟨w2.heap.size, 1, none⟩) hlt3).trans d1
          go_wp2_with fail
          go_quiet (fail)
          go_wp2
          go_ret2
          exact ⟨by rw [HF.out]; rfl, ⟨b4.os, b4.tape, b4.output, b4.size, b4.block⟩⟩
      · have HE4 := hid (HE3.out.trans (if_neg hk))
        clear HE3
        have e6 : ((kd : Int) == 6) = false := by rw [d1k.1]; exact decide_eq_false (fun h => hk (.inl h))
        have e7 : ((kd : Int) == 7) = false := by rw [d1k.2]; exact decide_eq_false (fun h => hk (.inr h))
        clear d1k hk
        rcases hbl with rfl | ⟨rfl, rfl⟩ <;> rcases hbn with rfl | ⟨rfl, rfl⟩
        all_goals
          go_wp2_with fail
          refine cf.out.mono ?_
          rintro e w4 ⟨rfl, hb4⟩
          have b4 := b3.trans (hb4.mono b3.size)
          have p0 := (hb4.cell (p := ⟨w.heap.size, 0, none⟩) hp3).trans p0
          have p1 := (hb4.cell (p := ⟨w.heap.size, 1, none⟩) hp3).trans p1
          have d1 := (hb4.cell (p := ⟨w2.heap.size, 1, none⟩) hlt3).trans d1
          have hp4 : w.heap.size < w4.heap.size := Nat.lt_of_lt_of_le hp3 hb4.size
          go_wp2_with fail
          refine (cO _ b4).out.mono ?_
          rintro e w5 ⟨rfl, hb5⟩
          have b5 := b4.trans (hb5.mono b4.size)
          have p0 := (hb5.cell (p := ⟨w.heap.size, 0, none⟩) hp4).trans p0
          have p1 := (hb5.cell (p := ⟨w.heap.size, 1, none⟩) hp4).trans p1
          go_wp2_with fail
          refine (cR _ b5).out.mono ?_
          rintro e w6 ⟨rfl, hb6⟩
          have b6 := b5.trans (hb6.mono b5.size)
          by_cases hr : r2 = 0
          · subst hr
            have HF := hid (show A = (r1, r1) by rw [HE4.out, if_neg (by simp)])
            rw [errV_zero]
            go_wp2
            go_ret2
            exact ⟨by rw [HF.out]; rfl, b6⟩
          · have HF := hid (show A = (rejectL, []) by rw [HE4.out, if_pos hr])
            rw [errV_pos _ _ (show 0 < r2 by omega)]
            clear hr
            go_wp2
            go_ret2
            exact ⟨by rw [HF.out]; rfl, b6⟩
    · have HF := hid (show A = (rejectL, []) by rw [HE2.out, if_pos hF])
      have hFp : 0 < F := by omega
      rw [errV_pos _ _ hFp] at cf
      clear HE2 cO cR co hF d1k
      rcases hbl with rfl | ⟨rfl, rfl⟩ <;> rcases hbn with rfl | ⟨rfl, rfl⟩
      all_goals
        go_wp2_with fail
        refine cf.out.mono ?_
        rintro e w4 ⟨rfl, hb4⟩
        go_wp2
        go_ret2
        exact ⟨by rw [HF.out]; rfl, b3.trans (hb4.mono b3.size)⟩
end
end Go.Proofs.YtbimlijhgeajjaaGreatDoor

namespace Go.Proofs.YtbimlijhgeajjaaGreatDoor
open Go Go.RowKit
set_option linter.unusedVariables false
set_option linter.unusedSectionVars false
set_option linter.unusedSimpArgs false
set_option maxRecDepth 100000
/-- where the first user of a name stands -/
def posU (l : PL) (n : List UInt8) : Nat := l.findIdx fun u => u.1 == n
def NotAhead (l : PL) (n : List UInt8) (k : Nat) : Prop := ∀ j, j < k → (l.getD j ([], [])).1 ≠ n
theorem posU_at (l : PL) (n : List UInt8) (k : Nat) (hk : k < l.length) (h : (l.getD k ([], [])).1 = n) (ha : NotAhead l n k) : posU l n = k := by
  unfold posU
  rw [List.findIdx_eq hk]
  refine ⟨?_, fun j hj => ?_⟩
  · rw [← h]; simp [List.getD, List.getElem?_eq_getElem hk]
  · have := ha j hj
    simp only [List.getD, List.getElem?_eq_getElem (show j < l.length by omega), Option.getD_some] at this
    exact beq_eq_false_iff_ne.2 this
theorem posU_none (l : PL) (n : List UInt8) (ha : NotAhead l n l.length) : posU l n = l.length := by
  unfold posU
  rw [List.findIdx_eq_length]
  intro x hx
  obtain ⟨j, hj, rfl⟩ := List.getElem_of_mem hx
  have := ha j hj
  simp only [List.getD, List.getElem?_eq_getElem hj, Option.getD_some] at this
  exact beq_eq_false_iff_ne.2 this
theorem NotAhead.step {l : PL} {n : List UInt8} {k : Nat} (h : NotAhead l n k) (hk : (l.getD k ([], [])).1 ≠ n) : NotAhead l n (k + 1) := fun j hj => by
  rcases Nat.lt_or_ge j k with h' | h'
  · exact h j h'
  · obtain rfl : j = k := by omega
    exact hk
theorem notAhead_zero (l : PL) (n : List UInt8) : NotAhead l n 0 := fun j hj => absurd hj (by omega)
def userV (u : List UInt8 × List UInt8) : Value := .agg #[.string (bs u.1), .string (bs u.2)]
def RUsr (l : PL) (n : List UInt8) (W : World) (i : Value) (wr : World) : Prop :=
  ∃ k : Nat, k ≤ l.length ∧ i = .int .i64 (k : Nat) ∧ Hid (NotAhead l n k) ∧ Below W.heap.size W wr
/-- the program's answer -/
def foundU (l : PL) (n : List UInt8) : Value := if posU l n < l.length then .tuple #[userV (l.getD (posU l n) ([], [])), .bool true] else .tuple #[userV ([], []), .bool false]
/-- slices.IndexFunc of the law's closure -/
def idxU (l : PL) (n : List UInt8) : Int := if posU l n < l.length then (posU l n : Nat) else -1
end Go.Proofs.YtbimlijhgeajjaaGreatDoor
