/- What is wrong with what a target is told, by the program. -/
import Derived.Test.YtbimlijhgeajjaaGreatDoorNego
import Derived.Test.YtbimlijhgeajjaaGreatDoorSeen
import Derived.Test.YtbimlijhgeajjaaGreatDoorConfIn
set_option linter.unusedSectionVars false
set_option linter.unusedSimpArgs false
set_option linter.unusedVariables false
namespace Go.Proofs.YtbimlijhgeajjaaGreatDoor
open Go Go.RowKit
set_option linter.unusedVariables false
set_option linter.unusedSectionVars false
set_option linter.unusedSimpArgs false
set_option maxRecDepth 100000
def RT1 (ts : List (List UInt8)) (W : World) (b : Nat) (i : Value) (wr : World) : Prop :=
  ∃ (k : Nat) (seen : List (List UInt8)), k ≤ ts.length ∧ i = .int .i64 (k : Nat) ∧ Hid (∀ y, seen.contains y = (ts.take k).contains y) ∧ Hid (NoneAhead (tBad ts) k) ∧ SeenM wr b k seen ∧ b < wr.heap.size ∧ Below b W wr
def RT2 (gs : GL) (W : World) (i : Value) (wr : World) : Prop :=
  ∃ k : Nat, k ≤ gs.length ∧ i = .int .i64 (k : Nat) ∧ Hid (NoneAhead (gBad gs) k) ∧ Below W.heap.size W wr
def RT3 (us : PL) (W : World) (b : Nat) (i : Value) (wr : World) : Prop :=
  ∃ (k : Nat) (seen : List (List UInt8)), k ≤ us.length ∧ i = .int .i64 (k : Nat) ∧ Hid (∀ y, seen.contains y = ((us.take k).map (·.1)).contains y) ∧ Hid (NoneAhead (uBad us) k) ∧ SeenM wr b k seen ∧ b < wr.heap.size ∧ Below b W wr
def ErrP (r : Nat × Int) (w : World) (e : Ending) (w' : World) : Prop := (∃ er, e = .returned er ∧ ErrIs w' er r.1 r.2) ∧ Below w.heap.size w w'
theorem seen_step (l : List (List UInt8)) (seen : List (List UInt8)) (k : Nat) (hk : k < l.length) (hse : ∀ y, seen.contains y = (l.take k).contains y) : ∀ y, ((l.getD k []) :: seen).contains y = (l.take (k + 1)).contains y := fun y => by
  rw [List.take_succ_eq_append_getElem hk, List.contains_append, ← hse, List.contains_cons, List.getD, List.getElem?_eq_getElem hk]
  simp only [List.contains_cons, List.contains_nil, Bool.or_false, Option.getD_some]
  rw [Bool.or_comm]
theorem userNe (n s : List UInt8) (W : World) : (binOp .neq 27 (.agg #[.string (bs n), .string (bs s)]) (.agg #[.string ⟨#[]⟩, .string ⟨#[]⟩])).run Tryz.prog W = .ok (.bool (!(n.length + s.length == 0))) W := by
  simp only [go_sem]
  cases n <;> cases s <;> simp [go_sem]
section
variable (ta ga ua oa : Option Addr) (tc gc uc oc : Nat) (ts : List (List UInt8)) (gs : GL) (us : PL) (sn ss : List UInt8) (lim : Int) (own : PL) (w : World)
  (C : ConfIn w ts gs us sn ss lim own (.slice ta ts.length tc) (.slice ga gs.length gc) (.slice ua us.length uc) (.slice oa own.length oc))
  (hsz : ∀ k, (own.getD k ([], [])).2.length ≤ 100000) (hg : EType w) (hT : AS w) (hev : EV w)
include C hsz hg hT hev
set_option maxHeartbeats 16000000 in
theorem tRight_any : Calls Tryz.prog 36 #[confV (.slice ta ts.length tc) (.slice ga gs.length gc) (.slice ua us.length uc) (.slice oa own.length oc) sn ss lim] w fun e w' => ErrP (rightP ts gs us sn ss lim own) w e w' := by
  obtain ⟨W1, hW1⟩ : ∃ W1, w.alloc (.cells #[.slice ta ts.length tc, .slice ga gs.length gc, .slice ua us.length uc, .string (bs sn), .string (bs ss), .int .i64 lim, .slice oa own.length oc] 30) = W1 := ⟨_, rfl⟩
  have b1 : Below w.heap.size w W1 := by rw [← hW1]; exact (Below.refl _ _).alloc (Nat.le_refl _) _
  have t0 : W1.cell? ⟨w.heap.size, 0, none⟩ = some (.slice ta ts.length tc) := by rw [← hW1]; simp
  have t1 : W1.cell? ⟨w.heap.size, 1, none⟩ = some (.slice ga gs.length gc) := by rw [← hW1]; simp
  have t2 : W1.cell? ⟨w.heap.size, 2, none⟩ = some (.slice ua us.length uc) := by rw [← hW1]; simp
  have t3 : W1.cell? ⟨w.heap.size, 3, none⟩ = some (.string (bs sn)) := by rw [← hW1]; simp
  have t4 : W1.cell? ⟨w.heap.size, 4, none⟩ = some (.string (bs ss)) := by rw [← hW1]; simp
  have t5 : W1.cell? ⟨w.heap.size, 5, none⟩ = some (.int .i64 lim) := by rw [← hW1]; simp
  have t6 : W1.cell? ⟨w.heap.size, 6, none⟩ = some (.slice oa own.length oc) := by rw [← hW1]; simp
  have z1 : W1.heap.size = w.heap.size + 1 := by rw [← hW1]; simp
  have HC := hid C
  have hov := hid (rightP_over ts gs us sn ss lim own)
  have hatT := hid (rightP_t ts gs us sn ss lim own)
  have hatG := hid (rightP_g ts gs us sn ss lim own)
  have hatU := hid (rightP_u ts gs us sn ss lim own)
  have hrest := hid (rightP_rest ts gs us sn ss lim own)
  have tn := C.tn
  have gn := C.gn
  have un := C.un
  unfold confV
  by_cases h8 : 8 < ts.length
  · have d8 : decide ((8 : Int) < (ts.length : Int)) = true := decide_eq_true (by omega)
    have HE := hid (hov.out (.inl h8))
    clear h8 hov hatT hatG hatU hrest C
    go_enter Tryz.func36, Tryz.ntmps36
    go_wp2
    go_ret
    exact ⟨⟨_, rfl, by rw [HE.out]; exact .bare 4 (by omega)⟩, b1⟩
  have d8 : decide ((8 : Int) < (ts.length : Int)) = false := decide_eq_false (by omega)
  by_cases h4 : 4 < gs.length
  · have d4 : decide ((4 : Int) < (gs.length : Int)) = true := decide_eq_true (by omega)
    have HE := hid (hov.out (.inr (.inl h4)))
    clear h8 h4 hov hatT hatG hatU hrest C
    go_enter Tryz.func36, Tryz.ntmps36
    go_wp2
    go_ret
    exact ⟨⟨_, rfl, by rw [HE.out]; exact .bare 4 (by omega)⟩, b1⟩
  have d4 : decide ((4 : Int) < (gs.length : Int)) = false := decide_eq_false (by omega)
  by_cases hu8 : 8 < us.length
  · have du : decide ((8 : Int) < (us.length : Int)) = true := decide_eq_true (by omega)
    have HE := hid (hov.out (.inr (.inr hu8)))
    clear h8 h4 hu8 hov hatT hatG hatU hrest C
    go_enter Tryz.func36, Tryz.ntmps36
    go_wp2
    go_ret
    exact ⟨⟨_, rfl, by rw [HE.out]; exact .bare 4 (by omega)⟩, b1⟩
  have du : decide ((8 : Int) < (us.length : Int)) = false := decide_eq_false (by omega)
  have hno : ¬ overP ts gs us := by unfold overP; omega
  have hatT := hid (hatT.out hno)
  have hatG := hid (hatG.out hno)
  have hatU := hid (hatU.out hno)
  have hrest := hid (hrest.out hno)
  have n8 : ts.length ≤ 8 := by omega
  have nu8 : us.length ≤ 8 := by omega
  clear h8 h4 hu8 hov hno C
  have hmm := @run_makeMap Tryz.prog
  have hM0 := SeenM.made W1
  have bM := b1.alloc b1.size (.map #[] 0)
  have HM := hid hM0
  have hbM := (Below.refl (w.heap.size + 1) W1).alloc (by omega) (.map #[] 0)
  have HbM := hid hbM
  clear hM0 hbM
  go_enter Tryz.func36, Tryz.ntmps36
  go_wp2
  go_loopw [34] (fun i wr => RT1 ts W1 (w.heap.size + 1) i wr) (fun i _ => ts.length - (intOf i).toNat)
  case atStart => exact ⟨0, [], by omega, rfl, hid (fun y => by simp), hid (noneAhead_zero _), by simpa [z1] using HM.out, by simp [z1], HbM.out⟩
  case round =>
    obtain ⟨k, seen, hk, rfl, hse, HA, hM, hbs, hb⟩ := hrel
    have hB := hb.size
    have bw := b1.trans (hb.mono (by omega))
    have T0 := hid ((hb.cell (p := ⟨w.heap.size, 0, none⟩) (by simp)).trans t0)
    have T1 := hid ((hb.cell (p := ⟨w.heap.size, 1, none⟩) (by simp)).trans t1)
    have T2 := hid ((hb.cell (p := ⟨w.heap.size, 2, none⟩) (by simp)).trans t2)
    have T3 := hid ((hb.cell (p := ⟨w.heap.size, 3, none⟩) (by simp)).trans t3)
    have T4 := hid ((hb.cell (p := ⟨w.heap.size, 4, none⟩) (by simp)).trans t4)
    have T5 := hid ((hb.cell (p := ⟨w.heap.size, 5, none⟩) (by simp)).trans t5)
    have T6 := hid ((hb.cell (p := ⟨w.heap.size, 6, none⟩) (by simp)).trans t6)
    have HT1 := HC.out.ht
    by_cases hlt : k < ts.length
    · obtain ⟨b, o, rfl, hbl, hcell⟩ := (HT1.below bw).open_ (by omega)
      have g0 := hcell k hlt
      have hx := HC.out.tl k hlt
      have HSE := hid (seen_step ts seen k hlt hse.out)
      have HGA := hid (fun h0 => HA.out.step (k := k) h0)
      have HAT := hid (fun hb0 => hatT.out k hlt hb0 HA.out)
      have hcon : (ts.take k).contains (ts.getD k []) = seen.contains (ts.getD k []) := (hse.out _).symm
      have HBK := hid (show tBad ts k = if nameOk (ts.getD k []) = true ∧ seen.contains (ts.getD k []) = false then 0 else 5 by unfold tBad; rw [hcon])
      have ct := fun W => hid (text_any (ts.getD k []) W hx)
      clear hcell hcon HT1
      generalize ts.getD k [] = x at *
      have hxm : x.length ≤ 9223372036854775807 := by omega
      cases hn : nameOk x with
      | false =>
        have hbk : tBad ts k = 5 := by rw [HBK.out, hn]; rfl
        have HE := hid (show rightP ts gs us sn ss lim own = (5, (k : Int)) by rw [HAT.out (by rw [hbk]; omega), hbk])
        rw [hn] at ct
        clear hbk HBK HAT HGA hn
        go_wp2_with fail
        refine (ct _).out.mono ?_
        rintro e w2 ⟨rfl, hb2⟩
        have b2 := bw.trans (hb2.mono bw.size)
        go_wp2
        go_ret
        exact ⟨⟨_, rfl, by rw [HE.out]; exact .at_ 5 (by omega) _ w2.heap.size (by simp) (by simp)⟩, b2.alloc b2.size _⟩
      | true =>
        rw [hn] at ct
        cases hcs : seen.contains x with
        | true =>
          have hbk : tBad ts k = 5 := by rw [HBK.out, hn, hcs]; rfl
          have HE := hid (show rightP ts gs us sn ss lim own = (5, (k : Int)) by rw [HAT.out (by rw [hbk]; omega), hbk])
          clear hbk HBK HAT HGA hn
          go_wp2_with fail
          refine (ct _).out.mono ?_
          rintro e w2 ⟨rfl, hb2⟩
          have b2 := bw.trans (hb2.mono bw.size)
          have hlk := SeenM.look (MapAs.below hM hb2) x hxm
          rw [hcs] at hlk
          go_wp2
          go_ret
          exact ⟨⟨_, rfl, by rw [HE.out]; exact .at_ 5 (by omega) _ w2.heap.size (by simp) (by simp)⟩, b2.alloc b2.size _⟩
        | false =>
          have hbk : tBad ts k = 0 := by rw [HBK.out, hn, hcs]; rfl
          have HG2 := hid (HGA.out hbk)
          clear hbk HBK HAT HGA hn
          go_wp2_with fail
          refine (ct _).out.mono ?_
          rintro e w2 ⟨rfl, hb2⟩
          have hM2 := MapAs.below hM hb2
          have hlk := SeenM.look hM2 x hxm
          rw [hcs] at hlk
          obtain ⟨W7, hput, hM7, hg7⟩ := SeenM.put hM2 (by omega) x hxm
          have b2 := hb.trans (hb2.mono (by omega))
          have b7 := b2.grown hg7 (by have := b2.size; omega) (fun j hj => by cases hj; omega)
          go_wp2
          refine ⟨⟨k + 1, x :: seen, by omega, by go_num, hid HSE.out, hid HG2.out, hM7, ?_, b7⟩, by simp [intOf]; omega⟩
          have h1 := hb2.size
          have h2 := hg7.size
          omega
    · obtain rfl : k = ts.length := by omega
      have HNT := hid HA.out
      have hatG := hid (hatG.out HNT.out)
      have hatU := hid (hatU.out HNT.out)
      have hrest := hid (hrest.out HNT.out)
      have t0 := T0.out
      have t1 := T1.out
      have t2 := T2.out
      have t3 := T3.out
      have t4 := T4.out
      have t5 := T5.out
      have t6 := T6.out
      rename World => wo
      have hpw : w.heap.size < wo.heap.size := by omega
      clear hatT HT1 hM HA hse hb hB hbs HM HbM bM T0 T1 T2 T3 T4 T5 T6 b1 hW1 z1 hlt
      go_wp2
      go_loopw [57] (fun i wr => RT2 gs wo i wr) (fun i _ => gs.length - (intOf i).toNat)
      case atStart => exact ⟨0, by omega, rfl, hid (noneAhead_zero _), Below.refl _ _⟩
      case round =>
        obtain ⟨k, hk, rfl, HA, hb⟩ := hrel
        have hB := hb.size
        have bw2 := bw.trans (hb.mono bw.size)
        have hp2 : w.heap.size < wr.heap.size := by omega
        have T0 := hid ((hb.cell (p := ⟨w.heap.size, 0, none⟩) hpw).trans t0)
        have T1 := hid ((hb.cell (p := ⟨w.heap.size, 1, none⟩) hpw).trans t1)
        have T2 := hid ((hb.cell (p := ⟨w.heap.size, 2, none⟩) hpw).trans t2)
        have T3 := hid ((hb.cell (p := ⟨w.heap.size, 3, none⟩) hpw).trans t3)
        have T4 := hid ((hb.cell (p := ⟨w.heap.size, 4, none⟩) hpw).trans t4)
        have T5 := hid ((hb.cell (p := ⟨w.heap.size, 5, none⟩) hpw).trans t5)
        have T6 := hid ((hb.cell (p := ⟨w.heap.size, 6, none⟩) hpw).trans t6)
        have HG1 := hid (HC.out.hg.below bw2)
        by_cases hlt : k < gs.length
        · obtain ⟨_, b, o, c, hveq, hbl, hcell⟩ := HG1.out.open_.resolve_left (by rintro ⟨rfl, _⟩; simp at hlt)
          cases hveq
          obtain ⟨g0, g1⟩ := hcell k hlt
          have hx := HC.out.gl k hlt
          have hz := HC.out.capT k
          have HGA := hid (fun h0 => HA.out.step (k := k) h0)
          have HAT := hid (fun hb0 => hatG.out k hlt hb0 HA.out)
          have ct := fun W => hid (text_any (gs.getD k ([], 0)).1 W hx)
          have HBK := hid (show gBad gs k = if nameOk (gs.getD k ([], 0)).1 = false then 5 else if (gs.getD k ([], 0)).2 < 0 ∨ 65535 < (gs.getD k ([], 0)).2 then 2 else 0 from rfl)
          clear hcell HG1
          generalize gs.getD k ([], 0) = x at *
          obtain ⟨x1, x2⟩ := x
          simp only at *
          obtain ⟨W6, hW6⟩ : ∃ W6, wr.alloc (.cells #[.string (bs x1), .int .i64 x2] 122) = W6 := ⟨_, rfl⟩
          have hA6 : Below wr.heap.size wr W6 := by rw [← hW6]; exact (Below.refl _ _).alloc (Nat.le_refl _) _
          have b6 := bw2.trans (hA6.mono bw2.size)
          have p0 : W6.cell? ⟨wr.heap.size, 0, none⟩ = some (.string (bs x1)) := by rw [← hW6]; simp
          have p1 : W6.cell? ⟨wr.heap.size, 1, none⟩ = some (.int .i64 x2) := by rw [← hW6]; simp
          have hlt6 : wr.heap.size < W6.heap.size := by rw [← hW6]; simp
          cases hn : nameOk x1 with
          | false =>
            have hbk : gBad gs k = 5 := by rw [HBK.out, hn]; rfl
            have HE := hid (show rightP ts gs us sn ss lim own = (5, (k : Int)) by rw [HAT.out (by rw [hbk]; omega), hbk])
            rw [hn] at ct
            clear hbk HBK HAT HGA hn
            go_wp2_with fail
            refine (ct _).out.mono ?_
            rintro e w2 ⟨rfl, hb2⟩
            have b2 := b6.trans (hb2.mono b6.size)
            go_wp2
            go_ret
            exact ⟨⟨_, rfl, by rw [HE.out]; exact .at_ 5 (by omega) _ w2.heap.size (by simp) (by simp)⟩, b2.alloc b2.size _⟩
          | true =>
            rw [hn] at ct
            by_cases hzz : x2 < 0 ∨ 65535 < x2
            · have hbk : gBad gs k = 2 := by rw [HBK.out, hn, if_neg (by simp), if_pos hzz]
              have HE := hid (show rightP ts gs us sn ss lim own = (2, (k : Int)) by rw [HAT.out (by rw [hbk]; omega), hbk])
              clear hbk HBK HAT HGA hn
              by_cases hz0 : x2 < 0
              · have dz : decide (x2 < 0) = true := decide_eq_true hz0
                clear hzz
                go_wp2_with fail
                refine (ct _).out.mono ?_
                rintro e w2 ⟨rfl, hb2⟩
                have b2 := b6.trans (hb2.mono b6.size)
                have p0 := (hb2.cell (p := ⟨wr.heap.size, 0, none⟩) hlt6).trans p0
                have p1 := (hb2.cell (p := ⟨wr.heap.size, 1, none⟩) hlt6).trans p1
                go_wp2
                go_ret
                exact ⟨⟨_, rfl, by rw [HE.out]; exact .at_ 2 (by omega) _ w2.heap.size (by simp) (by simp)⟩, b2.alloc b2.size _⟩
              · have dz : decide (x2 < 0) = false := decide_eq_false hz0
                have dz2 : decide (65535 < x2) = true := decide_eq_true (by omega)
                clear hzz
                go_wp2_with fail
                refine (ct _).out.mono ?_
                rintro e w2 ⟨rfl, hb2⟩
                have b2 := b6.trans (hb2.mono b6.size)
                have p0 := (hb2.cell (p := ⟨wr.heap.size, 0, none⟩) hlt6).trans p0
                have p1 := (hb2.cell (p := ⟨wr.heap.size, 1, none⟩) hlt6).trans p1
                go_wp2
                go_ret
                exact ⟨⟨_, rfl, by rw [HE.out]; exact .at_ 2 (by omega) _ w2.heap.size (by simp) (by simp)⟩, b2.alloc b2.size _⟩
            · have hbk : gBad gs k = 0 := by rw [HBK.out, hn, if_neg (by simp), if_neg hzz]
              have HG2 := hid (HGA.out hbk)
              have dz : decide (x2 < 0) = false := decide_eq_false (by omega)
              have dz2 : decide (65535 < x2) = false := decide_eq_false (by omega)
              clear hbk HBK HAT HGA hn hzz
              go_wp2_with fail
              refine (ct _).out.mono ?_
              rintro e w2 ⟨rfl, hb2⟩
              have p0 := (hb2.cell (p := ⟨wr.heap.size, 0, none⟩) hlt6).trans p0
              have p1 := (hb2.cell (p := ⟨wr.heap.size, 1, none⟩) hlt6).trans p1
              go_wp2
              refine ⟨⟨k + 1, by omega, by go_num, hid HG2.out, (hb.trans (hA6.mono hB)).trans (hb2.mono (by omega))⟩, by simp [intOf]; omega⟩
        · obtain rfl : k = gs.length := by omega
          have HNG := hid HA.out
          have hatU := hid (hatU.out HNG.out)
          have hrest := hid (hrest.out HNG.out)
          clear hatG HG1 HA hb hB bw hlt hpw t0 t1 t2 t3 t4 t5 t6
          rename World => wo2
          have t2 := T2.out
          have hM0 := SeenM.made wo2
          have HM := hid hM0
          have hbM := hid ((Below.refl wo2.heap.size wo2).alloc (Nat.le_refl _) (.map #[] 0))
          have hmb : wo2.heap.size < (wo2.alloc (.map #[] 0)).heap.size := by simp
          have t2m := (hbM.out.cell (p := ⟨w.heap.size, 2, none⟩) hp2).trans t2
          clear hM0 t2
          go_wp2
          go_loopw [89] (fun i wr => RT3 us wo2 wo2.heap.size i wr) (fun i _ => us.length - (intOf i).toNat)
          case atStart => exact ⟨0, [], by omega, rfl, hid (fun y => by simp), hid (noneAhead_zero _), HM.out, hmb, hbM.out⟩
          case round =>
            obtain ⟨k, seen, hk, rfl, hse, HA, hM, hbs, hb⟩ := hrel
            have hB := hb.size
            have bw3 := bw2.trans (hb.mono bw2.size)
            have hp3 : w.heap.size < wr.heap.size := by omega
            have t2 := (hb.cell (p := ⟨w.heap.size, 2, none⟩) hp2).trans T2.out
            have HU1 := hid (HC.out.hu.below bw3)
            by_cases hlt : k < us.length
            · obtain ⟨_, b, o, c, hveq, hbl, hcell⟩ := HU1.out.open_.resolve_left (by rintro ⟨rfl, _⟩; simp at hlt)
              cases hveq
              obtain ⟨g0, g1⟩ := hcell k hlt
              have hx := HC.out.ul k hlt
              have HSE := hid (show ∀ y, ((us.getD k ([], [])).1 :: seen).contains y = ((us.take (k + 1)).map (·.1)).contains y from fun y => by
                rw [List.take_succ_eq_append_getElem hlt, List.map_append, List.contains_append, ← hse.out, List.contains_cons, List.getD, List.getElem?_eq_getElem hlt]
                simp only [List.map_cons, List.map_nil, List.contains_cons, List.contains_nil, Bool.or_false, Option.getD_some]
                rw [Bool.or_comm])
              have HGA := hid (fun h0 => HA.out.step (k := k) h0)
              have HAT := hid (fun hb0 => hatU.out k hlt hb0 HA.out)
              have ct1 := fun W => hid (text_any (us.getD k ([], [])).1 W hx.1)
              have ct2 := fun W => hid (text_any (us.getD k ([], [])).2 W hx.2)
              have hcon : ((us.take k).map (·.1)).contains (us.getD k ([], [])).1 = seen.contains (us.getD k ([], [])).1 := (hse.out _).symm
              have HBK := hid (show uBad us k = if nameOk (us.getD k ([], [])).1 = true ∧ nameOk (us.getD k ([], [])).2 = true ∧ seen.contains (us.getD k ([], [])).1 = false then 0 else 5 by unfold uBad; rw [hcon])
              have hxm : (us.getD k ([], [])).1.length ≤ 9223372036854775807 := by omega
              clear hcell HU1 hcon hx
              generalize us.getD k ([], []) = x at *
              obtain ⟨x1, x2⟩ := x
              simp only at *
              obtain ⟨W6, hW6⟩ : ∃ W6, wr.alloc (.cells #[.string (bs x1), .string (bs x2)] 27) = W6 := ⟨_, rfl⟩
              have hA6 : Below wr.heap.size wr W6 := by rw [← hW6]; exact (Below.refl _ _).alloc (Nat.le_refl _) _
              have b6 := bw3.trans (hA6.mono bw3.size)
              have p0 : W6.cell? ⟨wr.heap.size, 0, none⟩ = some (.string (bs x1)) := by rw [← hW6]; simp
              have p1 : W6.cell? ⟨wr.heap.size, 1, none⟩ = some (.string (bs x2)) := by rw [← hW6]; simp
              have hlt6 : wr.heap.size < W6.heap.size := by rw [← hW6]; simp
              have hM6 := MapAs.below hM hA6
              cases hn1 : nameOk x1 with
              | false =>
                have hbk : uBad us k = 5 := by rw [HBK.out, hn1]; rfl
                have HE := hid (show rightP ts gs us sn ss lim own = (5, (k : Int)) by rw [HAT.out (by rw [hbk]; omega), hbk])
                rw [hn1] at ct1
                clear hbk HBK HAT HGA hn1
                go_wp2_with fail
                refine (ct1 _).out.mono ?_
                rintro e w2 ⟨rfl, hb2⟩
                have b2 := b6.trans (hb2.mono b6.size)
                go_wp2
                go_ret
                exact ⟨⟨_, rfl, by rw [HE.out]; exact .at_ 5 (by omega) _ w2.heap.size (by simp) (by simp)⟩, b2.alloc b2.size _⟩
              | true =>
                rw [hn1] at ct1
                cases hn2 : nameOk x2 with
                | false =>
                  have hbk : uBad us k = 5 := by rw [HBK.out, hn1, hn2]; rfl
                  have HE := hid (show rightP ts gs us sn ss lim own = (5, (k : Int)) by rw [HAT.out (by rw [hbk]; omega), hbk])
                  rw [hn2] at ct2
                  clear hbk HBK HAT HGA hn1 hn2
                  go_wp2_with fail
                  refine (ct1 _).out.mono ?_
                  rintro e w2 ⟨rfl, hb2⟩
                  have b2 := b6.trans (hb2.mono b6.size)
                  have p0 := (hb2.cell (p := ⟨wr.heap.size, 0, none⟩) hlt6).trans p0
                  have p1 := (hb2.cell (p := ⟨wr.heap.size, 1, none⟩) hlt6).trans p1
                  go_wp2_with fail
                  refine (ct2 _).out.mono ?_
                  rintro e w3 ⟨rfl, hb3⟩
                  have b3 := b2.trans (hb3.mono b2.size)
                  go_wp2
                  go_ret
                  exact ⟨⟨_, rfl, by rw [HE.out]; exact .at_ 5 (by omega) _ w3.heap.size (by simp) (by simp)⟩, b3.alloc b3.size _⟩
                | true =>
                  rw [hn2] at ct2
                  cases hcs : seen.contains x1 with
                  | true =>
                    have hbk : uBad us k = 5 := by rw [HBK.out, hn1, hn2, hcs]; rfl
                    have HE := hid (show rightP ts gs us sn ss lim own = (5, (k : Int)) by rw [HAT.out (by rw [hbk]; omega), hbk])
                    clear hbk HBK HAT HGA hn1 hn2
                    go_wp2_with fail
                    refine (ct1 _).out.mono ?_
                    rintro e w2 ⟨rfl, hb2⟩
                    have b2 := b6.trans (hb2.mono b6.size)
                    have p0 := (hb2.cell (p := ⟨wr.heap.size, 0, none⟩) hlt6).trans p0
                    have p1 := (hb2.cell (p := ⟨wr.heap.size, 1, none⟩) hlt6).trans p1
                    have hlt7 : wr.heap.size < w2.heap.size := Nat.lt_of_lt_of_le hlt6 hb2.size
                    have hM2 := MapAs.below hM6 hb2
                    go_wp2_with fail
                    refine (ct2 _).out.mono ?_
                    rintro e w3 ⟨rfl, hb3⟩
                    have b3 := b2.trans (hb3.mono b2.size)
                    have p0 := (hb3.cell (p := ⟨wr.heap.size, 0, none⟩) hlt7).trans p0
                    have p1 := (hb3.cell (p := ⟨wr.heap.size, 1, none⟩) hlt7).trans p1
                    have hlk := SeenM.look (MapAs.below hM2 hb3) x1 hxm
                    rw [hcs] at hlk
                    go_wp2
                    go_ret
                    exact ⟨⟨_, rfl, by rw [HE.out]; exact .at_ 5 (by omega) _ w3.heap.size (by simp) (by simp)⟩, b3.alloc b3.size _⟩
                  | false =>
                    have hbk : uBad us k = 0 := by rw [HBK.out, hn1, hn2, hcs]; rfl
                    have HG2 := hid (HGA.out hbk)
                    clear hbk HBK HAT HGA hn1 hn2
                    go_wp2_with fail
                    refine (ct1 _).out.mono ?_
                    rintro e w2 ⟨rfl, hb2⟩
                    have p0 := (hb2.cell (p := ⟨wr.heap.size, 0, none⟩) hlt6).trans p0
                    have p1 := (hb2.cell (p := ⟨wr.heap.size, 1, none⟩) hlt6).trans p1
                    have hlt7 : wr.heap.size < w2.heap.size := Nat.lt_of_lt_of_le hlt6 hb2.size
                    have hM2 := MapAs.below hM6 hb2
                    go_wp2_with fail
                    refine (ct2 _).out.mono ?_
                    rintro e w3 ⟨rfl, hb3⟩
                    have p0 := (hb3.cell (p := ⟨wr.heap.size, 0, none⟩) hlt7).trans p0
                    have p1 := (hb3.cell (p := ⟨wr.heap.size, 1, none⟩) hlt7).trans p1
                    have hM3 := MapAs.below hM2 hb3
                    have hlk := SeenM.look hM3 x1 hxm
                    rw [hcs] at hlk
                    obtain ⟨W7, hput, hM7, hg7⟩ := SeenM.put hM3 (by omega) x1 hxm
                    have hz2 := hb2.size
                    have hz3 := hb3.size
                    have b3 := ((hb.trans (hA6.mono hB)).trans (hb2.mono (by omega))).trans (hb3.mono (by omega))
                    have b7 := b3.grown hg7 (by have := b3.size; omega) (fun j hj => by cases hj; omega)
                    go_wp2
                    refine ⟨⟨k + 1, x1 :: seen, by omega, by go_num, hid HSE.out, hid HG2.out, hM7, ?_, b7⟩, by simp [intOf]; omega⟩
                    have h2 := hg7.size
                    omega
            · obtain rfl : k = us.length := by omega
              have HNU := hid HA.out
              have hrest := hid (hrest.out HNU.out)
              have t3 := (hb.cell (p := ⟨w.heap.size, 3, none⟩) hp2).trans T3.out
              have t4 := (hb.cell (p := ⟨w.heap.size, 4, none⟩) hp2).trans T4.out
              have t5 := (hb.cell (p := ⟨w.heap.size, 5, none⟩) hp2).trans T5.out
              have t6 := (hb.cell (p := ⟨w.heap.size, 6, none⟩) hp2).trans T6.out
              have hsn := HC.out.snl
              have hss := HC.out.ssl
              have cnew := fun W (hb : Below w.heap.size w W) => new_any _ own W (HC.out.ho.below hb) HC.out.pbd HC.out.on HC.out.capO hsz (hg.below hb) (hT.below hb (Nat.le_refl _)) (hev.below hb)
              unfold NegoPost at cnew
              have ct1 := fun W => hid (text_any sn W hsn)
              have ct2 := fun W => hid (text_any ss W hss)
              have Cnew := hid cnew
              clear cnew hatU HU1 HA hM hse hbs hb hB bw2 hlt hbM t2m HM hmb T0 T1 T2 T3 T4 T5 T6 t2 HNT HNG HNU
              have cnew := fun W hb => Cnew.out W hb
              by_cases he0 : sn.length + ss.length = 0
              · have hs0 : sn = [] := List.length_eq_zero_iff.1 (by omega)
                have hs1 : ss = [] := List.length_eq_zero_iff.1 (by omega)
                have HR := hid (show rightP ts gs us sn ss lim own = if lim < 512 ∨ 100000 < lim then (2, -1) else negoP own by rw [hrest.out, if_neg (by unfold selfBad; rw [beq_iff_eq.2 he0]; simp)])
                have hneq := fun W => userNe sn ss W
                rw [beq_iff_eq.2 he0] at hneq
                clear hrest he0 hs0 hs1 ct1 ct2
                by_cases hl1 : lim < 512
                · have dl1 : decide (lim < 512) = true := decide_eq_true hl1
                  have HE := hid (show rightP ts gs us sn ss lim own = (2, -1) by rw [HR.out, if_pos (.inl hl1)])
                  clear HR hl1
                  go_wp2
                  go_ret
                  exact ⟨⟨_, rfl, by rw [HE.out]; exact .bare 2 (by omega)⟩, bw3⟩
                have dl1 : decide (lim < 512) = false := decide_eq_false hl1
                by_cases hl2 : 100000 < lim
                · have dl2 : decide (100000 < lim) = true := decide_eq_true hl2
                  have HE := hid (show rightP ts gs us sn ss lim own = (2, -1) by rw [HR.out, if_pos (.inr hl2)])
                  clear HR hl1 hl2
                  go_wp2
                  go_ret
                  exact ⟨⟨_, rfl, by rw [HE.out]; exact .bare 2 (by omega)⟩, bw3⟩
                have dl2 : decide (100000 < lim) = false := decide_eq_false hl2
                have HE := hid (show rightP ts gs us sn ss lim own = negoP own by rw [HR.out, if_neg (by omega)])
                have cn := hid (cnew _ (bw3))
                clear HR hl1 hl2
                go_wp2_with fail
                refine cn.out.mono ?_
                rintro e w9 ⟨⟨p, er, rfl, her, _, _⟩, hb9⟩
                go_wp2
                go_ret
                exact ⟨⟨_, rfl, by rw [HE.out]; exact her⟩, (bw3).trans (hb9.mono (bw3).size)⟩
              · have hbe : (sn.length + ss.length == 0) = false := beq_eq_false_iff_ne.2 he0
                have hneq := fun W => userNe sn ss W
                rw [hbe] at hneq
                have HSB := hid (show selfBad sn ss = !(nameOk sn && nameOk ss) by unfold selfBad; rw [hbe]; rfl)
                clear hbe he0
                cases hn1 : nameOk sn with
                | false =>
                  have HE := hid (show rightP ts gs us sn ss lim own = (3, -1) by rw [hrest.out, HSB.out, hn1, if_pos (by rfl)])
                  rw [hn1] at ct1
                  clear hrest HSB hn1 ct2
                  go_wp2_with fail
                  refine (ct1 _).out.mono ?_
                  rintro e w2 ⟨rfl, hb2⟩
                  have b2 := bw3.trans (hb2.mono bw3.size)
                  go_wp2
                  go_ret
                  exact ⟨⟨_, rfl, by rw [HE.out]; exact .bare 3 (by omega)⟩, b2⟩
                | true =>
                  rw [hn1] at ct1
                  cases hn2 : nameOk ss with
                  | false =>
                    have HE := hid (show rightP ts gs us sn ss lim own = (3, -1) by rw [hrest.out, HSB.out, hn1, hn2, if_pos (by rfl)])
                    rw [hn2] at ct2
                    clear hrest HSB hn1 hn2
                    go_wp2_with fail
                    refine (ct1 _).out.mono ?_
                    rintro e w2 ⟨rfl, hb2⟩
                    have b2 := bw3.trans (hb2.mono bw3.size)
                    have t4 := (hb2.cell (p := ⟨w.heap.size, 4, none⟩) hp3).trans t4
                    go_wp2_with fail
                    refine (ct2 _).out.mono ?_
                    rintro e w3 ⟨rfl, hb3⟩
                    have b3 := b2.trans (hb3.mono b2.size)
                    go_wp2
                    go_ret
                    exact ⟨⟨_, rfl, by rw [HE.out]; exact .bare 3 (by omega)⟩, b3⟩
                  | true =>
                    have HR := hid (show rightP ts gs us sn ss lim own = if lim < 512 ∨ 100000 < lim then (2, -1) else negoP own by rw [hrest.out, HSB.out, hn1, hn2, if_neg (by simp)])
                    rw [hn2] at ct2
                    clear hrest HSB hn1 hn2
                    go_wp2_with fail
                    refine (ct1 _).out.mono ?_
                    rintro e w2 ⟨rfl, hb2⟩
                    have b2 := bw3.trans (hb2.mono bw3.size)
                    have hp4 : w.heap.size < w2.heap.size := Nat.lt_of_lt_of_le hp3 hb2.size
                    have t4 := (hb2.cell (p := ⟨w.heap.size, 4, none⟩) hp3).trans t4
                    have t5 := (hb2.cell (p := ⟨w.heap.size, 5, none⟩) hp3).trans t5
                    have t6 := (hb2.cell (p := ⟨w.heap.size, 6, none⟩) hp3).trans t6
                    go_wp2_with fail
                    refine (ct2 _).out.mono ?_
                    rintro e w3 ⟨rfl, hb3⟩
                    have b3 := b2.trans (hb3.mono b2.size)
                    have t5 := (hb3.cell (p := ⟨w.heap.size, 5, none⟩) hp4).trans t5
                    have t6 := (hb3.cell (p := ⟨w.heap.size, 6, none⟩) hp4).trans t6
                    by_cases hl1 : lim < 512
                    · have dl1 : decide (lim < 512) = true := decide_eq_true hl1
                      have HE := hid (show rightP ts gs us sn ss lim own = (2, -1) by rw [HR.out, if_pos (.inl hl1)])
                      clear HR hl1
                      go_wp2
                      go_ret
                      exact ⟨⟨_, rfl, by rw [HE.out]; exact .bare 2 (by omega)⟩, b3⟩
                    have dl1 : decide (lim < 512) = false := decide_eq_false hl1
                    by_cases hl2 : 100000 < lim
                    · have dl2 : decide (100000 < lim) = true := decide_eq_true hl2
                      have HE := hid (show rightP ts gs us sn ss lim own = (2, -1) by rw [HR.out, if_pos (.inr hl2)])
                      clear HR hl1 hl2
                      go_wp2
                      go_ret
                      exact ⟨⟨_, rfl, by rw [HE.out]; exact .bare 2 (by omega)⟩, b3⟩
                    have dl2 : decide (100000 < lim) = false := decide_eq_false hl2
                    have HE := hid (show rightP ts gs us sn ss lim own = negoP own by rw [HR.out, if_neg (by omega)])
                    have cn := hid (cnew _ (b3))
                    clear HR hl1 hl2
                    go_wp2_with fail
                    refine cn.out.mono ?_
                    rintro e w9 ⟨⟨p, er, rfl, her, _, _⟩, hb9⟩
                    go_wp2
                    go_ret
                    exact ⟨⟨_, rfl, by rw [HE.out]; exact her⟩, (b3).trans (hb9.mono (b3).size)⟩
end
end Go.Proofs.YtbimlijhgeajjaaGreatDoor
