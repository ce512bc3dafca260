/- Whether what a target is told is more than can be held: exact, where nothing goes round. -/
import Derived.Test.YtfeenkofnbefaaaGreatDoorConfIn
set_option linter.unusedSectionVars false
set_option linter.unusedSimpArgs false
set_option linter.unusedVariables false
namespace Go.Proofs.YtfeenkofnbefaaaGreatDoor
open Go Go.RowKit
set_option linter.unusedVariables false
set_option linter.unusedSectionVars false
set_option linter.unusedSimpArgs false
set_option maxRecDepth 100000
def szQ (x : List UInt8 × List UInt8) : Nat := x.1.length + x.2.length
theorem totS_szP (l : PL) : totS szP l = l.length + totS szQ l := by
  induction l with
  | nil => rfl
  | cons x l ih => simp only [totS, List.map_cons, List.sum_cons, List.length_cons, szP, szQ] at ih ⊢; omega
def RThk (l : PL) (w : World) (sum i : Value) (wr : World) : Prop :=
  ∃ (k s : Nat), k ≤ l.length ∧ i = .int .i64 (k : Nat) ∧ sum = .int .i64 (s : Nat) ∧ s ≤ 1048576 ∧ Hid (s = l.length + totS szQ (l.take k)) ∧ Below w.heap.size w wr
theorem thickB_any (v : Value) (l : PL) (w : World) (h : PSl w v l) (hb : totS szP l ≤ 1048576) :
    Calls Tryz.prog 26 #[v] w fun e w' => e = .returned (.bool (decide (4000 < totS szP l))) ∧ Below w.heap.size w w' := by
  have hn : l.length ≤ 1048576 := by rw [totS_szP] at hb; omega
  have hF := h
  obtain ⟨sa, sc, rfl, _, _⟩ := hF
  generalize hTT : totS szP l = T at *
  have HTT := hid hTT
  clear hTT
  go_enter Tryz.func26, Tryz.ntmps26
  go_wp2
  go_loopw [3, 10] (fun sum i wr => RThk l w sum i wr) (fun _ i _ => l.length - (intOf i).toNat)
  case atStart => exact ⟨0, l.length, by omega, rfl, rfl, hn, hid (by simp [totS]), Below.refl _ _⟩
  case round =>
    obtain ⟨k, s, hk, rfl, rfl, hs, HS, hbw⟩ := hrel
    have hB := hbw.size
    by_cases hlt : k < l.length
    · obtain ⟨_, b, o, c, hveq, hbl, hcell⟩ := (h.below hbw).open_.resolve_left (by rintro ⟨rfl, _⟩; simp at hlt)
      cases hveq
      obtain ⟨g0, g1⟩ := hcell k hlt
      have h1 := totS_step szQ l k ([], []) hlt
      have h2 := totS_take szQ l (k + 1)
      have hb2 : l.length + totS szQ l ≤ 1048576 := by rw [← totS_szP, HTT.out]; exact hb
      have HS2 := hid (show s + szQ (l.getD k ([], [])) = l.length + totS szQ (l.take (k + 1)) by rw [HS.out, h1]; omega)
      have h3 : s + szQ (l.getD k ([], [])) ≤ 1048576 := by rw [HS2.out]; omega
      clear hcell h1 h2 hb2 h HS
      generalize l.getD k ([], []) = x at *
      obtain ⟨x1, x2⟩ := x
      unfold szQ at h3 HS2
      simp only at *
      go_wp2
      refine ⟨⟨k + 1, s + (x1.length + x2.length), by omega, by go_num, by go_num, by omega, hid HS2.out, hbw.alloc hB _⟩, by simp [intOf]; omega⟩
    · obtain rfl : k = l.length := by omega
      obtain rfl : s = T := by rw [← HTT.out, totS_szP, HS.out, List.take_length]
      clear HS h hb HTT
      by_cases h4 : 4000 < s
      · have d1 : decide ((4000 : Int) < (s : Int)) = true := decide_eq_true (by omega)
        have HD := hid (decide_eq_true h4)
        clear h4
        go_wp2
        go_ret
        exact ⟨by rw [HD.out]; rfl, hbw⟩
      · have d1 : decide ((4000 : Int) < (s : Int)) = false := decide_eq_false (by omega)
        have HD := hid (decide_eq_false h4)
        clear h4
        go_wp2
        go_ret
        exact ⟨by rw [HD.out]; rfl, hbw⟩
/-- how much a target is told, but of its keys -/
def confT (ts : List (List UInt8)) (gs : GL) (us : PL) (sn ss : List UInt8) : Nat := totS szT ts + totS szG gs + totS szP us + sn.length + ss.length
def crowdB (ts : List (List UInt8)) (gs : GL) (us : PL) (sn ss : List UInt8) (own : PL) : Bool := decide (2500 < confT ts gs us sn ss) || decide (4000 < totS szP own)
def RCrw {α : Type} (f : α → Nat) (l : List α) (s0 B : Nat) (W : World) (sum i : Value) (wr : World) : Prop :=
  ∃ (k s : Nat), k ≤ l.length ∧ i = .int .i64 (k : Nat) ∧ sum = .int .i64 (s : Nat) ∧ s ≤ 1048576 ∧ Hid (s = s0 + totS f (l.take k)) ∧ Below B W wr
section
variable (ta ga ua oa : Option Addr) (tc gc uc oc : Nat) (ts : List (List UInt8)) (gs : GL) (us : PL) (sn ss : List UInt8) (lim : Int) (own : PL) (w : World)
  (C : ConfIn w ts gs us sn ss lim own (.slice ta ts.length tc) (.slice ga gs.length gc) (.slice ua us.length uc) (.slice oa own.length oc))
include C
set_option maxHeartbeats 8000000 in
theorem crowded_any : Calls Tryz.prog 17 #[confV (.slice ta ts.length tc) (.slice ga gs.length gc) (.slice ua us.length uc) (.slice oa own.length oc) sn ss lim] w fun e w' => e = .returned (.bool (crowdB ts gs us sn ss own)) ∧ Below w.heap.size w w' := by
  obtain ⟨W1, hW1⟩ : ∃ W1, w.alloc (.cells #[.slice ta ts.length tc, .slice ga gs.length gc, .slice ua us.length uc, .string (bs sn), .string (bs ss), .int .i64 lim, .slice oa own.length oc] 63) = W1 := ⟨_, rfl⟩
  have b1 : Below w.heap.size w W1 := by rw [← hW1]; exact (Below.refl _ _).alloc (Nat.le_refl _) _
  have t0 : W1.cell? ⟨w.heap.size, 0, none⟩ = some (.slice ta ts.length tc) := by rw [← hW1]; simp
  have t1 : W1.cell? ⟨w.heap.size, 1, none⟩ = some (.slice ga gs.length gc) := by rw [← hW1]; simp
  have t2 : W1.cell? ⟨w.heap.size, 2, none⟩ = some (.slice ua us.length uc) := by rw [← hW1]; simp
  have t3 : W1.cell? ⟨w.heap.size, 3, none⟩ = some (.string (bs sn)) := by rw [← hW1]; simp
  have t4 : W1.cell? ⟨w.heap.size, 4, none⟩ = some (.string (bs ss)) := by rw [← hW1]; simp
  have t6 : W1.cell? ⟨w.heap.size, 6, none⟩ = some (.slice oa own.length oc) := by rw [← hW1]; simp
  have z1 : W1.heap.size = w.heap.size + 1 := by rw [← hW1]; simp
  have HC := hid C
  have hbt := C.bound
  have tn := C.tn
  have gn := C.gn
  have un := C.un
  have ct := fun W (hb : Below w.heap.size w W) => hid (thickB_any _ own W (C.ho.below hb) (by omega))
  have hpw : w.heap.size < W1.heap.size := by omega
  have hsl := totS_take szT ts
  unfold confV crowdB confT
  generalize hTT : totS szT ts = TT at *
  generalize hTG : totS szG gs = TG at *
  generalize hTU : totS szP us = TU at *
  generalize totS szP own = TO at *
  have HTT := hid hTT
  have HTG := hid hTG
  have HTU := hid hTU
  clear C hTT hTG hTU hsl
  go_enter Tryz.func17, Tryz.ntmps17
  go_wp2
  go_loopw [3, 13] (fun sum i wr => RCrw szT ts 0 W1.heap.size W1 sum i wr) (fun _ i _ => ts.length - (intOf i).toNat)
  case atStart => exact ⟨0, 0, by omega, rfl, rfl, by omega, hid (by simp [totS]), Below.refl _ _⟩
  case round =>
    obtain ⟨k, s, hk, rfl, rfl, hs, HS, hb⟩ := hrel
    have hB := hb.size
    have bw := b1.trans (hb.mono b1.size)
    by_cases hlt : k < ts.length
    · obtain ⟨b, o, rfl, hbl, hcell⟩ := (HC.out.ht.below bw).open_ (by omega)
      have g0 := hcell k hlt
      have h1 := totS_step szT ts k [] hlt
      have h2 := totS_take szT ts (k + 1)
      rw [HTT.out] at h2
      have HS2 := hid (show s + szT (ts.getD k []) = 0 + totS szT (ts.take (k + 1)) by rw [HS.out, h1]; omega)
      have h3 : s + szT (ts.getD k []) ≤ 1048576 := by rw [HS2.out]; omega
      clear hcell h1 h2 HS
      generalize ts.getD k [] = x at *
      unfold szT at h3 HS2
      go_wp2
      refine ⟨⟨k + 1, s + (1 + x.length), by omega, by go_num, by go_num, by omega, hid HS2.out, hb⟩, by simp [intOf]; omega⟩
    · obtain rfl : k = ts.length := by omega
      have hs0 : s = TT := by rw [HS.out, List.take_length, HTT.out]; omega
      have T1 := hid ((hb.cell (p := ⟨w.heap.size, 1, none⟩) hpw).trans t1)
      have T2 := hid ((hb.cell (p := ⟨w.heap.size, 2, none⟩) hpw).trans t2)
      have T3 := hid ((hb.cell (p := ⟨w.heap.size, 3, none⟩) hpw).trans t3)
      have T4 := hid ((hb.cell (p := ⟨w.heap.size, 4, none⟩) hpw).trans t4)
      have T6 := hid ((hb.cell (p := ⟨w.heap.size, 6, none⟩) hpw).trans t6)
      have hp1 : w.heap.size < wr.heap.size := by omega
      subst hs0
      clear HS hb hB t0 t1 t2 t3 t4 t6 hlt
      rename World => wo
      have t1 := T1.out
      go_wp2
      go_loopw [3, 26] (fun sum i wr => RCrw szG gs s wo.heap.size wo sum i wr) (fun _ i _ => gs.length - (intOf i).toNat)
      case atStart => exact ⟨0, s, by omega, rfl, rfl, by omega, hid (by simp [totS]), Below.refl _ _⟩
      case round =>
        obtain ⟨k, q, hk, rfl, rfl, hq, HS, hb⟩ := hrel
        have hB := hb.size
        have bw2 := bw.trans (hb.mono bw.size)
        by_cases hlt : k < gs.length
        · obtain ⟨_, b, o, c, hveq, hbl, hcell⟩ := (HC.out.hg.below bw2).open_.resolve_left (by rintro ⟨rfl, _⟩; simp at hlt)
          cases hveq
          obtain ⟨g0, g1⟩ := hcell k hlt
          have h1 := totS_step szG gs k ([], 0) hlt
          have h2 := totS_take szG gs (k + 1)
          rw [HTG.out] at h2
          have HS2 := hid (show q + szG (gs.getD k ([], 0)) = s + totS szG (gs.take (k + 1)) by rw [HS.out, h1]; omega)
          have h3 : q + szG (gs.getD k ([], 0)) ≤ 1048576 := by rw [HS2.out]; omega
          clear hcell h1 h2 HS
          generalize gs.getD k ([], 0) = x at *
          obtain ⟨x1, x2⟩ := x
          unfold szG at h3 HS2
          simp only at *
          go_wp2
          refine ⟨⟨k + 1, q + (1 + x1.length), by omega, by go_num, by go_num, by omega, hid HS2.out, hb.alloc hB _⟩, by simp [intOf]; omega⟩
        · obtain rfl : k = gs.length := by omega
          have hs0 : q = s + TG := by rw [HS.out, List.take_length, HTG.out]
          have T2 := hid ((hb.cell (p := ⟨w.heap.size, 2, none⟩) hp1).trans T2.out)
          have T3 := hid ((hb.cell (p := ⟨w.heap.size, 3, none⟩) hp1).trans T3.out)
          have T4 := hid ((hb.cell (p := ⟨w.heap.size, 4, none⟩) hp1).trans T4.out)
          have T6 := hid ((hb.cell (p := ⟨w.heap.size, 6, none⟩) hp1).trans T6.out)
          have hp2 : w.heap.size < wr.heap.size := by omega
          have HQ := hid hs0
          clear HS hb hB t1 hlt hs0
          rename World => wo2
          have t2 := T2.out
          go_wp2
          go_loopw [3, 40] (fun sum i wr => RCrw szP us q wo2.heap.size wo2 sum i wr) (fun _ i _ => us.length - (intOf i).toNat)
          case atStart => exact ⟨0, q, by omega, rfl, rfl, by omega, hid (by simp [totS]), Below.refl _ _⟩
          case round =>
            obtain ⟨k, r, hk, rfl, rfl, hr, HS, hb⟩ := hrel
            have hB := hb.size
            have bw3 := bw2.trans (hb.mono bw2.size)
            by_cases hlt : k < us.length
            · obtain ⟨_, b, o, c, hveq, hbl, hcell⟩ := (HC.out.hu.below bw3).open_.resolve_left (by rintro ⟨rfl, _⟩; simp at hlt)
              cases hveq
              obtain ⟨g0, g1⟩ := hcell k hlt
              have h1 := totS_step szP us k ([], []) hlt
              have h2 := totS_take szP us (k + 1)
              rw [HTU.out] at h2
              have HS2 := hid (show r + szP (us.getD k ([], [])) = q + totS szP (us.take (k + 1)) by rw [HS.out, h1]; omega)
              have h3 : r + szP (us.getD k ([], [])) ≤ 1048576 := by rw [HS2.out, HQ.out]; omega
              clear hcell h1 h2 HS
              generalize us.getD k ([], []) = x at *
              obtain ⟨x1, x2⟩ := x
              unfold szP at h3 HS2
              simp only at *
              go_wp2
              refine ⟨⟨k + 1, r + (1 + x1.length + x2.length), by omega, by go_num, by go_num, by omega, hid HS2.out, hb.alloc hB _⟩, by simp [intOf]; omega⟩
            · obtain rfl : k = us.length := by omega
              have hs0 : r = s + TG + TU := by rw [HS.out, List.take_length, HTU.out, HQ.out]
              have t3 := (hb.cell (p := ⟨w.heap.size, 3, none⟩) hp2).trans T3.out
              have t4 := (hb.cell (p := ⟨w.heap.size, 4, none⟩) hp2).trans T4.out
              have t6 := (hb.cell (p := ⟨w.heap.size, 6, none⟩) hp2).trans T6.out
              have hrb : r + sn.length + ss.length ≤ 1048576 := by omega
              clear HS hb hB t2 hlt HQ T2 T3 T4 T6 HTT HTG HTU
              by_cases hd : 2500 < r + sn.length + ss.length
              · have d1 : decide ((2500 : Int) < (r : Int) + (sn.length : Int) + (ss.length : Int)) = true := decide_eq_true (by omega)
                have HD := hid (decide_eq_true (show 2500 < s + TG + TU + sn.length + ss.length by omega))
                clear hd hs0
                go_wp2
                go_ret
                exact ⟨by rw [HD.out, Bool.true_or]; rfl, bw3⟩
              · have d1 : decide ((2500 : Int) < (r : Int) + (sn.length : Int) + (ss.length : Int)) = false := decide_eq_false (by omega)
                have HD := hid (decide_eq_false (show ¬ 2500 < s + TG + TU + sn.length + ss.length by omega))
                have ct := ct _ bw3
                generalize hX : decide (4000 < TO) = X at *
                have HX := hid hX
                clear hd hX hs0
                go_wp2_with fail
                refine ct.out.mono ?_
                rintro e w9 ⟨rfl, hb9⟩
                go_wp2
                go_ret
                exact ⟨by rw [HD.out, Bool.false_or, HX.out]; rfl, bw3.trans (hb9.mono bw3.size)⟩
end
end Go.Proofs.YtfeenkofnbefaaaGreatDoor
