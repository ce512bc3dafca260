/- How many bytes a PDU has: by the program and by the document. -/
import Derived.Test.YtfeenkofnbefaaaGreatDoorFeedSeq
import Derived.Test.YtfeenkofnbefaaaGreatDoorHeadRd
import Derived.Test.YtfeenkofnbefaaaGreatDoorHeadRdR
import Derived.Test.YtfeenkofnbefaaaGreatDoorPduWrR
import Derived.Test.YtfeenkofnbefaaaGreatDoorAhs
set_option linter.unusedSectionVars false
set_option linter.unusedSimpArgs false
set_option linter.unusedVariables false
namespace Go.Proofs.YtfeenkofnbefaaaGreatDoor
open Go Go.RowKit
set_option linter.unusedVariables false
set_option linter.unusedSectionVars false
set_option linter.unusedSimpArgs false
set_option maxRecDepth 100000
section
variable (s : List UInt8) (mode : Int) (w : World) (hs : s.length ≤ 1000000) (hm0 : -9223372036854775808 ≤ mode) (hm1 : mode ≤ 9223372036854775807)
include hs hm0 hm1
set_option maxHeartbeats 4000000 in
theorem size_any : Calls Tryz.prog 50 #[.string (bs s), .int .i64 mode] w fun e w' => e = .returned (.tuple #[.int .i64 ((sizeP s mode).1 : Nat), errV 31 (sizeP s mode).2]) ∧ Below w.heap.size w w' := by
  have cm := fun w1 => hid (modes_any mode w1 hm0 hm1)
  have hb0 := Below.refl w.heap.size w
  by_cases hm : mode < 0 ∨ 3 < mode
  · have HR := hid (show sizeP s mode = (0, 1) by unfold sizeP; rw [if_pos hm])
    have hmm : (decide (0 ≤ mode) && decide (mode ≤ 3)) = false := by
      rcases hm with h | h
      · rw [decide_eq_false (by omega)]; rfl
      · rw [decide_eq_false (p := mode ≤ 3) (by omega), Bool.and_false]
    rw [hmm] at cm
    go_enter Tryz.func50, Tryz.ntmps50
    go_wp2_with fail
    refine (cm _).out.mono ?_
    rintro e _ ⟨rfl, rfl⟩
    go_wp2
    go_ret2
    exact ⟨by rw [HR.out]; rfl, hb0⟩
  · have hmm : (decide (0 ≤ mode) && decide (mode ≤ 3)) = true := by
      rw [decide_eq_true (by omega), decide_eq_true (by omega)]; rfl
    rw [hmm] at cm
    obtain ⟨hm1', hm2'⟩ := mode_bits mode (by omega) (by omega)
    by_cases hl : s.length < 48
    · have HR := hid (show sizeP s mode = (0, 7) by unfold sizeP; rw [if_neg hm, if_pos hl])
      have hd : decide ((s.length : Int) < 48) = true := decide_eq_true (by omega)
      go_enter Tryz.func50, Tryz.ntmps50
      go_wp2_with fail
      refine (cm _).out.mono ?_
      rintro e _ ⟨rfl, rfl⟩
      go_wp2
      go_ret2
      exact ⟨by rw [HR.out]; rfl, hb0⟩
    · have HR := hid (show sizeP s mode = (allN s (mode % 2 == 1) (mode / 2 == 1), 0) by unfold sizeP; rw [if_neg hm, if_neg hl])
      have hd : decide ((s.length : Int) < 48) = false := decide_eq_false (by omega)
      obtain ⟨x4, hx4⟩ : ∃ x, s[4]'(by omega) = x := ⟨_, rfl⟩
      obtain ⟨x5, hx5⟩ : ∃ x, s[5]'(by omega) = x := ⟨_, rfl⟩
      obtain ⟨x6, hx6⟩ : ∃ x, s[6]'(by omega) = x := ⟨_, rfl⟩
      obtain ⟨x7, hx7⟩ : ∃ x, s[7]'(by omega) = x := ⟨_, rfl⟩
      have hl4 : 4 < s.length := by omega
      have hl5 : 5 < s.length := by omega
      have hl6 : 6 < s.length := by omega
      have hl7 : 7 < s.length := by omega
      have hi4 : (4 : Int) < (s.length : Int) := by omega
      have hi5 : (5 : Int) < (s.length : Int) := by omega
      have hi6 : (6 : Int) < (s.length : Int) := by omega
      have hi7 : (7 : Int) < (s.length : Int) := by omega
      have e4 : wN s = x4.toNat := by unfold wN; rw [← hx4]; simp [List.getD, hl4]
      have e5 : dN s = num [x5, x6, x7] := by
        unfold dN
        have : (s.drop 5).take 3 = [x5, x6, x7] := by
          rw [List.drop_eq_getElem_cons hl5, List.drop_eq_getElem_cons hl6, List.drop_eq_getElem_cons hl7, hx5, hx6, hx7]
          rfl
        rw [this]
      have hN := dN_lt s
      rw [e5] at hN
      have hA := fun q1 q2 => show allN s q1 q2 = 48 + 4 * x4.toNat + num [x5, x6, x7] + padN (num [x5, x6, x7]) + (if q1 then 4 else 0) + (if q2 && decide (0 < num [x5, x6, x7]) then 4 else 0) by unfold allN; rw [e4, e5]
      have HA := hid hA
      clear hA e4 e5
      have hx4l := x4.toNat_lt; have hx5l := x5.toNat_lt; have hx6l := x6.toNat_lt; have hx7l := x7.toNat_lt
      have hx4w : IntKind.i64.wrap (x4.toNat : Int) = (x4.toNat : Int) := by rw [IntKind.wrap_i64]; omega
      have hx5w : IntKind.i64.wrap (x5.toNat : Int) = (x5.toNat : Int) := by rw [IntKind.wrap_i64]; omega
      have hx6w : IntKind.i64.wrap (x6.toNat : Int) = (x6.toNat : Int) := by rw [IntKind.wrap_i64]; omega
      have hx7w : IntKind.i64.wrap (x7.toNat : Int) = (x7.toNat : Int) := by rw [IntKind.wrap_i64]; omega
      have hor := or3 x5 x6 x7
      have hpn := padN_lt (num [x5, x6, x7])
      have cp := fun w1 => hid (pad_nat (num [x5, x6, x7]) w1 (by omega))
      generalize num [x5, x6, x7] = N3 at *
      generalize hP : padN N3 = P at *
      obtain ⟨q1, hq1⟩ : ∃ q, (bits .and .i64 mode 1 != 0) = q := ⟨_, rfl⟩
      obtain ⟨q2, hq2⟩ : ∃ q, (bits .and .i64 mode 2 != 0) = q := ⟨_, rfl⟩
      have hrr := HR.out
      rw [← hm1', ← hm2', hq1, hq2, HA.out] at hrr
      have HR := hid hrr
      clear hrr hm1' hm2' HA
      have hmx : Tryz.prog.follows .mixedOrders = true := by kernel_rfl
      go_enter Tryz.func50, Tryz.ntmps50
      go_wp2_with fail
      refine (cm _).out.mono ?_
      rintro e _ ⟨rfl, rfl⟩
      go_wp2_with fail
      refine wpIn_wide (n := 4).1 ?_
      refine region_puts (aF := ?kA1) [(18, .string (bs s)), (19, .int .u8 (x5.toNat : Int)), (20, .int .i64 (x5.toNat : Int)), (21, .int .i64 ((x5.toNat : Int) * 65536)), (22, .string (bs s)), (23, .int .u8 (x6.toNat : Int)), (24, .int .i64 (x6.toNat : Int)), (25, .int .i64 ((x6.toNat : Int) * 256)), (26, .int .i64 (bits .or .i64 ((x5.toNat : Int) * 65536) ((x6.toNat : Int) * 256))), (27, .string (bs s)), (28, .int .u8 (x7.toNat : Int)), (29, .int .i64 (x7.toNat : Int)), (30, .int .i64 (N3 : Int)), (6, .int .i64 (N3 : Int))] (fun W => Below w.heap.size w W) ?kB1 hmx (by kernel_rfl) (by kernel_rfl) (fun w w' h hb => h.trans (hb.mono h.size)) (Below.refl _ _).drew ?kC1 ?kD1
      case kB1 =>
        simp only [putAll, List.foldl_cons, List.foldl_nil, List.setIfInBounds_toArray, List.set_cons_zero, List.set_cons_succ]
        exact rfl
      case kC1 =>
        have hrf : ∀ w : World, Below w.heap.size w w := fun w => Below.refl _ w
        have hx5s : IntKind.i64.wrap ((x5.toNat : Int) * 65536) = (x5.toNat : Int) * 65536 := by rw [IntKind.wrap_i64]; omega
        have hx6s : IntKind.i64.wrap ((x6.toNat : Int) * 256) = (x6.toNat : Int) * 256 := by rw [IntKind.wrap_i64]; omega
        refine ⟨?_, ?_, ?_, ?_, ?_, ?_, ?_, ?_, ?_, ?_, ?_, ?_, ?_, ?_, trivial⟩
        all_goals refine ⟨by simp, fun W h => ⟨by simp [go_sem, Oper.about], ?_⟩⟩
        all_goals clear h
        all_goals simp [OpTo, go_sem, hrf, hx5, hx6, hx7, hx5w, hx6w, hx7w, hx5s, hx6s, hor, hl5, hl6, hl7, hi5, hi6, hi7]
      case kD1 =>
        intro W1 hW1
        have hs4 : IntKind.i64.wrap (4 * (x4.toNat : Int)) = 4 * (x4.toNat : Int) := by rw [IntKind.wrap_i64]; omega
        have hs5 : IntKind.i64.wrap (48 + 4 * (x4.toNat : Int)) = 48 + 4 * (x4.toNat : Int) := by rw [IntKind.wrap_i64]; omega
        have hs6 : IntKind.i64.wrap (48 + 4 * (x4.toNat : Int) + (N3 : Int)) = 48 + 4 * (x4.toNat : Int) + (N3 : Int) := by rw [IntKind.wrap_i64]; omega
        have hs7 : IntKind.i64.wrap (48 + 4 * (x4.toNat : Int) + (N3 : Int) + (P : Int)) = 48 + 4 * (x4.toNat : Int) + (N3 : Int) + (P : Int) := by rw [IntKind.wrap_i64]; omega
        gi_wp2
        go_wp2_with fail
        refine wpIn_wide (n := 4).1 ?_
        refine region_puts (aF := ?kA2) [(31, .string (bs s)), (32, .int .u8 (x4.toNat : Int)), (33, .int .i64 (x4.toNat : Int)), (34, .int .i64 (4 * (x4.toNat : Int))), (35, .int .i64 (48 + 4 * (x4.toNat : Int))), (36, .int .i64 (N3 : Int)), (37, .int .i64 (48 + 4 * (x4.toNat : Int) + (N3 : Int))), (38, .int .i64 (N3 : Int)), (39, .int .i64 (P : Int)), (40, .int .i64 (48 + 4 * (x4.toNat : Int) + (N3 : Int) + (P : Int))), (7, .int .i64 (48 + 4 * (x4.toNat : Int) + (N3 : Int) + (P : Int)))] (fun W => Below w.heap.size w W) ?kB2 hmx (by kernel_rfl) (by kernel_rfl) (fun w w' h hb => h.trans (hb.mono h.size)) hW1.drew ?kC2 ?kD2
        case kB2 =>
          simp only [putAll, List.foldl_cons, List.foldl_nil, List.setIfInBounds_toArray, List.set_cons_zero, List.set_cons_succ]
          exact rfl
        case kC2 =>
          have hrf : ∀ w : World, Below w.heap.size w w := fun w => Below.refl _ w
          refine ⟨?_, ?_, ?_, ?_, ?_, ?_, ?_, ?_, ?_, ?_, ?_, trivial⟩
          all_goals refine ⟨by simp, fun W h => ⟨?_, ?_⟩⟩
          all_goals first
            | (simp [go_sem, Oper.about]; done)
            | (simp [go_sem, Oper.about]; exact trivial)
            | skip
          all_goals first
            | (simp [OpTo, go_sem, hrf, hx4, hx4w, hs4, hs5, hs6, hs7, hl4, hi4]; done)
            | skip
          all_goals
            have hc := (cp W).out
            simp [OpTo, go_sem]
            refine callsIn_wide.2 (hc.mono ?_)
            rintro e _ ⟨rfl, rfl⟩
            exact ⟨rfl, hrf _⟩
        case kD2 =>
          intro W2 hW2
          have hs8 : IntKind.i64.wrap (48 + 4 * (x4.toNat : Int) + (N3 : Int) + (P : Int) + 4) = 48 + 4 * (x4.toNat : Int) + (N3 : Int) + (P : Int) + 4 := by rw [IntKind.wrap_i64]; omega
          have hs9 : IntKind.i64.wrap (48 + 4 * (x4.toNat : Int) + (N3 : Int) + (P : Int) + 4 + 4) = 48 + 4 * (x4.toNat : Int) + (N3 : Int) + (P : Int) + 4 + 4 := by rw [IntKind.wrap_i64]; omega
          obtain ⟨q3, hq3⟩ : ∃ q, decide ((0 : Int) < (N3 : Int)) = q := ⟨_, rfl⟩
          have hq3n : decide (0 < N3) = q3 := by rw [← hq3, decide_eq_decide]; omega
          rw [hq3n] at HR
          gi_wp2
          cases q1 <;> cases q2 <;> cases q3
          all_goals
            go_wp2
            go_ret2
            refine ⟨?_, hW2⟩
            rw [HR.out]
            exact congrArg (fun v => Ending.returned (.tuple #[.int .i64 v, .nilIface])) (by simp <;> omega)
set_option maxHeartbeats 4000000 in
theorem rsize_any : Calls Tryz.prog 47 #[.string (bs s), .int .i64 mode] w fun e w' => e = .returned (.tuple #[.int .i64 ((sizeP s mode).1 : Nat), .int .i64 ((sizeP s mode).2 : Nat)]) ∧ Below w.heap.size w w' := by
  have hb0 := Below.refl w.heap.size w
  by_cases hm : mode < 0 ∨ 3 < mode
  · have HR := hid (show sizeP s mode = (0, 1) by unfold sizeP; rw [if_pos hm])
    have cm := fun w => hid (within_false mode 0 3 w hm)
    go_enter Tryz.func47, Tryz.ntmps47
    go_wp2_with fail
    refine (cm _).out.mono ?_
    rintro e _ ⟨rfl, rfl⟩
    go_wp2
    go_ret2
    exact ⟨by rw [HR.out]; rfl, hb0⟩
  · have cm := fun w => hid (within_true mode 0 3 w (by omega) (by omega))
    by_cases hl : s.length < 48
    · have HR := hid (show sizeP s mode = (0, 7) by unfold sizeP; rw [if_neg hm, if_pos hl])
      have hd : decide ((s.length : Int) < 48) = true := decide_eq_true (by omega)
      go_enter Tryz.func47, Tryz.ntmps47
      go_wp2_with fail
      refine (cm _).out.mono ?_
      rintro e _ ⟨rfl, rfl⟩
      go_wp2
      go_ret2
      exact ⟨by rw [HR.out]; rfl, hb0⟩
    · have HR := hid (show sizeP s mode = (allN s (mode % 2 == 1) (mode / 2 == 1), 0) by unfold sizeP; rw [if_neg hm, if_neg hl])
      have hd : decide ((s.length : Int) < 48) = false := decide_eq_false (by omega)
      obtain ⟨x4, hx4⟩ : ∃ x, s[4]'(by omega) = x := ⟨_, rfl⟩
      have hl4 : 4 < s.length := by omega
      have hi4 : (4 : Int) < (s.length : Int) := by omega
      have e4 : wN s = x4.toNat := by unfold wN; rw [← hx4]; simp [List.getD, hl4]
      have hN := dN_lt s
      have hA := fun q1 q2 => show allN s q1 q2 = 48 + 4 * x4.toNat + dN s + padN (dN s) + (if q1 then 4 else 0) + (if q2 && decide (0 < dN s) then 4 else 0) by unfold allN; rw [e4]
      have HA := hid hA
      clear hA e4
      have hx4l := x4.toNat_lt
      have hx4w : IntKind.i64.wrap (x4.toNat : Int) = (x4.toNat : Int) := by rw [IntKind.wrap_i64]; omega
      have sm : ∀ W, (Instr.slice 9 (.string (bs s)) (some (.int .i64 5)) (some (.int .i64 8)) none).run Tryz.prog W = .ok (.string (bs ((s.drop 5).take 3))) W := fun W => str_mid s 5 3 (by omega) (by omega) W
      have cG := fun W => hid (unnum_bs ((s.drop 5).take 3) (by simp; omega) W)
      have hpn := padN_lt (dN s)
      have cp := fun w1 => hid (rpad_nat (dN s) w1 (by omega))
      have hdn : num ((s.drop 5).take 3) = dN s := rfl
      rw [hdn] at cG
      generalize (s.drop 5).take 3 = s3 at *
      generalize dN s = N3 at *
      generalize padN N3 = P at *
      have hm4 : mode = 0 ∨ mode = 1 ∨ mode = 2 ∨ mode = 3 := by omega
      have hmx : Tryz.prog.follows .mixedOrders = true := by kernel_rfl
      have hn3w : IntKind.i64.wrap (N3 : Int) = (N3 : Int) := by rw [IntKind.wrap_i64]; omega
      have hs4 : IntKind.i64.wrap (4 * (x4.toNat : Int)) = 4 * (x4.toNat : Int) := by rw [IntKind.wrap_i64]; omega
      have hs5 : IntKind.i64.wrap (48 + 4 * (x4.toNat : Int)) = 48 + 4 * (x4.toNat : Int) := by rw [IntKind.wrap_i64]; omega
      have hs6 : IntKind.i64.wrap (48 + 4 * (x4.toNat : Int) + (N3 : Int)) = 48 + 4 * (x4.toNat : Int) + (N3 : Int) := by rw [IntKind.wrap_i64]; omega
      have hs7 : IntKind.i64.wrap (48 + 4 * (x4.toNat : Int) + (N3 : Int) + (P : Int)) = 48 + 4 * (x4.toNat : Int) + (N3 : Int) + (P : Int) := by rw [IntKind.wrap_i64]; omega
      have hs8 : IntKind.i64.wrap (48 + 4 * (x4.toNat : Int) + (N3 : Int) + (P : Int) + 4) = 48 + 4 * (x4.toNat : Int) + (N3 : Int) + (P : Int) + 4 := by rw [IntKind.wrap_i64]; omega
      have hs9 : IntKind.i64.wrap (48 + 4 * (x4.toNat : Int) + (N3 : Int) + (P : Int) + 4 + 4) = 48 + 4 * (x4.toNat : Int) + (N3 : Int) + (P : Int) + 4 + 4 := by rw [IntKind.wrap_i64]; omega
      obtain ⟨q3, hq3⟩ : ∃ q, decide (0 < N3) = q := ⟨_, rfl⟩
      have hw0 : IntKind.i64.wrap 0 = 0 := by decide
      have hw4 : IntKind.i64.wrap 4 = 4 := by decide
      rw [HA.out, hq3] at HR
      clear hm hm0 hm1 HA
      go_enter Tryz.func47, Tryz.ntmps47
      go_wp2_with fail
      refine (cm _).out.mono ?_
      rintro e _ ⟨rfl, rfl⟩
      go_wp2_with fail
      refine (cG _).out.mono ?_
      rintro e w2 ⟨rfl, hb2⟩
      rcases hm4 with rfl | rfl | rfl | rfl
      · go_wp2_with fail
        refine wpIn_wide (n := 4).1 ?_
        refine region_puts (aF := ?kA0) [(21, .string (bs s)), (22, .int .u8 (x4.toNat : Int)), (23, .int .i64 (x4.toNat : Int)), (24, .int .i64 (4 * (x4.toNat : Int))), (25, .int .i64 (48 + 4 * (x4.toNat : Int))), (26, .int .u64 (N3 : Int)), (27, .int .i64 (N3 : Int)), (28, .int .i64 (48 + 4 * (x4.toNat : Int) + (N3 : Int))), (29, .int .u64 (N3 : Int)), (30, .int .i64 (N3 : Int)), (31, .int .i64 (P : Int)), (32, .int .i64 (48 + 4 * (x4.toNat : Int) + (N3 : Int) + (P : Int))), (33, .int .i64 0), (34, .int .i64 0), (35, .int .i64 0), (36, .int .i64 (48 + 4 * (x4.toNat : Int) + (N3 : Int) + (P : Int))), (8, .int .i64 (48 + 4 * (x4.toNat : Int) + (N3 : Int) + (P : Int)))] (fun W => Below w.heap.size w W) ?kB0 hmx (by kernel_rfl) (by kernel_rfl) (fun w w' h hb => h.trans (hb.mono h.size)) hb2.drew ?kC0 ?kD0
        case kB0 =>
          simp only [putAll, List.foldl_cons, List.foldl_nil, List.setIfInBounds_toArray, List.set_cons_zero, List.set_cons_succ]
          exact rfl
        case kC0 =>
          have hrf : ∀ w : World, Below w.heap.size w w := fun w => Below.refl _ w
          refine ⟨?_, ?_, ?_, ?_, ?_, ?_, ?_, ?_, ?_, ?_, ?_, ?_, ?_, ?_, ?_, ?_, ?_, trivial⟩
          all_goals refine ⟨by simp, fun W h => ⟨?_, ?_⟩⟩
          all_goals first
            | (simp [go_sem, Oper.about]; done)
            | (simp [go_sem, Oper.about]; exact trivial)
            | skip
          all_goals first
            | (simp [OpTo, go_sem, hrf, hx4, hx4w, hn3w, hs4, hs5, hs6, hs7, hs8, hl4, hi4, hw0, hw4]; done)
            | skip
          all_goals
            have hc := (cp W).out
            simp [OpTo, go_sem]
            refine callsIn_wide.2 (hc.mono ?_)
            rintro e _ ⟨rfl, rfl⟩
            exact ⟨rfl, hrf _⟩
        case kD0 =>
          intro W2 hW2
          gi_wp2
          cases q3
          all_goals
            go_wp2
            go_ret2
            refine ⟨?_, hW2⟩
            rw [HR.out]
            exact congrArg (fun v => Ending.returned (.tuple #[.int .i64 v, .int .i64 0])) (by simp <;> omega)
      · go_wp2_with fail
        refine wpIn_wide (n := 4).1 ?_
        refine region_puts (aF := ?kA1) [(21, .string (bs s)), (22, .int .u8 (x4.toNat : Int)), (23, .int .i64 (x4.toNat : Int)), (24, .int .i64 (4 * (x4.toNat : Int))), (25, .int .i64 (48 + 4 * (x4.toNat : Int))), (26, .int .u64 (N3 : Int)), (27, .int .i64 (N3 : Int)), (28, .int .i64 (48 + 4 * (x4.toNat : Int) + (N3 : Int))), (29, .int .u64 (N3 : Int)), (30, .int .i64 (N3 : Int)), (31, .int .i64 (P : Int)), (32, .int .i64 (48 + 4 * (x4.toNat : Int) + (N3 : Int) + (P : Int))), (33, .int .i64 1), (34, .int .i64 1), (35, .int .i64 4), (36, .int .i64 (48 + 4 * (x4.toNat : Int) + (N3 : Int) + (P : Int) + 4)), (8, .int .i64 (48 + 4 * (x4.toNat : Int) + (N3 : Int) + (P : Int) + 4))] (fun W => Below w.heap.size w W) ?kB1 hmx (by kernel_rfl) (by kernel_rfl) (fun w w' h hb => h.trans (hb.mono h.size)) hb2.drew ?kC1 ?kD1
        case kB1 =>
          simp only [putAll, List.foldl_cons, List.foldl_nil, List.setIfInBounds_toArray, List.set_cons_zero, List.set_cons_succ]
          exact rfl
        case kC1 =>
          have hrf : ∀ w : World, Below w.heap.size w w := fun w => Below.refl _ w
          refine ⟨?_, ?_, ?_, ?_, ?_, ?_, ?_, ?_, ?_, ?_, ?_, ?_, ?_, ?_, ?_, ?_, ?_, trivial⟩
          all_goals refine ⟨by simp, fun W h => ⟨?_, ?_⟩⟩
          all_goals first
            | (simp [go_sem, Oper.about]; done)
            | (simp [go_sem, Oper.about]; exact trivial)
            | skip
          all_goals first
            | (simp [OpTo, go_sem, hrf, hx4, hx4w, hn3w, hs4, hs5, hs6, hs7, hs8, hl4, hi4, hw0, hw4]; done)
            | skip
          all_goals
            have hc := (cp W).out
            simp [OpTo, go_sem]
            refine callsIn_wide.2 (hc.mono ?_)
            rintro e _ ⟨rfl, rfl⟩
            exact ⟨rfl, hrf _⟩
        case kD1 =>
          intro W2 hW2
          gi_wp2
          cases q3
          all_goals
            go_wp2
            go_ret2
            refine ⟨?_, hW2⟩
            rw [HR.out]
            exact congrArg (fun v => Ending.returned (.tuple #[.int .i64 v, .int .i64 0])) (by simp <;> omega)
      · go_wp2_with fail
        refine wpIn_wide (n := 4).1 ?_
        refine region_puts (aF := ?kA2) [(21, .string (bs s)), (22, .int .u8 (x4.toNat : Int)), (23, .int .i64 (x4.toNat : Int)), (24, .int .i64 (4 * (x4.toNat : Int))), (25, .int .i64 (48 + 4 * (x4.toNat : Int))), (26, .int .u64 (N3 : Int)), (27, .int .i64 (N3 : Int)), (28, .int .i64 (48 + 4 * (x4.toNat : Int) + (N3 : Int))), (29, .int .u64 (N3 : Int)), (30, .int .i64 (N3 : Int)), (31, .int .i64 (P : Int)), (32, .int .i64 (48 + 4 * (x4.toNat : Int) + (N3 : Int) + (P : Int))), (33, .int .i64 2), (34, .int .i64 0), (35, .int .i64 0), (36, .int .i64 (48 + 4 * (x4.toNat : Int) + (N3 : Int) + (P : Int))), (8, .int .i64 (48 + 4 * (x4.toNat : Int) + (N3 : Int) + (P : Int)))] (fun W => Below w.heap.size w W) ?kB2 hmx (by kernel_rfl) (by kernel_rfl) (fun w w' h hb => h.trans (hb.mono h.size)) hb2.drew ?kC2 ?kD2
        case kB2 =>
          simp only [putAll, List.foldl_cons, List.foldl_nil, List.setIfInBounds_toArray, List.set_cons_zero, List.set_cons_succ]
          exact rfl
        case kC2 =>
          have hrf : ∀ w : World, Below w.heap.size w w := fun w => Below.refl _ w
          refine ⟨?_, ?_, ?_, ?_, ?_, ?_, ?_, ?_, ?_, ?_, ?_, ?_, ?_, ?_, ?_, ?_, ?_, trivial⟩
          all_goals refine ⟨by simp, fun W h => ⟨?_, ?_⟩⟩
          all_goals first
            | (simp [go_sem, Oper.about]; done)
            | (simp [go_sem, Oper.about]; exact trivial)
            | skip
          all_goals first
            | (simp [OpTo, go_sem, hrf, hx4, hx4w, hn3w, hs4, hs5, hs6, hs7, hs8, hl4, hi4, hw0, hw4]; done)
            | skip
          all_goals
            have hc := (cp W).out
            simp [OpTo, go_sem]
            refine callsIn_wide.2 (hc.mono ?_)
            rintro e _ ⟨rfl, rfl⟩
            exact ⟨rfl, hrf _⟩
        case kD2 =>
          intro W2 hW2
          gi_wp2
          cases q3
          all_goals
            go_wp2
            go_ret2
            refine ⟨?_, hW2⟩
            rw [HR.out]
            exact congrArg (fun v => Ending.returned (.tuple #[.int .i64 v, .int .i64 0])) (by simp <;> omega)
      · go_wp2_with fail
        refine wpIn_wide (n := 4).1 ?_
        refine region_puts (aF := ?kA3) [(21, .string (bs s)), (22, .int .u8 (x4.toNat : Int)), (23, .int .i64 (x4.toNat : Int)), (24, .int .i64 (4 * (x4.toNat : Int))), (25, .int .i64 (48 + 4 * (x4.toNat : Int))), (26, .int .u64 (N3 : Int)), (27, .int .i64 (N3 : Int)), (28, .int .i64 (48 + 4 * (x4.toNat : Int) + (N3 : Int))), (29, .int .u64 (N3 : Int)), (30, .int .i64 (N3 : Int)), (31, .int .i64 (P : Int)), (32, .int .i64 (48 + 4 * (x4.toNat : Int) + (N3 : Int) + (P : Int))), (33, .int .i64 3), (34, .int .i64 1), (35, .int .i64 4), (36, .int .i64 (48 + 4 * (x4.toNat : Int) + (N3 : Int) + (P : Int) + 4)), (8, .int .i64 (48 + 4 * (x4.toNat : Int) + (N3 : Int) + (P : Int) + 4))] (fun W => Below w.heap.size w W) ?kB3 hmx (by kernel_rfl) (by kernel_rfl) (fun w w' h hb => h.trans (hb.mono h.size)) hb2.drew ?kC3 ?kD3
        case kB3 =>
          simp only [putAll, List.foldl_cons, List.foldl_nil, List.setIfInBounds_toArray, List.set_cons_zero, List.set_cons_succ]
          exact rfl
        case kC3 =>
          have hrf : ∀ w : World, Below w.heap.size w w := fun w => Below.refl _ w
          refine ⟨?_, ?_, ?_, ?_, ?_, ?_, ?_, ?_, ?_, ?_, ?_, ?_, ?_, ?_, ?_, ?_, ?_, trivial⟩
          all_goals refine ⟨by simp, fun W h => ⟨?_, ?_⟩⟩
          all_goals first
            | (simp [go_sem, Oper.about]; done)
            | (simp [go_sem, Oper.about]; exact trivial)
            | skip
          all_goals first
            | (simp [OpTo, go_sem, hrf, hx4, hx4w, hn3w, hs4, hs5, hs6, hs7, hs8, hl4, hi4, hw0, hw4]; done)
            | skip
          all_goals
            have hc := (cp W).out
            simp [OpTo, go_sem]
            refine callsIn_wide.2 (hc.mono ?_)
            rintro e _ ⟨rfl, rfl⟩
            exact ⟨rfl, hrf _⟩
        case kD3 =>
          intro W2 hW2
          gi_wp2
          cases q3
          all_goals
            go_wp2
            go_ret2
            refine ⟨?_, hW2⟩
            rw [HR.out]
            exact congrArg (fun v => Ending.returned (.tuple #[.int .i64 v, .int .i64 0])) (by simp <;> omega)
end
end Go.Proofs.YtfeenkofnbefaaaGreatDoor
