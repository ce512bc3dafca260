/- The PDU that bytes begin with: by the document. -/
import Derived.Test.YtfeenkofnbefaaaGreatDoorPduRd
import Derived.Test.YtfeenkofnbefaaaGreatDoorAhsR
set_option linter.unusedSectionVars false
set_option linter.unusedSimpArgs false
set_option linter.unusedVariables false
namespace Go.Proofs.YtfeenkofnbefaaaGreatDoor
open Go Go.RowKit
set_option linter.unusedVariables false
set_option linter.unusedSectionVars false
set_option linter.unusedSimpArgs false
set_option maxRecDepth 100000
def PduRdRPost (R : RdP) (w : World) (e : Ending) (w' : World) : Prop :=
  ∃ v av, e = .returned (.tuple #[pduV R.op R.now R.flags v av R.data, .int .i64 R.all, .int .i64 (R.e : Nat)]) ∧ Sl w' v 1 R.vals.length (u64Cells R.vals) ∧ Sl w' av 2 R.ahs.length (ahsCells R.ahs) ∧ Below w.heap.size w w'
section
variable (s : List UInt8) (mode : Int) (w : World) (hs : s.length ≤ 1000000) (hm0 : -9223372036854775808 ≤ mode) (hm1 : mode ≤ 9223372036854775807)
include hs hm0 hm1
set_option maxHeartbeats 8000000 in
theorem rpduRead_any : Calls Tryz.prog 48 #[.string (bs s), .int .i64 mode] w fun e w' => PduRdRPost (readP s mode) w e w' := by
  have c1 := fun w1 => hid (rsize_any s mode w1 (by omega) hm0 hm1)
  have b1 := (Below.refl w.heap.size w).alloc (Nat.le_refl _) (.cells #[.int .i64 0, .bool false, .int .i64 0, .slice none 0 0, .slice none 0 0, .string (bs [])] 40)
  have B1 := Blk.new w 40 #[.int .i64 0, .bool false, .int .i64 0, .slice none 0 0, .slice none 0 0, .string (bs [])]
  by_cases hk0 : (sizeP s mode).2 = 0
  · have hsz : sizeP s mode = (allN s (mode % 2 == 1) (mode / 2 == 1), 0) ∧ 48 ≤ s.length ∧ 0 ≤ mode ∧ mode ≤ 3 := by
      unfold sizeP at hk0 ⊢
      split at hk0
      · cases hk0
      · rename_i h1
        rw [if_neg h1]
        split at hk0
        · cases hk0
        · rename_i h2
          rw [if_neg h2]
          exact ⟨rfl, by omega, by omega, by omega⟩
    obtain ⟨hsz, hl48, hmm0, hmm1⟩ := hsz
    obtain ⟨hm1', hm2'⟩ := mode_bits mode hmm0 hmm1
    have HR0 := hid (show readP s mode = if s.length < allN s (mode % 2 == 1) (mode / 2 == 1) then rdNo 7 else readPa s (mode % 2 == 1) (mode / 2 == 1) by
      unfold readP; rw [if_neg (by rw [hk0]; simp)])
    rw [hsz] at c1
    obtain ⟨q1, hq1⟩ : ∃ q, (bits .and .i64 mode 1 != 0) = q := ⟨_, rfl⟩
    obtain ⟨q2, hq2⟩ : ∃ q, (bits .and .i64 mode 2 != 0) = q := ⟨_, rfl⟩
    rw [hq1] at hm1'
    rw [hq2] at hm2'
    rw [← hm1', ← hm2'] at HR0 c1
    have hmt : (mode.tmod 2 == 1) = q1 := by rw [Int.tmod_eq_emod_of_nonneg hmm0]; exact hm1'.symm
    have hme : (mode % 2 == 1) = q1 := hm1'.symm
    clear hm1' hm2' hsz hk0 hm0 hm1 hq1 hq2
    by_cases hall : s.length < allN s q1 q2
    · have HRf := hid (show readP s mode = rdNo 7 by rw [HR0.out, if_pos hall])
      have hd : decide ((s.length : Int) < (allN s q1 q2 : Nat)) = true := decide_eq_true (by omega)
      generalize allN s q1 q2 = all at *
      go_enter Tryz.func48, Tryz.ntmps48
      go_wp2_with fail
      refine (c1 _).out.mono ?_
      rintro e w2 ⟨rfl, hb2⟩
      have B2 := B1.below hb2
      have b2 := b1.trans (hb2.mono b1.size)
      have v0 := B2.free 0
      have v1 := B2.free 1
      have v2 := B2.free 2
      have v3 := B2.free 3
      have v4 := B2.free 4
      have v5 := B2.free 5
      have t0 : World.cell? _ ⟨w.heap.size, 0, none⟩ = some (.int .i64 0) := (B2.cell 0).trans rfl
      have t1 : World.cell? _ ⟨w.heap.size, 1, none⟩ = some (.bool false) := (B2.cell 1).trans rfl
      have t2 : World.cell? _ ⟨w.heap.size, 2, none⟩ = some (.int .i64 0) := (B2.cell 2).trans rfl
      have t3 : World.cell? _ ⟨w.heap.size, 3, none⟩ = some (.slice none 0 0) := (B2.cell 3).trans rfl
      have t4 : World.cell? _ ⟨w.heap.size, 4, none⟩ = some (.slice none 0 0) := (B2.cell 4).trans rfl
      have t5 : World.cell? _ ⟨w.heap.size, 5, none⟩ = some (.string (bs [])) := (B2.cell 5).trans rfl
      go_wp2
      refine bodyPost_ret (v := .tuple #[pduV 0 false 0 (.slice none 0 0) (.slice none 0 0) [], .int .i64 0, .int .i64 7]) (by simp [results, Tryz.results48, go_sem, pduV, t0, t1, t2, t3, t4, t5]; rfl) rfl ?_
      refine ⟨_, _, by rw [HRf.out]; rfl, by rw [HRf.out]; exact sl_nil _ _, by rw [HRf.out]; exact sl_nil _ _, ?_⟩
      iterate 6 refine below_setc ?_ (Nat.le_refl w.heap.size) _ _
      exact b2
    · have HRa := hid (show readP s mode = readPa s q1 q2 by rw [HR0.out, if_neg hall])
      have hd : decide ((s.length : Int) < (allN s q1 q2 : Nat)) = false := decide_eq_false (by omega)
      have hall2 : allN s q1 q2 = endN s + dN s + padN (dN s) + (if q1 then 4 else 0) + (if q2 && decide (0 < dN s) then 4 else 0) := by unfold allN endN; omega
      have hRL : restL s q1 q2 = (s.take (allN s q1 q2)).drop (endN s + if q1 then 4 else 0) := rfl
      have hRP := HRa.out
      unfold readPa at hRP
      obtain ⟨x4, hx4⟩ : ∃ x, s[4]'(by omega) = x := ⟨_, rfl⟩
      have hl4 : 4 < s.length := by omega
      have hi4 : (4 : Int) < (s.length : Int) := by omega
      have e4 : wN s = x4.toNat := by unfold wN; rw [← hx4]; simp [List.getD, hl4]
      have hx4l := x4.toNat_lt
      have hE0 : endN s = 48 + 4 * x4.toNat := by unfold endN; rw [e4]
      have hDl := dN_lt s
      have hPl := padN_lt (dN s)
      have hDat : (readH (s.take 48)).e = 0 → (readH (s.take 48)).data = (dN s : Nat) := read_data s hl48
      have hAXl : ((s.take (endN s)).drop 48).length ≤ 1020 := by simp; omega
      have hA0l : (s.take (endN s)).length = endN s := by simp; omega
      have h4848 : (s.take (endN s)).take 48 = s.take 48 := by rw [List.take_take]; congr 1; omega
      have hvl := read_len' (s.take 48)
      have cR := fun w1 => hid (rread_any (s.take 48) w1 (by simp; omega))
      have cA := fun w1 => hid (rahsRead_any ((s.take (endN s)).drop 48) w1 hAXl)
      have ci := fun k pl w1 => hid (faultIs_any k pl w1)
      have hahs : ahsOf s = ahsP (((s.take (endN s)).drop 48).length + 1) ((s.take (endN s)).drop 48) 0 := rfl
      unfold ReadRPost at cR
      unfold AhsRPost at cA
      rw [← hahs] at cA
      have HDat := hid hDat
      generalize hH : readH (s.take 48) = H at *
      generalize ahsOf s = AH at *
      obtain ⟨AL, ae, ap⟩ := AH
      simp only at cA hRP
      generalize hE : endN s = E0 at *
      generalize hD' : dN s = D at *
      generalize hP' : padN D = P at *
      have HRP := hid hRP
      have HRL := hid hRL
      clear hRP hRL hahs hDat e4 HR0 HRa hH
      have hx4w : IntKind.i64.wrap (x4.toNat : Int) = (x4.toNat : Int) := by rw [IntKind.wrap_i64]; omega
      have hs4 : IntKind.i64.wrap (4 * (x4.toNat : Int)) = 4 * (x4.toNat : Int) := by rw [IntKind.wrap_i64]; omega
      have hs5 : IntKind.i64.wrap (48 + 4 * (x4.toNat : Int)) = (E0 : Int) := by rw [IntKind.wrap_i64]; omega
      have hmx : Tryz.prog.follows .mixedOrders = true := by kernel_rfl
      have HALL := hid hall2; have HE0 := hid hE0
      have hEs : E0 ≤ s.length := by omega
      clear h4848 hall2 hE0
      obtain ⟨K, hK⟩ : ∃ K, K = D + P := ⟨_, rfl⟩
      have hKI : (D : Int) + padI (D : Int) = (K : Int) := by rw [padI_nat, hP']; omega
      rw [← hK] at HRP
      cases q1
      · have hRe : restL s false q2 = (s.take (allN s false q2)).drop E0 := by rw [HRL.out]; rfl
        have hrp := HRP.out
        rw [hRe] at hrp
        have hal := HALL.out
        have hRla : ((s.take (allN s false q2)).drop E0).length = K + if (q2 && decide (0 < D)) = true then 4 else 0 := by
          rw [List.length_drop, List.length_take, Nat.min_eq_left (by omega), hal, hK]
          simp only [if_true, Bool.false_eq_true, if_false]
          omega
        generalize allN s false q2 = all at *
        have hE048 : 48 ≤ E0 := by have h := HE0.out; omega
        have hEa : E0 ≤ all := by
          have h := HALL.out
          simp only [if_true, Bool.false_eq_true, if_false] at h
          omega
        have hE0a : E0 ≤ all := by omega
        have hals : all ≤ s.length := by omega
        have hSl : (s.take all).length = all := by rw [List.length_take]; omega
        have hS4l : 4 < (s.take all).length := by omega
        have hS4 : (s.take all)[4]'hS4l = x4 := by rw [List.getElem_take]; exact hx4
        have hSA : (s.take all).take E0 = s.take E0 := by rw [List.take_take, Nat.min_eq_left hE0a]
        have hS48 : (s.take all).take 48 = s.take 48 := by rw [List.take_take, Nat.min_eq_left (by omega)]
        clear hal hRe
        have slS : ∀ W, (Instr.slice 9 (.string (bs s)) none (some (.int .i64 (all : Int))) none).run Tryz.prog W = .ok (.string (bs (s.take all))) W := fun W => str_to s all (by omega) (by omega) W
        have slE : ∀ W, (Instr.slice 9 (.string (bs (s.take all))) (some (.int .i64 (E0 : Int))) none none).run Tryz.prog W = .ok (.string (bs ((s.take all).drop E0))) W := fun W => str_from (s.take all) E0 (by omega) (by omega) W
        have sl48 : ∀ W, (Instr.slice 9 (.string (bs (s.take all))) none (some (.int .i64 48)) none).run Tryz.prog W = .ok (.string (bs (s.take 48))) W := fun W => by
          rw [← hS48]; exact str_to (s.take all) 48 (by omega) (by omega) W
        have slX : ∀ W, (Instr.slice 9 (.string (bs (s.take all))) (some (.int .i64 48)) (some (.int .i64 (E0 : Int))) none).run Tryz.prog W = .ok (.string (bs ((s.take E0).drop 48))) W := fun W => by
          have := str_ab (s.take all) 48 E0 (by omega) (by omega) (by omega) W
          rwa [hSA] at this
        have hR3 : ((s.take all).drop E0).length ≤ 1000000 := by rw [List.length_drop, hSl]; omega
        generalize (s.take all).drop E0 = R at *
        have HQ4 := hid (show decide ((K : Int) < (R.length : Int)) = (q2 && decide (0 < D)) by
          rw [hRla]
          cases hq : (q2 && decide (0 < D))
          · rw [if_neg (by simp)]; exact decide_eq_false (by omega)
          · rw [if_pos rfl]; exact decide_eq_true (by omega))
        have cU0 := fun (h : unpadE R (D : Int) = 0) w1 => hid (show Calls Tryz.prog 79 #[.string (bs R), .int .i64 (D : Int)] w1 (fun e w' => e = .returned (.tuple #[.string (bs (R.take D)), .int .i64 (K : Int), .int .i64 0]) ∧ Below w1.heap.size w1 w') from (runpad_any R (D : Int) w1 (by omega) (by omega) (by omega)).mono (by
          rintro e w' ⟨rfl, q, rfl⟩
          exact ⟨by rw [runpadV, if_pos h, hKI]; rfl, below_drewN (Below.refl _ _) _⟩))
        have cU1 := fun (h : ¬ unpadE R (D : Int) = 0) w1 => hid (show Calls Tryz.prog 79 #[.string (bs R), .int .i64 (D : Int)] w1 (fun e w' => e = .returned (.tuple #[.string (bs []), .int .i64 0, .int .i64 (unpadE R (D : Int) : Nat)]) ∧ Below w1.heap.size w1 w') from (runpad_any R (D : Int) w1 (by omega) (by omega) (by omega)).mono (by
          rintro e w' ⟨rfl, q, rfl⟩
          exact ⟨by rw [runpadV, if_neg h], below_drewN (Below.refl _ _) _⟩))
        have HK := hid hK; have HRLA := hid hRla
        have HR1 := hid (show readP s mode = _ by rw [hrp, if_neg (by simp)])
        have hSi : (4 : Int) < ((s.take all).length : Int) := by omega
        clear hK hrp hRla hSA hS48
        generalize s.take all = S at *
        go_enter Tryz.func48, Tryz.ntmps48
        go_wp2_with fail
        refine (c1 _).out.mono ?_
        rintro e w2 ⟨rfl, hb2⟩
        have B2 := B1.below hb2
        have b2 := b1.trans (hb2.mono b1.size)
        go_wp2_with fail
        refine (cR _).out.mono ?_
        rintro e w4 ⟨hv, rfl, hsl, hb4⟩
        unfold headV
        have HSL := hid hsl
        obtain ⟨ha, hc, rfl, _⟩ := hsl
        have BP4 := Blk.new w4 37 #[.int .i64 H.op, .bool H.now, .int .i64 H.flags, .slice ha H.vals.length hc]
        have hA4 := (Below.refl w4.heap.size w4).alloc (Nat.le_refl _) (.cells #[.int .i64 H.op, .bool H.now, .int .i64 H.flags, .slice ha H.vals.length hc] 37)
        have B4 := (B2.below hb4).below hA4
        have b4' := b2.trans (hb4.mono b2.size)
        have b4 := b4'.trans (hA4.mono b4'.size)
        have HSL4 := hid (HSL.out.below (Nat.le_refl _) hA4)
        by_cases hHe : H.e = 0
        · have hda : H.data = (D : Int) := HDat.out hHe
          have HR2 := hid (show readP s mode = _ by rw [HR1.out, if_neg (by simp [hHe])])
          rw [hda, hHe]
          go_wp2_with fail
          generalize hW5 : w4.alloc (.cells #[.int .i64 H.op, .bool H.now, .int .i64 H.flags, .slice ha H.vals.length hc] 37) = W5 at *
          generalize w4.heap.size = p at *
          clear hW5
          refine (cA _).out.mono ?_
          rintro e w6 ⟨⟨av, rfl, hsl2⟩, hb6⟩
          unfold faultV
          obtain ⟨AN, hAN⟩ : ∃ n, (if ae = 0 then AL.length else 0) = n := ⟨_, rfl⟩
          obtain ⟨AC, hAC⟩ : ∃ n, (if ae = 0 then ahsCells AL else []) = n := ⟨_, rfl⟩
          rw [hAN, hAC] at hsl2
          have HSA6 := hid hsl2
          have HAN := hid hAN
          have HAC := hid hAC
          clear hAN hAC
          obtain ⟨aa, ac, rfl, _⟩ := hsl2
          have F6 := Blk.new w6 72 #[.int .i64 (ae : Nat), .int .i64 ap]
          have hA6 := (Below.refl w6.heap.size w6).alloc (Nat.le_refl _) (.cells #[.int .i64 (ae : Nat), .int .i64 ap] 72)
          have hb6' := hb6.trans (hA6.mono hb6.size)
          go_wp2_with fail
          refine (ci ae ap _).out.mono ?_
          rintro e w7 ⟨rfl, hb7⟩
          have hb7' := hb6'.trans (hb7.mono hb6'.size)
          have F7 := F6.below hb7
          have B7 := B4.below hb7'
          have BP7 := BP4.below hb7'
          have b7 := b4.trans (hb7'.mono b4.size)
          have HSL7 := hid (HSL4.out.below (Nat.le_refl _) hb7')
          have HSA7 := hid ((HSA6.out.below (by omega) hA6).below (by omega) hb7)
          have hfh : w6.heap.size ≠ w.heap.size := Nat.ne_of_gt (B4.below hb6).lt
          generalize w6.heap.size = f at *
          by_cases hae : ae = 0
          · have HR3 := hid (show readP s mode = _ by rw [HR2.out, if_neg (by simp [hae])])
            obtain rfl : AL.length = AN := by have h := HAN.out; rw [if_pos hae] at h; exact h
            obtain rfl : ahsCells AL = AC := by have h := HAC.out; rw [if_pos hae] at h; exact h
            subst hae
            go_wp2_with fail
            by_cases hU : unpadE R (D : Int) = 0
            · have HR4 := hid (show readP s mode = _ by rw [HR3.out, if_neg (by simp [hU])])
              refine ((cU0 hU) _).out.mono ?_
              rintro e W8 ⟨rfl, hb8⟩
              have BP8 := BP7.below hb8
              have B8 := B7.below hb8
              have b8 := b7.trans (hb8.mono b7.size)
              have HSL8 := hid (HSL7.out.below (Nat.le_refl _) hb8)
              have HSA8 := hid (HSA7.out.below (by omega) hb8)
              go_wp2_with fail
              obtain ⟨q4, hq4'⟩ : ∃ q, (q2 && decide (0 < D)) = q := ⟨_, rfl⟩
              have hq4 := HQ4.out
              rw [hq4'] at hq4
              cases q4 with
              | false =>
                have hk1 : R.length ≤ K := by
                  have := of_decide_eq_false hq4
                  omega
                have hk2 : ¬ K < R.length := by omega
                have HR5 := hid (show readP s mode = _ by rw [HR4.out, if_neg (by rw [hq4']; simp)])
                refine wpIn_wide (n := 4).1 ?_
                refine region_guard (aF := ?kAaF) [(93, .string (bs R)), (94, .int .i64 (R.length : Int)), (95, .int .i64 (K : Int)), (96, .bool false), (97, .bool false), (98, undef), (99, undef), (100, undef), (101, undef), (102, undef), (103, undef), (104, undef), (105, undef), (106, .bool false)] (fun W => Below W8.heap.size W8 W) ?kBaF hmx (by kernel_rfl) (by kernel_rfl) (Below.refl _ _).drew ?kCaF ?kDaF
                case kBaF =>
                  simp only [putAll, List.foldl_cons, List.foldl_nil, List.setIfInBounds_toArray, List.set_cons_zero, List.set_cons_succ]
                  exact rfl
                case kCaF =>
                  refine ⟨?_, ?_, ?_, ?_, ?_, ?_, ?_, ?_, ?_, ?_, ?_, ?_, ?_, ?_, trivial⟩
                  all_goals refine ⟨fun d hd => by simp at hd <;> (subst hd; simp), ?_⟩
                  all_goals first
                    | refine .inl ⟨by first | exact trivial | exact ⟨by simp, rfl⟩, fun W h => ⟨?_, ?_⟩⟩
                    | refine .inr ⟨⟨by simp, rfl⟩, fun d hd => by simp at hd <;> (subst hd; rfl), fun W h f hf => by first | (simp [go_sem, Oper.about] at hf; done) | trivial⟩
                  all_goals first
                    | (simp [go_sem, Oper.about]; done)
                    | (simp [go_sem, Oper.about]; exact trivial)
                    | skip
                  all_goals first
                    | (simp [OpInv, go_sem, h, hk1, hk2, hq4]; done)
                    | skip
                case kDaF =>
                  intro W9 hW9
                  have BP9 := BP8.below hW9
                  have B9 := B8.below hW9
                  have b9 := b8.trans (hW9.mono b8.size)
                  have HSL9 := hid (HSL8.out.below (Nat.le_refl _) hW9)
                  have HSA9 := hid (HSA8.out.below (by omega) hW9)
                  gi_wp2
                  by_cases hbig : 100000 < D
                  · have HRf := hid (show readP s mode = rdNo 4 by rw [HR5.out, if_pos hbig])
                    have hdb : decide ((100000 : Int) < (D : Int)) = true := decide_eq_true (by omega)
                    have v0 := B9.free 0
                    have v1 := B9.free 1
                    have v2 := B9.free 2
                    have v3 := B9.free 3
                    have v4 := B9.free 4
                    have v5 := B9.free 5
                    have t0 : World.cell? _ ⟨w.heap.size, 0, none⟩ = some (.int .i64 0) := (B9.cell 0).trans rfl
                    have t1 : World.cell? _ ⟨w.heap.size, 1, none⟩ = some (.bool false) := (B9.cell 1).trans rfl
                    have t2 : World.cell? _ ⟨w.heap.size, 2, none⟩ = some (.int .i64 0) := (B9.cell 2).trans rfl
                    have t3 : World.cell? _ ⟨w.heap.size, 3, none⟩ = some (.slice none 0 0) := (B9.cell 3).trans rfl
                    have t4 : World.cell? _ ⟨w.heap.size, 4, none⟩ = some (.slice none 0 0) := (B9.cell 4).trans rfl
                    have t5 : World.cell? _ ⟨w.heap.size, 5, none⟩ = some (.string (bs [])) := (B9.cell 5).trans rfl
                    go_wp2
                    refine bodyPost_ret (v := .tuple #[pduV 0 false 0 (.slice none 0 0) (.slice none 0 0) [], .int .i64 0, .int .i64 4]) (by simp [results, Tryz.results48, go_sem, pduV, t0, t1, t2, t3, t4, t5]; rfl) rfl ?_
                    refine ⟨_, _, by rw [HRf.out]; rfl, by rw [HRf.out]; exact sl_nil _ _, by rw [HRf.out]; exact sl_nil _ _, ?_⟩
                    iterate 6 refine below_setc ?_ (Nat.le_refl w.heap.size) _ _
                    exact b9
                  · have HRf := hid (show readP s mode = _ by rw [HR5.out, if_neg hbig])
                    have hdb : decide ((100000 : Int) < (D : Int)) = false := decide_eq_false (by omega)
                    have y0 : World.cell? _ ⟨p, 0, none⟩ = some (.int .i64 H.op) := (BP9.cell 0).trans rfl
                    have y1 : World.cell? _ ⟨p, 1, none⟩ = some (.bool H.now) := (BP9.cell 1).trans rfl
                    have y2 : World.cell? _ ⟨p, 2, none⟩ = some (.int .i64 H.flags) := (BP9.cell 2).trans rfl
                    have y3 : World.cell? _ ⟨p, 3, none⟩ = some (.slice ha H.vals.length hc) := (BP9.cell 3).trans rfl
                    have v0 := B9.free 0
                    have v1 := B9.free 1
                    have v2 := B9.free 2
                    have v3 := B9.free 3
                    have v4 := B9.free 4
                    have v5 := B9.free 5
                    have t0 : World.cell? _ ⟨w.heap.size, 0, none⟩ = some (.int .i64 0) := (B9.cell 0).trans rfl
                    have t1 : World.cell? _ ⟨w.heap.size, 1, none⟩ = some (.bool false) := (B9.cell 1).trans rfl
                    have t2 : World.cell? _ ⟨w.heap.size, 2, none⟩ = some (.int .i64 0) := (B9.cell 2).trans rfl
                    have t3 : World.cell? _ ⟨w.heap.size, 3, none⟩ = some (.slice none 0 0) := (B9.cell 3).trans rfl
                    have t4 : World.cell? _ ⟨w.heap.size, 4, none⟩ = some (.slice none 0 0) := (B9.cell 4).trans rfl
                    have t5 : World.cell? _ ⟨w.heap.size, 5, none⟩ = some (.string (bs [])) := (B9.cell 5).trans rfl
                    go_wp2
                    have hvh := vals_far HSL9.out B9
                    have hah := ahs_far HSA9.out B9
                    refine bodyPost_ret (v := .tuple #[pduV H.op H.now H.flags (.slice ha H.vals.length hc) (.slice aa AL.length ac) (R.take D), .int .i64 (all : Int), .int .i64 0]) (by simp [results, Tryz.results48, go_sem, pduV, t0, t1, t2, t3, t4, t5, y0, y1, y2, y3]; try rfl) rfl ?_
                    have hs1 := sl_set (sl_set (sl_set (sl_set (sl_set (sl_set HSL9.out w.heap.size 0 (.int .i64 H.op) hvh) w.heap.size 1 (.bool H.now) hvh) w.heap.size 2 (.int .i64 H.flags) hvh) w.heap.size 3 (.slice ha H.vals.length hc) hvh) w.heap.size 4 (.slice aa AL.length ac) hvh) w.heap.size 5 (.string (bs (R.take D))) hvh
                    have hs2 := sl_set (sl_set (sl_set (sl_set (sl_set (sl_set HSA9.out w.heap.size 0 (.int .i64 H.op) hah) w.heap.size 1 (.bool H.now) hah) w.heap.size 2 (.int .i64 H.flags) hah) w.heap.size 3 (.slice ha H.vals.length hc) hah) w.heap.size 4 (.slice aa AL.length ac) hah) w.heap.size 5 (.string (bs (R.take D))) hah
                    refine ⟨_, _, by rw [HRf.out]; rfl, by rw [HRf.out]; exact hs1, by rw [HRf.out]; exact hs2, ?_⟩
                    iterate 6 refine below_setc ?_ (Nat.le_refl w.heap.size) _ _
                    exact b9
              | true =>
                have hk1 : K < R.length := by
                  have := of_decide_eq_true hq4
                  omega
                have hk2 : ¬ R.length ≤ K := by omega
                have hKl : K ≤ R.length := by omega
                have slRK : ∀ W, (Instr.slice 9 (.string (bs R)) none (some (.int .i64 (K : Int))) none).run Tryz.prog W = .ok (.string (bs (R.take K))) W := fun W => str_to R K hKl (by omega) W
                have slRR : ∀ W, (Instr.slice 9 (.string (bs R)) (some (.int .i64 (K : Int))) none none).run Tryz.prog W = .ok (.string (bs (R.drop K))) W := fun W => str_from R K hKl (by omega) W
                have cd := fun w1 => hid (rdig_bs (R.take K) w1 (by simp; omega))
                obtain ⟨g2, hg2'⟩ : ∃ g, (digL (R.take K) == R.drop K) = g := ⟨_, rfl⟩
                have hg2 : (R.drop K == digL (R.take K)) = g2 := by rw [← hg2', Bool.eq_iff_iff, beq_iff_eq, beq_iff_eq]; exact eq_comm
                refine wpIn_wide (n := 4).1 ?_
                refine region_guard (aF := ?kAbF) [(93, .string (bs R)), (94, .int .i64 (R.length : Int)), (95, .int .i64 (K : Int)), (96, .bool true), (97, .bool true), (98, .string (bs R)), (99, .int .i64 (K : Int)), (100, .string (bs (R.drop K))), (101, .string (bs R)), (102, .int .i64 (K : Int)), (103, .string (bs (R.take K))), (104, .string (bs (digL (R.take K)))), (105, .bool (!g2)), (106, .bool (!g2))] (fun W => Below W8.heap.size W8 W) ?kBbF hmx (by kernel_rfl) (by kernel_rfl) (Below.refl _ _).drew ?kCbF ?kDbF
                case kBbF =>
                  simp only [putAll, List.foldl_cons, List.foldl_nil, List.setIfInBounds_toArray, List.set_cons_zero, List.set_cons_succ]
                  exact rfl
                case kCbF =>
                  refine ⟨?_, ?_, ?_, ?_, ?_, ?_, ?_, ?_, ?_, ?_, ?_, ?_, ?_, ?_, trivial⟩
                  all_goals refine ⟨fun d hd => by simp at hd <;> (subst hd; simp), ?_⟩
                  all_goals first
                    | refine .inl ⟨by first | exact trivial | exact ⟨by simp, rfl⟩, fun W h => ⟨?_, ?_⟩⟩
                    | refine .inr ⟨⟨by simp, rfl⟩, fun d hd => by simp at hd <;> (subst hd; rfl), fun W h f hf => by first | (simp [go_sem, Oper.about] at hf; done) | trivial⟩
                  all_goals first
                    | (simp [go_sem, Oper.about]; done)
                    | (simp [go_sem, Oper.about]; exact trivial)
                    | skip
                  all_goals first
                    | (simp [OpInv, go_sem, h, hk1, hk2, hq4, hg2, slRK, slRR]; done)
                    | skip
                  all_goals
                    have hc := (cd W).out
                    simp [OpInv, go_sem]
                    refine callsIn_wide.2 (hc.mono ?_)
                    rintro e w7 ⟨rfl, hb⟩
                    exact ⟨_, rfl, rfl, h.trans (hb.mono h.size)⟩
                case kDbF =>
                  intro W9 hW9
                  have BP9 := BP8.below hW9
                  have B9 := B8.below hW9
                  have b9 := b8.trans (hW9.mono b8.size)
                  have HSL9 := hid (HSL8.out.below (Nat.le_refl _) hW9)
                  have HSA9 := hid (HSA8.out.below (by omega) hW9)
                  gi_wp2
                  cases g2 with
                  | false =>
                    have HRf := hid (show readP s mode = rdNo 13 by rw [HR4.out, if_pos (by rw [hq4', hg2']; rfl)])
                    have v0 := B9.free 0
                    have v1 := B9.free 1
                    have v2 := B9.free 2
                    have v3 := B9.free 3
                    have v4 := B9.free 4
                    have v5 := B9.free 5
                    have t0 : World.cell? _ ⟨w.heap.size, 0, none⟩ = some (.int .i64 0) := (B9.cell 0).trans rfl
                    have t1 : World.cell? _ ⟨w.heap.size, 1, none⟩ = some (.bool false) := (B9.cell 1).trans rfl
                    have t2 : World.cell? _ ⟨w.heap.size, 2, none⟩ = some (.int .i64 0) := (B9.cell 2).trans rfl
                    have t3 : World.cell? _ ⟨w.heap.size, 3, none⟩ = some (.slice none 0 0) := (B9.cell 3).trans rfl
                    have t4 : World.cell? _ ⟨w.heap.size, 4, none⟩ = some (.slice none 0 0) := (B9.cell 4).trans rfl
                    have t5 : World.cell? _ ⟨w.heap.size, 5, none⟩ = some (.string (bs [])) := (B9.cell 5).trans rfl
                    go_wp2
                    refine bodyPost_ret (v := .tuple #[pduV 0 false 0 (.slice none 0 0) (.slice none 0 0) [], .int .i64 0, .int .i64 13]) (by simp [results, Tryz.results48, go_sem, pduV, t0, t1, t2, t3, t4, t5]; rfl) rfl ?_
                    refine ⟨_, _, by rw [HRf.out]; rfl, by rw [HRf.out]; exact sl_nil _ _, by rw [HRf.out]; exact sl_nil _ _, ?_⟩
                    iterate 6 refine below_setc ?_ (Nat.le_refl w.heap.size) _ _
                    exact b9
                  | true =>
                    have HR5 := hid (show readP s mode = _ by rw [HR4.out, if_neg (by rw [hq4', hg2']; simp)])
                    by_cases hbig : 100000 < D
                    · have HRf := hid (show readP s mode = rdNo 4 by rw [HR5.out, if_pos hbig])
                      have hdb : decide ((100000 : Int) < (D : Int)) = true := decide_eq_true (by omega)
                      have v0 := B9.free 0
                      have v1 := B9.free 1
                      have v2 := B9.free 2
                      have v3 := B9.free 3
                      have v4 := B9.free 4
                      have v5 := B9.free 5
                      have t0 : World.cell? _ ⟨w.heap.size, 0, none⟩ = some (.int .i64 0) := (B9.cell 0).trans rfl
                      have t1 : World.cell? _ ⟨w.heap.size, 1, none⟩ = some (.bool false) := (B9.cell 1).trans rfl
                      have t2 : World.cell? _ ⟨w.heap.size, 2, none⟩ = some (.int .i64 0) := (B9.cell 2).trans rfl
                      have t3 : World.cell? _ ⟨w.heap.size, 3, none⟩ = some (.slice none 0 0) := (B9.cell 3).trans rfl
                      have t4 : World.cell? _ ⟨w.heap.size, 4, none⟩ = some (.slice none 0 0) := (B9.cell 4).trans rfl
                      have t5 : World.cell? _ ⟨w.heap.size, 5, none⟩ = some (.string (bs [])) := (B9.cell 5).trans rfl
                      go_wp2
                      refine bodyPost_ret (v := .tuple #[pduV 0 false 0 (.slice none 0 0) (.slice none 0 0) [], .int .i64 0, .int .i64 4]) (by simp [results, Tryz.results48, go_sem, pduV, t0, t1, t2, t3, t4, t5]; rfl) rfl ?_
                      refine ⟨_, _, by rw [HRf.out]; rfl, by rw [HRf.out]; exact sl_nil _ _, by rw [HRf.out]; exact sl_nil _ _, ?_⟩
                      iterate 6 refine below_setc ?_ (Nat.le_refl w.heap.size) _ _
                      exact b9
                    · have HRf := hid (show readP s mode = _ by rw [HR5.out, if_neg hbig])
                      have hdb : decide ((100000 : Int) < (D : Int)) = false := decide_eq_false (by omega)
                      have y0 : World.cell? _ ⟨p, 0, none⟩ = some (.int .i64 H.op) := (BP9.cell 0).trans rfl
                      have y1 : World.cell? _ ⟨p, 1, none⟩ = some (.bool H.now) := (BP9.cell 1).trans rfl
                      have y2 : World.cell? _ ⟨p, 2, none⟩ = some (.int .i64 H.flags) := (BP9.cell 2).trans rfl
                      have y3 : World.cell? _ ⟨p, 3, none⟩ = some (.slice ha H.vals.length hc) := (BP9.cell 3).trans rfl
                      have v0 := B9.free 0
                      have v1 := B9.free 1
                      have v2 := B9.free 2
                      have v3 := B9.free 3
                      have v4 := B9.free 4
                      have v5 := B9.free 5
                      have t0 : World.cell? _ ⟨w.heap.size, 0, none⟩ = some (.int .i64 0) := (B9.cell 0).trans rfl
                      have t1 : World.cell? _ ⟨w.heap.size, 1, none⟩ = some (.bool false) := (B9.cell 1).trans rfl
                      have t2 : World.cell? _ ⟨w.heap.size, 2, none⟩ = some (.int .i64 0) := (B9.cell 2).trans rfl
                      have t3 : World.cell? _ ⟨w.heap.size, 3, none⟩ = some (.slice none 0 0) := (B9.cell 3).trans rfl
                      have t4 : World.cell? _ ⟨w.heap.size, 4, none⟩ = some (.slice none 0 0) := (B9.cell 4).trans rfl
                      have t5 : World.cell? _ ⟨w.heap.size, 5, none⟩ = some (.string (bs [])) := (B9.cell 5).trans rfl
                      go_wp2
                      have hvh := vals_far HSL9.out B9
                      have hah := ahs_far HSA9.out B9
                      refine bodyPost_ret (v := .tuple #[pduV H.op H.now H.flags (.slice ha H.vals.length hc) (.slice aa AL.length ac) (R.take D), .int .i64 (all : Int), .int .i64 0]) (by simp [results, Tryz.results48, go_sem, pduV, t0, t1, t2, t3, t4, t5, y0, y1, y2, y3]; try rfl) rfl ?_
                      have hs1 := sl_set (sl_set (sl_set (sl_set (sl_set (sl_set HSL9.out w.heap.size 0 (.int .i64 H.op) hvh) w.heap.size 1 (.bool H.now) hvh) w.heap.size 2 (.int .i64 H.flags) hvh) w.heap.size 3 (.slice ha H.vals.length hc) hvh) w.heap.size 4 (.slice aa AL.length ac) hvh) w.heap.size 5 (.string (bs (R.take D))) hvh
                      have hs2 := sl_set (sl_set (sl_set (sl_set (sl_set (sl_set HSA9.out w.heap.size 0 (.int .i64 H.op) hah) w.heap.size 1 (.bool H.now) hah) w.heap.size 2 (.int .i64 H.flags) hah) w.heap.size 3 (.slice ha H.vals.length hc) hah) w.heap.size 4 (.slice aa AL.length ac) hah) w.heap.size 5 (.string (bs (R.take D))) hah
                      refine ⟨_, _, by rw [HRf.out]; rfl, by rw [HRf.out]; exact hs1, by rw [HRf.out]; exact hs2, ?_⟩
                      iterate 6 refine below_setc ?_ (Nat.le_refl w.heap.size) _ _
                      exact b9
            · have HRf := hid (show readP s mode = rdNo (unpadE R (D : Int)) by rw [HR3.out, if_pos hU])
              refine ((cU1 hU) _).out.mono ?_
              rintro e W8 ⟨rfl, hb8⟩
              have B8 := B7.below hb8
              have b8 := b7.trans (hb8.mono b7.size)
              have hEb : (((unpadE R (D : Int) : Nat) : Int) == 0) = false := by rw [beq_eq_false_iff_ne]; omega
              have v0 := B8.free 0
              have v1 := B8.free 1
              have v2 := B8.free 2
              have v3 := B8.free 3
              have v4 := B8.free 4
              have v5 := B8.free 5
              have t0 : World.cell? _ ⟨w.heap.size, 0, none⟩ = some (.int .i64 0) := (B8.cell 0).trans rfl
              have t1 : World.cell? _ ⟨w.heap.size, 1, none⟩ = some (.bool false) := (B8.cell 1).trans rfl
              have t2 : World.cell? _ ⟨w.heap.size, 2, none⟩ = some (.int .i64 0) := (B8.cell 2).trans rfl
              have t3 : World.cell? _ ⟨w.heap.size, 3, none⟩ = some (.slice none 0 0) := (B8.cell 3).trans rfl
              have t4 : World.cell? _ ⟨w.heap.size, 4, none⟩ = some (.slice none 0 0) := (B8.cell 4).trans rfl
              have t5 : World.cell? _ ⟨w.heap.size, 5, none⟩ = some (.string (bs [])) := (B8.cell 5).trans rfl
              go_wp2
              refine bodyPost_ret (v := .tuple #[pduV 0 false 0 (.slice none 0 0) (.slice none 0 0) [], .int .i64 0, .int .i64 (unpadE R (D : Int) : Nat)]) (by simp [results, Tryz.results48, go_sem, pduV, t0, t1, t2, t3, t4, t5]; rfl) rfl ?_
              refine ⟨_, _, by rw [HRf.out]; rfl, by rw [HRf.out]; exact sl_nil _ _, by rw [HRf.out]; exact sl_nil _ _, ?_⟩
              iterate 6 refine below_setc ?_ (Nat.le_refl w.heap.size) _ _
              exact b8
          · have HRf := hid (show readP s mode = rdNo ae by rw [HR2.out, if_pos hae])
            have hzd : decide (ae = 0) = false := decide_eq_false hae
            rw [hzd]
            go_wp2_with fail
            refine wpIn_wide (n := 4).1 ?_
            refine region_inv (aF := ?kAfF) [(79, .agg #[.int .i64 0, .bool false, .int .i64 0, .slice none 0 0, .slice none 0 0, .string (bs [])]), (80, .pointer (some ⟨f, 0, none⟩)), (81, .int .i64 (ae : Nat)), (5, .int .i64 0), (6, .int .i64 (ae : Nat))] (fun W => Blk W f 72 #[.int .i64 (ae : Nat), .int .i64 ap] ∧ Blk W w.heap.size 40 #[.int .i64 0, .bool false, .int .i64 0, .slice none 0 0, .slice none 0 0, .string (bs [])] ∧ Below w.heap.size w W) ?kBfF hmx (by kernel_rfl) (by kernel_rfl) ⟨F7, B7, b7.drew⟩ ?kCfF ?kDfF
            case kBfF =>
              simp only [putAll, List.foldl_cons, List.foldl_nil, List.setIfInBounds_toArray, List.set_cons_zero, List.set_cons_succ]
              exact rfl
            case kCfF =>
              refine ⟨?_, ?_, ?_, ?_, ?_, ?_, trivial⟩
              all_goals refine ⟨fun d hd => by simp at hd <;> (subst hd; simp), fun W h => ⟨by simp [go_sem, Oper.about], ?_⟩⟩
              all_goals obtain ⟨hF, hR, hbW⟩ := h
              all_goals
                have f0 : W.cell? ⟨f, 0, none⟩ = some (.int .i64 (ae : Nat)) := (hF.cell 0).trans rfl
                have v0 := hR.free 0
                have v1 := hR.free 1
                have v2 := hR.free 2
                have v3 := hR.free 3
                have v4 := hR.free 4
                have v5 := hR.free 5
                have t0 : World.cell? _ ⟨w.heap.size, 0, none⟩ = some (.int .i64 0) := (hR.cell 0).trans rfl
                have t1 : World.cell? _ ⟨w.heap.size, 1, none⟩ = some (.bool false) := (hR.cell 1).trans rfl
                have t2 : World.cell? _ ⟨w.heap.size, 2, none⟩ = some (.int .i64 0) := (hR.cell 2).trans rfl
                have t3 : World.cell? _ ⟨w.heap.size, 3, none⟩ = some (.slice none 0 0) := (hR.cell 3).trans rfl
                have t4 : World.cell? _ ⟨w.heap.size, 4, none⟩ = some (.slice none 0 0) := (hR.cell 4).trans rfl
                have t5 : World.cell? _ ⟨w.heap.size, 5, none⟩ = some (.string (bs [])) := (hR.cell 5).trans rfl
              all_goals first
                | (simp [OpInv, go_sem, hF, hR, hbW]; done)
                | (simp [OpInv, go_sem, f0, hF, hR, hbW]; done)
                | (simp [OpInv, go_sem]; exact ⟨rfl, hF, hR, hbW⟩)
                | skip
              all_goals
                have hR2 := (((((hR.set 0 (.int .i64 0)).set 1 (.bool false)).set 2 (.int .i64 0)).set 3 (.slice none 0 0)).set 4 (.slice none 0 0)).set 5 (.string (bs []))
                have hF2 := blk_off (blk_off (blk_off (blk_off (blk_off (blk_off hF 0 (.int .i64 0) hfh) 1 (.bool false) hfh) 2 (.int .i64 0) hfh) 3 (.slice none 0 0) hfh) 4 (.slice none 0 0) hfh) 5 (.string (bs [])) hfh
                simp [OpInv, go_sem, t0, t1, t2, t3, t4, t5, v0, v1, v2, v3, v4, v5]
                exact ⟨hF2, hR2, below_setc (below_setc (below_setc (below_setc (below_setc (below_setc hbW (Nat.le_refl _) _ _) (Nat.le_refl _) _ _) (Nat.le_refl _) _ _) (Nat.le_refl _) _ _) (Nat.le_refl _) _ _) (Nat.le_refl _) _ _⟩
            case kDfF =>
              rintro W ⟨hF, hR, hbW⟩
              have v0 := hR.free 0
              have v1 := hR.free 1
              have v2 := hR.free 2
              have v3 := hR.free 3
              have v4 := hR.free 4
              have v5 := hR.free 5
              have t0 : World.cell? _ ⟨w.heap.size, 0, none⟩ = some (.int .i64 0) := (hR.cell 0).trans rfl
              have t1 : World.cell? _ ⟨w.heap.size, 1, none⟩ = some (.bool false) := (hR.cell 1).trans rfl
              have t2 : World.cell? _ ⟨w.heap.size, 2, none⟩ = some (.int .i64 0) := (hR.cell 2).trans rfl
              have t3 : World.cell? _ ⟨w.heap.size, 3, none⟩ = some (.slice none 0 0) := (hR.cell 3).trans rfl
              have t4 : World.cell? _ ⟨w.heap.size, 4, none⟩ = some (.slice none 0 0) := (hR.cell 4).trans rfl
              have t5 : World.cell? _ ⟨w.heap.size, 5, none⟩ = some (.string (bs [])) := (hR.cell 5).trans rfl
              gi_wp2
              go_wp2
              refine bodyPost_ret (v := .tuple #[pduV 0 false 0 (.slice none 0 0) (.slice none 0 0) [], .int .i64 0, .int .i64 (ae : Nat)]) (by simp [results, Tryz.results48, go_sem, pduV, t0, t1, t2, t3, t4, t5]; try rfl) rfl ?_
              exact ⟨_, _, by rw [HRf.out]; rfl, by rw [HRf.out]; exact sl_nil _ _, by rw [HRf.out]; exact sl_nil _ _, hbW⟩
        · have HRf := hid (show readP s mode = rdNo H.e by rw [HR1.out, if_pos hHe])
          have hEb : ((H.e : Int) == 0) = false := by rw [beq_eq_false_iff_ne]; omega
          have v0 := B4.free 0
          have v1 := B4.free 1
          have v2 := B4.free 2
          have v3 := B4.free 3
          have v4 := B4.free 4
          have v5 := B4.free 5
          have t0 : World.cell? _ ⟨w.heap.size, 0, none⟩ = some (.int .i64 0) := (B4.cell 0).trans rfl
          have t1 : World.cell? _ ⟨w.heap.size, 1, none⟩ = some (.bool false) := (B4.cell 1).trans rfl
          have t2 : World.cell? _ ⟨w.heap.size, 2, none⟩ = some (.int .i64 0) := (B4.cell 2).trans rfl
          have t3 : World.cell? _ ⟨w.heap.size, 3, none⟩ = some (.slice none 0 0) := (B4.cell 3).trans rfl
          have t4 : World.cell? _ ⟨w.heap.size, 4, none⟩ = some (.slice none 0 0) := (B4.cell 4).trans rfl
          have t5 : World.cell? _ ⟨w.heap.size, 5, none⟩ = some (.string (bs [])) := (B4.cell 5).trans rfl
          go_wp2
          refine bodyPost_ret (v := .tuple #[pduV 0 false 0 (.slice none 0 0) (.slice none 0 0) [], .int .i64 0, .int .i64 (H.e : Nat)]) (by simp [results, Tryz.results48, go_sem, pduV, t0, t1, t2, t3, t4, t5]; rfl) rfl ?_
          refine ⟨_, _, by rw [HRf.out]; rfl, by rw [HRf.out]; exact sl_nil _ _, by rw [HRf.out]; exact sl_nil _ _, ?_⟩
          iterate 6 refine below_setc ?_ (Nat.le_refl w.heap.size) _ _
          exact b4
      · obtain ⟨AT, hAT⟩ : ∃ AT, AT = E0 + 4 := ⟨_, rfl⟩
        have hRe : restL s true q2 = (s.take (allN s true q2)).drop AT := by rw [HRL.out, hAT]; rfl
        have hrp := HRP.out
        rw [hRe] at hrp
        have hal := HALL.out
        have hRla : ((s.take (allN s true q2)).drop AT).length = K + if (q2 && decide (0 < D)) = true then 4 else 0 := by
          rw [List.length_drop, List.length_take, Nat.min_eq_left (by omega), hal, hK, hAT]
          simp only [if_true]
          omega
        generalize allN s true q2 = all at *
        have hE048 : 48 ≤ E0 := by have h := HE0.out; omega
        have hEa : AT ≤ all := by
          have h := HALL.out
          simp only [if_true, Bool.false_eq_true, if_false] at h
          omega
        have hE0a : E0 ≤ all := by omega
        have hals : all ≤ s.length := by omega
        have hSl : (s.take all).length = all := by rw [List.length_take]; omega
        have hS4l : 4 < (s.take all).length := by omega
        have hS4 : (s.take all)[4]'hS4l = x4 := by rw [List.getElem_take]; exact hx4
        have hSA : (s.take all).take E0 = s.take E0 := by rw [List.take_take, Nat.min_eq_left hE0a]
        have hS48 : (s.take all).take 48 = s.take 48 := by rw [List.take_take, Nat.min_eq_left (by omega)]
        clear hal hRe
        have slS : ∀ W, (Instr.slice 9 (.string (bs s)) none (some (.int .i64 (all : Int))) none).run Tryz.prog W = .ok (.string (bs (s.take all))) W := fun W => str_to s all (by omega) (by omega) W
        have slE : ∀ W, (Instr.slice 9 (.string (bs (s.take all))) (some (.int .i64 (E0 : Int))) none none).run Tryz.prog W = .ok (.string (bs ((s.take all).drop E0))) W := fun W => str_from (s.take all) E0 (by omega) (by omega) W
        have sl48 : ∀ W, (Instr.slice 9 (.string (bs (s.take all))) none (some (.int .i64 48)) none).run Tryz.prog W = .ok (.string (bs (s.take 48))) W := fun W => by
          rw [← hS48]; exact str_to (s.take all) 48 (by omega) (by omega) W
        have slX : ∀ W, (Instr.slice 9 (.string (bs (s.take all))) (some (.int .i64 48)) (some (.int .i64 (E0 : Int))) none).run Tryz.prog W = .ok (.string (bs ((s.take E0).drop 48))) W := fun W => by
          have := str_ab (s.take all) 48 E0 (by omega) (by omega) (by omega) W
          rwa [hSA] at this
        have slA : ∀ W, (Instr.slice 9 (.string (bs (s.take all))) none (some (.int .i64 (E0 : Int))) none).run Tryz.prog W = .ok (.string (bs (s.take E0))) W := fun W => by
          rw [← hSA]; exact str_to (s.take all) E0 (by omega) (by omega) W
        have hG : ((s.take all).drop E0).take 4 = (s.drop E0).take 4 := by
          rw [← take_drop_sub s E0 (E0 + 4) 4 all rfl (by omega), List.drop_take, Nat.add_sub_cancel_left]
        have hGD : ((s.take all).drop E0).drop 4 = (s.take all).drop AT := by rw [List.drop_drop, hAT]
        have hRl0 : 4 ≤ ((s.take all).drop E0).length := by rw [List.length_drop, hSl]; omega
        have slG : ∀ W, (Instr.slice 9 (.string (bs ((s.take all).drop E0))) none (some (.int .i64 4)) none).run Tryz.prog W = .ok (.string (bs ((s.drop E0).take 4))) W := fun W => by
          rw [← hG]; exact str_to _ 4 hRl0 (by rw [List.length_drop, hSl]; omega) W
        have slGD : ∀ W, (Instr.slice 9 (.string (bs ((s.take all).drop E0))) (some (.int .i64 4)) none none).run Tryz.prog W = .ok (.string (bs ((s.take all).drop AT))) W := fun W => by
          rw [← hGD]; exact str_from _ 4 hRl0 (by rw [List.length_drop, hSl]; omega) W
        clear hG hGD hRl0
        generalize (s.take all).drop E0 = R0 at *
        have hR3 : ((s.take all).drop AT).length ≤ 1000000 := by rw [List.length_drop, hSl]; omega
        generalize (s.take all).drop AT = R at *
        have HQ4 := hid (show decide ((K : Int) < (R.length : Int)) = (q2 && decide (0 < D)) by
          rw [hRla]
          cases hq : (q2 && decide (0 < D))
          · rw [if_neg (by simp)]; exact decide_eq_false (by omega)
          · rw [if_pos rfl]; exact decide_eq_true (by omega))
        have cU0 := fun (h : unpadE R (D : Int) = 0) w1 => hid (show Calls Tryz.prog 79 #[.string (bs R), .int .i64 (D : Int)] w1 (fun e w' => e = .returned (.tuple #[.string (bs (R.take D)), .int .i64 (K : Int), .int .i64 0]) ∧ Below w1.heap.size w1 w') from (runpad_any R (D : Int) w1 (by omega) (by omega) (by omega)).mono (by
          rintro e w' ⟨rfl, q, rfl⟩
          exact ⟨by rw [runpadV, if_pos h, hKI]; rfl, below_drewN (Below.refl _ _) _⟩))
        have cU1 := fun (h : ¬ unpadE R (D : Int) = 0) w1 => hid (show Calls Tryz.prog 79 #[.string (bs R), .int .i64 (D : Int)] w1 (fun e w' => e = .returned (.tuple #[.string (bs []), .int .i64 0, .int .i64 (unpadE R (D : Int) : Nat)]) ∧ Below w1.heap.size w1 w') from (runpad_any R (D : Int) w1 (by omega) (by omega) (by omega)).mono (by
          rintro e w' ⟨rfl, q, rfl⟩
          exact ⟨by rw [runpadV, if_neg h], below_drewN (Below.refl _ _) _⟩))
        have HK := hid hK; have HRLA := hid hRla
        have cd1 := fun w1 => hid (rdig_bs (s.take E0) w1 (by omega))
        obtain ⟨g1, hg1'⟩ : ∃ g, (digL (s.take E0) == (s.drop E0).take 4) = g := ⟨_, rfl⟩
        rw [hg1'] at hrp
        have hg1 : ((s.drop E0).take 4 == digL (s.take E0)) = g1 := by rw [← hg1', Bool.eq_iff_iff, beq_iff_eq, beq_iff_eq]; exact eq_comm
        have HRP := hid hrp
        generalize (s.drop E0).take 4 = G4 at *
        have HAT := hid hAT
        clear hAT hg1'
        have hSi : (4 : Int) < ((s.take all).length : Int) := by omega
        clear hK hrp hRla hSA hS48
        generalize s.take all = S at *
        go_enter Tryz.func48, Tryz.ntmps48
        go_wp2_with fail
        refine (c1 _).out.mono ?_
        rintro e w2 ⟨rfl, hb2⟩
        have B2 := B1.below hb2
        have b2 := b1.trans (hb2.mono b1.size)
        go_wp2_with fail
        refine wpIn_wide (n := 4).1 ?_
        refine region_puts (aF := ?kAd) [(47, .string (bs R0)), (48, .string (bs G4)), (49, .string (bs S)), (50, .int .i64 (E0 : Int)), (51, .string (bs (s.take E0))), (52, .string (bs (digL (s.take E0)))), (53, .bool (!g1))] (fun W => Below w2.heap.size w2 W) ?kBd hmx (by kernel_rfl) (by kernel_rfl) (fun w w' h hb => h.trans (hb.mono h.size)) (Below.refl _ _).drew ?kCd ?kDd
        case kBd =>
          simp only [putAll, List.foldl_cons, List.foldl_nil, List.setIfInBounds_toArray, List.set_cons_zero, List.set_cons_succ]
          exact rfl
        case kCd =>
          have hrf : ∀ w : World, Below w.heap.size w w := fun w => Below.refl _ w
          refine ⟨?_, ?_, ?_, ?_, ?_, ?_, ?_, trivial⟩
          all_goals refine ⟨by simp, fun W h => ⟨?_, ?_⟩⟩
          all_goals first
            | (simp [go_sem, Oper.about]; done)
            | (simp [go_sem, Oper.about]; exact trivial)
            | skip
          all_goals first
            | (simp [OpTo, go_sem, hrf, slG, slA, hg1]; done)
            | skip
          all_goals
            have hc := (cd1 W).out
            simp [OpTo, go_sem]
            refine callsIn_wide.2 (hc.mono ?_)
            rintro e w7 ⟨rfl, hb⟩
            exact ⟨rfl, hb⟩
        case kDd =>
          intro w3 hW3
          have B2b := B2.below hW3
          have b2b := b2.trans (hW3.mono b2.size)
          gi_wp2
          cases g1 with
          | false =>
            have HRf := hid (show readP s mode = rdNo 15 by rw [HRP.out, if_pos (by simp)])
            have v0 := B2b.free 0
            have v1 := B2b.free 1
            have v2 := B2b.free 2
            have v3 := B2b.free 3
            have v4 := B2b.free 4
            have v5 := B2b.free 5
            have t0 : World.cell? _ ⟨w.heap.size, 0, none⟩ = some (.int .i64 0) := (B2b.cell 0).trans rfl
            have t1 : World.cell? _ ⟨w.heap.size, 1, none⟩ = some (.bool false) := (B2b.cell 1).trans rfl
            have t2 : World.cell? _ ⟨w.heap.size, 2, none⟩ = some (.int .i64 0) := (B2b.cell 2).trans rfl
            have t3 : World.cell? _ ⟨w.heap.size, 3, none⟩ = some (.slice none 0 0) := (B2b.cell 3).trans rfl
            have t4 : World.cell? _ ⟨w.heap.size, 4, none⟩ = some (.slice none 0 0) := (B2b.cell 4).trans rfl
            have t5 : World.cell? _ ⟨w.heap.size, 5, none⟩ = some (.string (bs [])) := (B2b.cell 5).trans rfl
            go_wp2
            refine bodyPost_ret (v := .tuple #[pduV 0 false 0 (.slice none 0 0) (.slice none 0 0) [], .int .i64 0, .int .i64 15]) (by simp [results, Tryz.results48, go_sem, pduV, t0, t1, t2, t3, t4, t5]; rfl) rfl ?_
            refine ⟨_, _, by rw [HRf.out]; rfl, by rw [HRf.out]; exact sl_nil _ _, by rw [HRf.out]; exact sl_nil _ _, ?_⟩
            iterate 6 refine below_setc ?_ (Nat.le_refl w.heap.size) _ _
            exact b2b
          | true =>
            have HR1 := hid (show readP s mode = _ by rw [HRP.out, if_neg (by simp)])
            go_wp2_with fail
            refine (cR _).out.mono ?_
            rintro e w4 ⟨hv, rfl, hsl, hb4⟩
            unfold headV
            have HSL := hid hsl
            obtain ⟨ha, hc, rfl, _⟩ := hsl
            have BP4 := Blk.new w4 37 #[.int .i64 H.op, .bool H.now, .int .i64 H.flags, .slice ha H.vals.length hc]
            have hA4 := (Below.refl w4.heap.size w4).alloc (Nat.le_refl _) (.cells #[.int .i64 H.op, .bool H.now, .int .i64 H.flags, .slice ha H.vals.length hc] 37)
            have B4 := (B2b.below hb4).below hA4
            have b4' := b2b.trans (hb4.mono b2b.size)
            have b4 := b4'.trans (hA4.mono b4'.size)
            have HSL4 := hid (HSL.out.below (Nat.le_refl _) hA4)
            by_cases hHe : H.e = 0
            · have hda : H.data = (D : Int) := HDat.out hHe
              have HR2 := hid (show readP s mode = _ by rw [HR1.out, if_neg (by simp [hHe])])
              rw [hda, hHe]
              go_wp2_with fail
              generalize hW5 : w4.alloc (.cells #[.int .i64 H.op, .bool H.now, .int .i64 H.flags, .slice ha H.vals.length hc] 37) = W5 at *
              generalize w4.heap.size = p at *
              clear hW5
              refine (cA _).out.mono ?_
              rintro e w6 ⟨⟨av, rfl, hsl2⟩, hb6⟩
              unfold faultV
              obtain ⟨AN, hAN⟩ : ∃ n, (if ae = 0 then AL.length else 0) = n := ⟨_, rfl⟩
              obtain ⟨AC, hAC⟩ : ∃ n, (if ae = 0 then ahsCells AL else []) = n := ⟨_, rfl⟩
              rw [hAN, hAC] at hsl2
              have HSA6 := hid hsl2
              have HAN := hid hAN
              have HAC := hid hAC
              clear hAN hAC
              obtain ⟨aa, ac, rfl, _⟩ := hsl2
              have F6 := Blk.new w6 72 #[.int .i64 (ae : Nat), .int .i64 ap]
              have hA6 := (Below.refl w6.heap.size w6).alloc (Nat.le_refl _) (.cells #[.int .i64 (ae : Nat), .int .i64 ap] 72)
              have hb6' := hb6.trans (hA6.mono hb6.size)
              go_wp2_with fail
              refine (ci ae ap _).out.mono ?_
              rintro e w7 ⟨rfl, hb7⟩
              have hb7' := hb6'.trans (hb7.mono hb6'.size)
              have F7 := F6.below hb7
              have B7 := B4.below hb7'
              have BP7 := BP4.below hb7'
              have b7 := b4.trans (hb7'.mono b4.size)
              have HSL7 := hid (HSL4.out.below (Nat.le_refl _) hb7')
              have HSA7 := hid ((HSA6.out.below (by omega) hA6).below (by omega) hb7)
              have hfh : w6.heap.size ≠ w.heap.size := Nat.ne_of_gt (B4.below hb6).lt
              generalize w6.heap.size = f at *
              by_cases hae : ae = 0
              · have HR3 := hid (show readP s mode = _ by rw [HR2.out, if_neg (by simp [hae])])
                obtain rfl : AL.length = AN := by have h := HAN.out; rw [if_pos hae] at h; exact h
                obtain rfl : ahsCells AL = AC := by have h := HAC.out; rw [if_pos hae] at h; exact h
                subst hae
                go_wp2_with fail
                by_cases hU : unpadE R (D : Int) = 0
                · have HR4 := hid (show readP s mode = _ by rw [HR3.out, if_neg (by simp [hU])])
                  refine ((cU0 hU) _).out.mono ?_
                  rintro e W8 ⟨rfl, hb8⟩
                  have BP8 := BP7.below hb8
                  have B8 := B7.below hb8
                  have b8 := b7.trans (hb8.mono b7.size)
                  have HSL8 := hid (HSL7.out.below (Nat.le_refl _) hb8)
                  have HSA8 := hid (HSA7.out.below (by omega) hb8)
                  go_wp2_with fail
                  obtain ⟨q4, hq4'⟩ : ∃ q, (q2 && decide (0 < D)) = q := ⟨_, rfl⟩
                  have hq4 := HQ4.out
                  rw [hq4'] at hq4
                  cases q4 with
                  | false =>
                    have hk1 : R.length ≤ K := by
                      have := of_decide_eq_false hq4
                      omega
                    have hk2 : ¬ K < R.length := by omega
                    have HR5 := hid (show readP s mode = _ by rw [HR4.out, if_neg (by rw [hq4']; simp)])
                    refine wpIn_wide (n := 4).1 ?_
                    refine region_guard (aF := ?kAaT) [(93, .string (bs R)), (94, .int .i64 (R.length : Int)), (95, .int .i64 (K : Int)), (96, .bool false), (97, .bool false), (98, undef), (99, undef), (100, undef), (101, undef), (102, undef), (103, undef), (104, undef), (105, undef), (106, .bool false)] (fun W => Below W8.heap.size W8 W) ?kBaT hmx (by kernel_rfl) (by kernel_rfl) (Below.refl _ _).drew ?kCaT ?kDaT
                    case kBaT =>
                      simp only [putAll, List.foldl_cons, List.foldl_nil, List.setIfInBounds_toArray, List.set_cons_zero, List.set_cons_succ]
                      exact rfl
                    case kCaT =>
                      refine ⟨?_, ?_, ?_, ?_, ?_, ?_, ?_, ?_, ?_, ?_, ?_, ?_, ?_, ?_, trivial⟩
                      all_goals refine ⟨fun d hd => by simp at hd <;> (subst hd; simp), ?_⟩
                      all_goals first
                        | refine .inl ⟨by first | exact trivial | exact ⟨by simp, rfl⟩, fun W h => ⟨?_, ?_⟩⟩
                        | refine .inr ⟨⟨by simp, rfl⟩, fun d hd => by simp at hd <;> (subst hd; rfl), fun W h f hf => by first | (simp [go_sem, Oper.about] at hf; done) | trivial⟩
                      all_goals first
                        | (simp [go_sem, Oper.about]; done)
                        | (simp [go_sem, Oper.about]; exact trivial)
                        | skip
                      all_goals first
                        | (simp [OpInv, go_sem, h, hk1, hk2, hq4]; done)
                        | skip
                    case kDaT =>
                      intro W9 hW9
                      have BP9 := BP8.below hW9
                      have B9 := B8.below hW9
                      have b9 := b8.trans (hW9.mono b8.size)
                      have HSL9 := hid (HSL8.out.below (Nat.le_refl _) hW9)
                      have HSA9 := hid (HSA8.out.below (by omega) hW9)
                      gi_wp2
                      by_cases hbig : 100000 < D
                      · have HRf := hid (show readP s mode = rdNo 4 by rw [HR5.out, if_pos hbig])
                        have hdb : decide ((100000 : Int) < (D : Int)) = true := decide_eq_true (by omega)
                        have v0 := B9.free 0
                        have v1 := B9.free 1
                        have v2 := B9.free 2
                        have v3 := B9.free 3
                        have v4 := B9.free 4
                        have v5 := B9.free 5
                        have t0 : World.cell? _ ⟨w.heap.size, 0, none⟩ = some (.int .i64 0) := (B9.cell 0).trans rfl
                        have t1 : World.cell? _ ⟨w.heap.size, 1, none⟩ = some (.bool false) := (B9.cell 1).trans rfl
                        have t2 : World.cell? _ ⟨w.heap.size, 2, none⟩ = some (.int .i64 0) := (B9.cell 2).trans rfl
                        have t3 : World.cell? _ ⟨w.heap.size, 3, none⟩ = some (.slice none 0 0) := (B9.cell 3).trans rfl
                        have t4 : World.cell? _ ⟨w.heap.size, 4, none⟩ = some (.slice none 0 0) := (B9.cell 4).trans rfl
                        have t5 : World.cell? _ ⟨w.heap.size, 5, none⟩ = some (.string (bs [])) := (B9.cell 5).trans rfl
                        go_wp2
                        refine bodyPost_ret (v := .tuple #[pduV 0 false 0 (.slice none 0 0) (.slice none 0 0) [], .int .i64 0, .int .i64 4]) (by simp [results, Tryz.results48, go_sem, pduV, t0, t1, t2, t3, t4, t5]; rfl) rfl ?_
                        refine ⟨_, _, by rw [HRf.out]; rfl, by rw [HRf.out]; exact sl_nil _ _, by rw [HRf.out]; exact sl_nil _ _, ?_⟩
                        iterate 6 refine below_setc ?_ (Nat.le_refl w.heap.size) _ _
                        exact b9
                      · have HRf := hid (show readP s mode = _ by rw [HR5.out, if_neg hbig])
                        have hdb : decide ((100000 : Int) < (D : Int)) = false := decide_eq_false (by omega)
                        have y0 : World.cell? _ ⟨p, 0, none⟩ = some (.int .i64 H.op) := (BP9.cell 0).trans rfl
                        have y1 : World.cell? _ ⟨p, 1, none⟩ = some (.bool H.now) := (BP9.cell 1).trans rfl
                        have y2 : World.cell? _ ⟨p, 2, none⟩ = some (.int .i64 H.flags) := (BP9.cell 2).trans rfl
                        have y3 : World.cell? _ ⟨p, 3, none⟩ = some (.slice ha H.vals.length hc) := (BP9.cell 3).trans rfl
                        have v0 := B9.free 0
                        have v1 := B9.free 1
                        have v2 := B9.free 2
                        have v3 := B9.free 3
                        have v4 := B9.free 4
                        have v5 := B9.free 5
                        have t0 : World.cell? _ ⟨w.heap.size, 0, none⟩ = some (.int .i64 0) := (B9.cell 0).trans rfl
                        have t1 : World.cell? _ ⟨w.heap.size, 1, none⟩ = some (.bool false) := (B9.cell 1).trans rfl
                        have t2 : World.cell? _ ⟨w.heap.size, 2, none⟩ = some (.int .i64 0) := (B9.cell 2).trans rfl
                        have t3 : World.cell? _ ⟨w.heap.size, 3, none⟩ = some (.slice none 0 0) := (B9.cell 3).trans rfl
                        have t4 : World.cell? _ ⟨w.heap.size, 4, none⟩ = some (.slice none 0 0) := (B9.cell 4).trans rfl
                        have t5 : World.cell? _ ⟨w.heap.size, 5, none⟩ = some (.string (bs [])) := (B9.cell 5).trans rfl
                        go_wp2
                        have hvh := vals_far HSL9.out B9
                        have hah := ahs_far HSA9.out B9
                        refine bodyPost_ret (v := .tuple #[pduV H.op H.now H.flags (.slice ha H.vals.length hc) (.slice aa AL.length ac) (R.take D), .int .i64 (all : Int), .int .i64 0]) (by simp [results, Tryz.results48, go_sem, pduV, t0, t1, t2, t3, t4, t5, y0, y1, y2, y3]; try rfl) rfl ?_
                        have hs1 := sl_set (sl_set (sl_set (sl_set (sl_set (sl_set HSL9.out w.heap.size 0 (.int .i64 H.op) hvh) w.heap.size 1 (.bool H.now) hvh) w.heap.size 2 (.int .i64 H.flags) hvh) w.heap.size 3 (.slice ha H.vals.length hc) hvh) w.heap.size 4 (.slice aa AL.length ac) hvh) w.heap.size 5 (.string (bs (R.take D))) hvh
                        have hs2 := sl_set (sl_set (sl_set (sl_set (sl_set (sl_set HSA9.out w.heap.size 0 (.int .i64 H.op) hah) w.heap.size 1 (.bool H.now) hah) w.heap.size 2 (.int .i64 H.flags) hah) w.heap.size 3 (.slice ha H.vals.length hc) hah) w.heap.size 4 (.slice aa AL.length ac) hah) w.heap.size 5 (.string (bs (R.take D))) hah
                        refine ⟨_, _, by rw [HRf.out]; rfl, by rw [HRf.out]; exact hs1, by rw [HRf.out]; exact hs2, ?_⟩
                        iterate 6 refine below_setc ?_ (Nat.le_refl w.heap.size) _ _
                        exact b9
                  | true =>
                    have hk1 : K < R.length := by
                      have := of_decide_eq_true hq4
                      omega
                    have hk2 : ¬ R.length ≤ K := by omega
                    have hKl : K ≤ R.length := by omega
                    have slRK : ∀ W, (Instr.slice 9 (.string (bs R)) none (some (.int .i64 (K : Int))) none).run Tryz.prog W = .ok (.string (bs (R.take K))) W := fun W => str_to R K hKl (by omega) W
                    have slRR : ∀ W, (Instr.slice 9 (.string (bs R)) (some (.int .i64 (K : Int))) none none).run Tryz.prog W = .ok (.string (bs (R.drop K))) W := fun W => str_from R K hKl (by omega) W
                    have cd := fun w1 => hid (rdig_bs (R.take K) w1 (by simp; omega))
                    obtain ⟨g2, hg2'⟩ : ∃ g, (digL (R.take K) == R.drop K) = g := ⟨_, rfl⟩
                    have hg2 : (R.drop K == digL (R.take K)) = g2 := by rw [← hg2', Bool.eq_iff_iff, beq_iff_eq, beq_iff_eq]; exact eq_comm
                    refine wpIn_wide (n := 4).1 ?_
                    refine region_guard (aF := ?kAbT) [(93, .string (bs R)), (94, .int .i64 (R.length : Int)), (95, .int .i64 (K : Int)), (96, .bool true), (97, .bool true), (98, .string (bs R)), (99, .int .i64 (K : Int)), (100, .string (bs (R.drop K))), (101, .string (bs R)), (102, .int .i64 (K : Int)), (103, .string (bs (R.take K))), (104, .string (bs (digL (R.take K)))), (105, .bool (!g2)), (106, .bool (!g2))] (fun W => Below W8.heap.size W8 W) ?kBbT hmx (by kernel_rfl) (by kernel_rfl) (Below.refl _ _).drew ?kCbT ?kDbT
                    case kBbT =>
                      simp only [putAll, List.foldl_cons, List.foldl_nil, List.setIfInBounds_toArray, List.set_cons_zero, List.set_cons_succ]
                      exact rfl
                    case kCbT =>
                      refine ⟨?_, ?_, ?_, ?_, ?_, ?_, ?_, ?_, ?_, ?_, ?_, ?_, ?_, ?_, trivial⟩
                      all_goals refine ⟨fun d hd => by simp at hd <;> (subst hd; simp), ?_⟩
                      all_goals first
                        | refine .inl ⟨by first | exact trivial | exact ⟨by simp, rfl⟩, fun W h => ⟨?_, ?_⟩⟩
                        | refine .inr ⟨⟨by simp, rfl⟩, fun d hd => by simp at hd <;> (subst hd; rfl), fun W h f hf => by first | (simp [go_sem, Oper.about] at hf; done) | trivial⟩
                      all_goals first
                        | (simp [go_sem, Oper.about]; done)
                        | (simp [go_sem, Oper.about]; exact trivial)
                        | skip
                      all_goals first
                        | (simp [OpInv, go_sem, h, hk1, hk2, hq4, hg2, slRK, slRR]; done)
                        | skip
                      all_goals
                        have hc := (cd W).out
                        simp [OpInv, go_sem]
                        refine callsIn_wide.2 (hc.mono ?_)
                        rintro e w7 ⟨rfl, hb⟩
                        exact ⟨_, rfl, rfl, h.trans (hb.mono h.size)⟩
                    case kDbT =>
                      intro W9 hW9
                      have BP9 := BP8.below hW9
                      have B9 := B8.below hW9
                      have b9 := b8.trans (hW9.mono b8.size)
                      have HSL9 := hid (HSL8.out.below (Nat.le_refl _) hW9)
                      have HSA9 := hid (HSA8.out.below (by omega) hW9)
                      gi_wp2
                      cases g2 with
                      | false =>
                        have HRf := hid (show readP s mode = rdNo 13 by rw [HR4.out, if_pos (by rw [hq4', hg2']; rfl)])
                        have v0 := B9.free 0
                        have v1 := B9.free 1
                        have v2 := B9.free 2
                        have v3 := B9.free 3
                        have v4 := B9.free 4
                        have v5 := B9.free 5
                        have t0 : World.cell? _ ⟨w.heap.size, 0, none⟩ = some (.int .i64 0) := (B9.cell 0).trans rfl
                        have t1 : World.cell? _ ⟨w.heap.size, 1, none⟩ = some (.bool false) := (B9.cell 1).trans rfl
                        have t2 : World.cell? _ ⟨w.heap.size, 2, none⟩ = some (.int .i64 0) := (B9.cell 2).trans rfl
                        have t3 : World.cell? _ ⟨w.heap.size, 3, none⟩ = some (.slice none 0 0) := (B9.cell 3).trans rfl
                        have t4 : World.cell? _ ⟨w.heap.size, 4, none⟩ = some (.slice none 0 0) := (B9.cell 4).trans rfl
                        have t5 : World.cell? _ ⟨w.heap.size, 5, none⟩ = some (.string (bs [])) := (B9.cell 5).trans rfl
                        go_wp2
                        refine bodyPost_ret (v := .tuple #[pduV 0 false 0 (.slice none 0 0) (.slice none 0 0) [], .int .i64 0, .int .i64 13]) (by simp [results, Tryz.results48, go_sem, pduV, t0, t1, t2, t3, t4, t5]; rfl) rfl ?_
                        refine ⟨_, _, by rw [HRf.out]; rfl, by rw [HRf.out]; exact sl_nil _ _, by rw [HRf.out]; exact sl_nil _ _, ?_⟩
                        iterate 6 refine below_setc ?_ (Nat.le_refl w.heap.size) _ _
                        exact b9
                      | true =>
                        have HR5 := hid (show readP s mode = _ by rw [HR4.out, if_neg (by rw [hq4', hg2']; simp)])
                        by_cases hbig : 100000 < D
                        · have HRf := hid (show readP s mode = rdNo 4 by rw [HR5.out, if_pos hbig])
                          have hdb : decide ((100000 : Int) < (D : Int)) = true := decide_eq_true (by omega)
                          have v0 := B9.free 0
                          have v1 := B9.free 1
                          have v2 := B9.free 2
                          have v3 := B9.free 3
                          have v4 := B9.free 4
                          have v5 := B9.free 5
                          have t0 : World.cell? _ ⟨w.heap.size, 0, none⟩ = some (.int .i64 0) := (B9.cell 0).trans rfl
                          have t1 : World.cell? _ ⟨w.heap.size, 1, none⟩ = some (.bool false) := (B9.cell 1).trans rfl
                          have t2 : World.cell? _ ⟨w.heap.size, 2, none⟩ = some (.int .i64 0) := (B9.cell 2).trans rfl
                          have t3 : World.cell? _ ⟨w.heap.size, 3, none⟩ = some (.slice none 0 0) := (B9.cell 3).trans rfl
                          have t4 : World.cell? _ ⟨w.heap.size, 4, none⟩ = some (.slice none 0 0) := (B9.cell 4).trans rfl
                          have t5 : World.cell? _ ⟨w.heap.size, 5, none⟩ = some (.string (bs [])) := (B9.cell 5).trans rfl
                          go_wp2
                          refine bodyPost_ret (v := .tuple #[pduV 0 false 0 (.slice none 0 0) (.slice none 0 0) [], .int .i64 0, .int .i64 4]) (by simp [results, Tryz.results48, go_sem, pduV, t0, t1, t2, t3, t4, t5]; rfl) rfl ?_
                          refine ⟨_, _, by rw [HRf.out]; rfl, by rw [HRf.out]; exact sl_nil _ _, by rw [HRf.out]; exact sl_nil _ _, ?_⟩
                          iterate 6 refine below_setc ?_ (Nat.le_refl w.heap.size) _ _
                          exact b9
                        · have HRf := hid (show readP s mode = _ by rw [HR5.out, if_neg hbig])
                          have hdb : decide ((100000 : Int) < (D : Int)) = false := decide_eq_false (by omega)
                          have y0 : World.cell? _ ⟨p, 0, none⟩ = some (.int .i64 H.op) := (BP9.cell 0).trans rfl
                          have y1 : World.cell? _ ⟨p, 1, none⟩ = some (.bool H.now) := (BP9.cell 1).trans rfl
                          have y2 : World.cell? _ ⟨p, 2, none⟩ = some (.int .i64 H.flags) := (BP9.cell 2).trans rfl
                          have y3 : World.cell? _ ⟨p, 3, none⟩ = some (.slice ha H.vals.length hc) := (BP9.cell 3).trans rfl
                          have v0 := B9.free 0
                          have v1 := B9.free 1
                          have v2 := B9.free 2
                          have v3 := B9.free 3
                          have v4 := B9.free 4
                          have v5 := B9.free 5
                          have t0 : World.cell? _ ⟨w.heap.size, 0, none⟩ = some (.int .i64 0) := (B9.cell 0).trans rfl
                          have t1 : World.cell? _ ⟨w.heap.size, 1, none⟩ = some (.bool false) := (B9.cell 1).trans rfl
                          have t2 : World.cell? _ ⟨w.heap.size, 2, none⟩ = some (.int .i64 0) := (B9.cell 2).trans rfl
                          have t3 : World.cell? _ ⟨w.heap.size, 3, none⟩ = some (.slice none 0 0) := (B9.cell 3).trans rfl
                          have t4 : World.cell? _ ⟨w.heap.size, 4, none⟩ = some (.slice none 0 0) := (B9.cell 4).trans rfl
                          have t5 : World.cell? _ ⟨w.heap.size, 5, none⟩ = some (.string (bs [])) := (B9.cell 5).trans rfl
                          go_wp2
                          have hvh := vals_far HSL9.out B9
                          have hah := ahs_far HSA9.out B9
                          refine bodyPost_ret (v := .tuple #[pduV H.op H.now H.flags (.slice ha H.vals.length hc) (.slice aa AL.length ac) (R.take D), .int .i64 (all : Int), .int .i64 0]) (by simp [results, Tryz.results48, go_sem, pduV, t0, t1, t2, t3, t4, t5, y0, y1, y2, y3]; try rfl) rfl ?_
                          have hs1 := sl_set (sl_set (sl_set (sl_set (sl_set (sl_set HSL9.out w.heap.size 0 (.int .i64 H.op) hvh) w.heap.size 1 (.bool H.now) hvh) w.heap.size 2 (.int .i64 H.flags) hvh) w.heap.size 3 (.slice ha H.vals.length hc) hvh) w.heap.size 4 (.slice aa AL.length ac) hvh) w.heap.size 5 (.string (bs (R.take D))) hvh
                          have hs2 := sl_set (sl_set (sl_set (sl_set (sl_set (sl_set HSA9.out w.heap.size 0 (.int .i64 H.op) hah) w.heap.size 1 (.bool H.now) hah) w.heap.size 2 (.int .i64 H.flags) hah) w.heap.size 3 (.slice ha H.vals.length hc) hah) w.heap.size 4 (.slice aa AL.length ac) hah) w.heap.size 5 (.string (bs (R.take D))) hah
                          refine ⟨_, _, by rw [HRf.out]; rfl, by rw [HRf.out]; exact hs1, by rw [HRf.out]; exact hs2, ?_⟩
                          iterate 6 refine below_setc ?_ (Nat.le_refl w.heap.size) _ _
                          exact b9
                · have HRf := hid (show readP s mode = rdNo (unpadE R (D : Int)) by rw [HR3.out, if_pos hU])
                  refine ((cU1 hU) _).out.mono ?_
                  rintro e W8 ⟨rfl, hb8⟩
                  have B8 := B7.below hb8
                  have b8 := b7.trans (hb8.mono b7.size)
                  have hEb : (((unpadE R (D : Int) : Nat) : Int) == 0) = false := by rw [beq_eq_false_iff_ne]; omega
                  have v0 := B8.free 0
                  have v1 := B8.free 1
                  have v2 := B8.free 2
                  have v3 := B8.free 3
                  have v4 := B8.free 4
                  have v5 := B8.free 5
                  have t0 : World.cell? _ ⟨w.heap.size, 0, none⟩ = some (.int .i64 0) := (B8.cell 0).trans rfl
                  have t1 : World.cell? _ ⟨w.heap.size, 1, none⟩ = some (.bool false) := (B8.cell 1).trans rfl
                  have t2 : World.cell? _ ⟨w.heap.size, 2, none⟩ = some (.int .i64 0) := (B8.cell 2).trans rfl
                  have t3 : World.cell? _ ⟨w.heap.size, 3, none⟩ = some (.slice none 0 0) := (B8.cell 3).trans rfl
                  have t4 : World.cell? _ ⟨w.heap.size, 4, none⟩ = some (.slice none 0 0) := (B8.cell 4).trans rfl
                  have t5 : World.cell? _ ⟨w.heap.size, 5, none⟩ = some (.string (bs [])) := (B8.cell 5).trans rfl
                  go_wp2
                  refine bodyPost_ret (v := .tuple #[pduV 0 false 0 (.slice none 0 0) (.slice none 0 0) [], .int .i64 0, .int .i64 (unpadE R (D : Int) : Nat)]) (by simp [results, Tryz.results48, go_sem, pduV, t0, t1, t2, t3, t4, t5]; rfl) rfl ?_
                  refine ⟨_, _, by rw [HRf.out]; rfl, by rw [HRf.out]; exact sl_nil _ _, by rw [HRf.out]; exact sl_nil _ _, ?_⟩
                  iterate 6 refine below_setc ?_ (Nat.le_refl w.heap.size) _ _
                  exact b8
              · have HRf := hid (show readP s mode = rdNo ae by rw [HR2.out, if_pos hae])
                have hzd : decide (ae = 0) = false := decide_eq_false hae
                rw [hzd]
                go_wp2_with fail
                refine wpIn_wide (n := 4).1 ?_
                refine region_inv (aF := ?kAfT) [(79, .agg #[.int .i64 0, .bool false, .int .i64 0, .slice none 0 0, .slice none 0 0, .string (bs [])]), (80, .pointer (some ⟨f, 0, none⟩)), (81, .int .i64 (ae : Nat)), (5, .int .i64 0), (6, .int .i64 (ae : Nat))] (fun W => Blk W f 72 #[.int .i64 (ae : Nat), .int .i64 ap] ∧ Blk W w.heap.size 40 #[.int .i64 0, .bool false, .int .i64 0, .slice none 0 0, .slice none 0 0, .string (bs [])] ∧ Below w.heap.size w W) ?kBfT hmx (by kernel_rfl) (by kernel_rfl) ⟨F7, B7, b7.drew⟩ ?kCfT ?kDfT
                case kBfT =>
                  simp only [putAll, List.foldl_cons, List.foldl_nil, List.setIfInBounds_toArray, List.set_cons_zero, List.set_cons_succ]
                  exact rfl
                case kCfT =>
                  refine ⟨?_, ?_, ?_, ?_, ?_, ?_, trivial⟩
                  all_goals refine ⟨fun d hd => by simp at hd <;> (subst hd; simp), fun W h => ⟨by simp [go_sem, Oper.about], ?_⟩⟩
                  all_goals obtain ⟨hF, hR, hbW⟩ := h
                  all_goals
                    have f0 : W.cell? ⟨f, 0, none⟩ = some (.int .i64 (ae : Nat)) := (hF.cell 0).trans rfl
                    have v0 := hR.free 0
                    have v1 := hR.free 1
                    have v2 := hR.free 2
                    have v3 := hR.free 3
                    have v4 := hR.free 4
                    have v5 := hR.free 5
                    have t0 : World.cell? _ ⟨w.heap.size, 0, none⟩ = some (.int .i64 0) := (hR.cell 0).trans rfl
                    have t1 : World.cell? _ ⟨w.heap.size, 1, none⟩ = some (.bool false) := (hR.cell 1).trans rfl
                    have t2 : World.cell? _ ⟨w.heap.size, 2, none⟩ = some (.int .i64 0) := (hR.cell 2).trans rfl
                    have t3 : World.cell? _ ⟨w.heap.size, 3, none⟩ = some (.slice none 0 0) := (hR.cell 3).trans rfl
                    have t4 : World.cell? _ ⟨w.heap.size, 4, none⟩ = some (.slice none 0 0) := (hR.cell 4).trans rfl
                    have t5 : World.cell? _ ⟨w.heap.size, 5, none⟩ = some (.string (bs [])) := (hR.cell 5).trans rfl
                  all_goals first
                    | (simp [OpInv, go_sem, hF, hR, hbW]; done)
                    | (simp [OpInv, go_sem, f0, hF, hR, hbW]; done)
                    | (simp [OpInv, go_sem]; exact ⟨rfl, hF, hR, hbW⟩)
                    | skip
                  all_goals
                    have hR2 := (((((hR.set 0 (.int .i64 0)).set 1 (.bool false)).set 2 (.int .i64 0)).set 3 (.slice none 0 0)).set 4 (.slice none 0 0)).set 5 (.string (bs []))
                    have hF2 := blk_off (blk_off (blk_off (blk_off (blk_off (blk_off hF 0 (.int .i64 0) hfh) 1 (.bool false) hfh) 2 (.int .i64 0) hfh) 3 (.slice none 0 0) hfh) 4 (.slice none 0 0) hfh) 5 (.string (bs [])) hfh
                    simp [OpInv, go_sem, t0, t1, t2, t3, t4, t5, v0, v1, v2, v3, v4, v5]
                    exact ⟨hF2, hR2, below_setc (below_setc (below_setc (below_setc (below_setc (below_setc hbW (Nat.le_refl _) _ _) (Nat.le_refl _) _ _) (Nat.le_refl _) _ _) (Nat.le_refl _) _ _) (Nat.le_refl _) _ _) (Nat.le_refl _) _ _⟩
                case kDfT =>
                  rintro W ⟨hF, hR, hbW⟩
                  have v0 := hR.free 0
                  have v1 := hR.free 1
                  have v2 := hR.free 2
                  have v3 := hR.free 3
                  have v4 := hR.free 4
                  have v5 := hR.free 5
                  have t0 : World.cell? _ ⟨w.heap.size, 0, none⟩ = some (.int .i64 0) := (hR.cell 0).trans rfl
                  have t1 : World.cell? _ ⟨w.heap.size, 1, none⟩ = some (.bool false) := (hR.cell 1).trans rfl
                  have t2 : World.cell? _ ⟨w.heap.size, 2, none⟩ = some (.int .i64 0) := (hR.cell 2).trans rfl
                  have t3 : World.cell? _ ⟨w.heap.size, 3, none⟩ = some (.slice none 0 0) := (hR.cell 3).trans rfl
                  have t4 : World.cell? _ ⟨w.heap.size, 4, none⟩ = some (.slice none 0 0) := (hR.cell 4).trans rfl
                  have t5 : World.cell? _ ⟨w.heap.size, 5, none⟩ = some (.string (bs [])) := (hR.cell 5).trans rfl
                  gi_wp2
                  go_wp2
                  refine bodyPost_ret (v := .tuple #[pduV 0 false 0 (.slice none 0 0) (.slice none 0 0) [], .int .i64 0, .int .i64 (ae : Nat)]) (by simp [results, Tryz.results48, go_sem, pduV, t0, t1, t2, t3, t4, t5]; try rfl) rfl ?_
                  exact ⟨_, _, by rw [HRf.out]; rfl, by rw [HRf.out]; exact sl_nil _ _, by rw [HRf.out]; exact sl_nil _ _, hbW⟩
            · have HRf := hid (show readP s mode = rdNo H.e by rw [HR1.out, if_pos hHe])
              have hEb : ((H.e : Int) == 0) = false := by rw [beq_eq_false_iff_ne]; omega
              have v0 := B4.free 0
              have v1 := B4.free 1
              have v2 := B4.free 2
              have v3 := B4.free 3
              have v4 := B4.free 4
              have v5 := B4.free 5
              have t0 : World.cell? _ ⟨w.heap.size, 0, none⟩ = some (.int .i64 0) := (B4.cell 0).trans rfl
              have t1 : World.cell? _ ⟨w.heap.size, 1, none⟩ = some (.bool false) := (B4.cell 1).trans rfl
              have t2 : World.cell? _ ⟨w.heap.size, 2, none⟩ = some (.int .i64 0) := (B4.cell 2).trans rfl
              have t3 : World.cell? _ ⟨w.heap.size, 3, none⟩ = some (.slice none 0 0) := (B4.cell 3).trans rfl
              have t4 : World.cell? _ ⟨w.heap.size, 4, none⟩ = some (.slice none 0 0) := (B4.cell 4).trans rfl
              have t5 : World.cell? _ ⟨w.heap.size, 5, none⟩ = some (.string (bs [])) := (B4.cell 5).trans rfl
              go_wp2
              refine bodyPost_ret (v := .tuple #[pduV 0 false 0 (.slice none 0 0) (.slice none 0 0) [], .int .i64 0, .int .i64 (H.e : Nat)]) (by simp [results, Tryz.results48, go_sem, pduV, t0, t1, t2, t3, t4, t5]; rfl) rfl ?_
              refine ⟨_, _, by rw [HRf.out]; rfl, by rw [HRf.out]; exact sl_nil _ _, by rw [HRf.out]; exact sl_nil _ _, ?_⟩
              iterate 6 refine below_setc ?_ (Nat.le_refl w.heap.size) _ _
              exact b4
  · have HRf := hid (show readP s mode = rdNo (sizeP s mode).2 by unfold readP; rw [if_pos hk0])
    generalize hsz : sizeP s mode = Z at *
    obtain ⟨z1, z2⟩ := Z
    simp only at hk0 c1 HRf
    have hEb : ((z2 : Int) == 0) = false := by rw [beq_eq_false_iff_ne]; omega
    go_enter Tryz.func48, Tryz.ntmps48
    go_wp2_with fail
    refine (c1 _).out.mono ?_
    rintro e w2 ⟨rfl, hb2⟩
    have B2 := B1.below hb2
    have b2 := b1.trans (hb2.mono b1.size)
    have v0 := B2.free 0
    have v1 := B2.free 1
    have v2 := B2.free 2
    have v3 := B2.free 3
    have v4 := B2.free 4
    have v5 := B2.free 5
    have t0 : World.cell? _ ⟨w.heap.size, 0, none⟩ = some (.int .i64 0) := (B2.cell 0).trans rfl
    have t1 : World.cell? _ ⟨w.heap.size, 1, none⟩ = some (.bool false) := (B2.cell 1).trans rfl
    have t2 : World.cell? _ ⟨w.heap.size, 2, none⟩ = some (.int .i64 0) := (B2.cell 2).trans rfl
    have t3 : World.cell? _ ⟨w.heap.size, 3, none⟩ = some (.slice none 0 0) := (B2.cell 3).trans rfl
    have t4 : World.cell? _ ⟨w.heap.size, 4, none⟩ = some (.slice none 0 0) := (B2.cell 4).trans rfl
    have t5 : World.cell? _ ⟨w.heap.size, 5, none⟩ = some (.string (bs [])) := (B2.cell 5).trans rfl
    go_wp2
    refine bodyPost_ret (v := .tuple #[pduV 0 false 0 (.slice none 0 0) (.slice none 0 0) [], .int .i64 0, .int .i64 (z2 : Nat)]) (by simp [results, Tryz.results48, go_sem, pduV, t0, t1, t2, t3, t4, t5]; rfl) rfl ?_
    refine ⟨_, _, by rw [HRf.out]; rfl, by rw [HRf.out]; exact sl_nil _ _, by rw [HRf.out]; exact sl_nil _ _, ?_⟩
    iterate 6 refine below_setc ?_ (Nat.le_refl w.heap.size) _ _
    exact b2
end
end Go.Proofs.YtfeenkofnbefaaaGreatDoor
