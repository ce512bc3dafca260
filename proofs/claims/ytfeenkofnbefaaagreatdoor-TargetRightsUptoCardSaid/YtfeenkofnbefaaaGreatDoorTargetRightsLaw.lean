/- The walk of the law TargetRights: it returns true. -/
import Derived.Test.YtfeenkofnbefaaaGreatDoorTRight
import Derived.Test.YtfeenkofnbefaaaGreatDoorTRightR
import Derived.Test.YtfeenkofnbefaaaGreatDoorTList
import Derived.Test.YtfeenkofnbefaaaGreatDoorTCrowd
import Derived.Test.YtfeenkofnbefaaaGreatDoorConf
import Derived.Test.YtfeenkofnbefaaaGreatDoorPairVal
import Derived.Deep.RegionHeld3
set_option linter.unusedSectionVars false
set_option linter.unusedSimpArgs false
set_option linter.unusedVariables false
namespace Go.Proofs.YtfeenkofnbefaaaGreatDoor
open Go Go.RowKit
set_option linter.unusedVariables false
set_option linter.unusedSectionVars false
set_option linter.unusedSimpArgs false
set_option maxRecDepth 100000
section
variable (ta ga ua oa : Option Addr) (tc gc uc oc : Nat) (ts : List (List UInt8)) (gs : GL) (us : PL) (sn ss : List UInt8) (lim : Int) (own : PL) (name : List UInt8) (all : Bool) (w : World)
  (C : ConfIn w ts gs us sn ss lim own (.slice ta ts.length tc) (.slice ga gs.length gc) (.slice ua us.length uc) (.slice oa own.length oc))
  (hname : name.length ≤ 9223372036854775807) (hg : EType w) (hT : AS w) (hev : EV w) (hP : PT w)
include C hname hg hT hev hP
set_option maxHeartbeats 16000000 in
theorem targetRights_law : Calls Tryz.prog 4 #[confV (.slice ta ts.length tc) (.slice ga gs.length gc) (.slice ua us.length uc) (.slice oa own.length oc) sn ss lim, .string (bs name), .bool all] w fun e w' => e = .returned (.bool true) ∧ Below w.heap.size w w' := by
  obtain ⟨W1, hW1⟩ : ∃ W1, w.alloc (.cells #[.slice ta ts.length tc, .slice ga gs.length gc, .slice ua us.length uc, .string (bs sn), .string (bs ss), .int .i64 lim, .slice oa own.length oc] 63) = W1 := ⟨_, rfl⟩
  have b1 : Below w.heap.size w W1 := by rw [← hW1]; exact (Below.refl _ _).alloc (Nat.le_refl _) _
  have t0 : W1.cell? ⟨w.heap.size, 0, none⟩ = some (.slice ta ts.length tc) := by rw [← hW1]; simp
  have t1 : W1.cell? ⟨w.heap.size, 1, none⟩ = some (.slice ga gs.length gc) := by rw [← hW1]; simp
  have t2 : W1.cell? ⟨w.heap.size, 2, none⟩ = some (.slice ua us.length uc) := by rw [← hW1]; simp
  have t3 : W1.cell? ⟨w.heap.size, 3, none⟩ = some (.string (bs sn)) := by rw [← hW1]; simp
  have t4 : W1.cell? ⟨w.heap.size, 4, none⟩ = some (.string (bs ss)) := by rw [← hW1]; simp
  have t5 : W1.cell? ⟨w.heap.size, 5, none⟩ = some (.int .i64 lim) := by rw [← hW1]; simp
  have t6 : W1.cell? ⟨w.heap.size, 6, none⟩ = some (.slice oa own.length oc) := by rw [← hW1]; simp
  have z1 : W1.heap.size = w.heap.size + 1 := by rw [← hW1]; simp
  have HC := hid C
  have cc := fun W (hb : Below w.heap.size w W) => hid (crowded_any ta ga ua oa tc gc uc oc ts gs us sn ss lim own W (C.below hb))
  unfold confV at cc ⊢
  cases hcr : crowdB ts gs us sn ss own with
  | true =>
    rw [hcr] at cc
    clear C
    go_enter Tryz.func4, Tryz.ntmps4
    go_wp2_with fail
    refine (cc _ b1).out.mono ?_
    rintro e w2 ⟨rfl, hb2⟩
    go_wp2
    go_ret
    exact ⟨rfl, b1.trans (hb2.mono b1.size)⟩
  | false =>
    rw [hcr] at cc
    by_cases h300 : 300 < name.length
    · have h3b : decide ((300 : Int) < (name.length : Int)) = true := decide_eq_true (by omega)
      clear C h300
      go_enter Tryz.func4, Tryz.ntmps4
      go_wp2_with fail
      refine (cc _ b1).out.mono ?_
      rintro e w2 ⟨rfl, hb2⟩
      go_wp2
      go_ret
      exact ⟨rfl, b1.trans (hb2.mono b1.size)⟩
    have h3b : decide ((300 : Int) < (name.length : Int)) = false := decide_eq_false (by omega)
    have hcw : confT ts gs us sn ss ≤ 2500 ∧ totS szP own ≤ 4000 := by
      unfold crowdB at hcr
      rw [Bool.or_eq_false_iff, decide_eq_false_iff_not, decide_eq_false_iff_not] at hcr
      omega
    have hts : ts.length ≤ 2500 := by
      have h1 := totS_len szT ts (fun x => by unfold szT; omega)
      have h2 := hcw.1
      unfold confT at h2
      omega
    have hgs : gs.length ≤ 2500 := by
      have h1 := totS_len szG gs (fun x => by unfold szG; omega)
      have h2 := hcw.1
      unfold confT at h2
      omega
    have hon : own.length ≤ 100000 := by
      have h1 := totS_len szP own (fun x => by unfold szP; omega)
      omega
    have hsz : ∀ k, (own.getD k ([], [])).2.length ≤ 100000 := fun k => by
      rcases Nat.lt_or_ge k own.length with hk | hk
      · have h1 := totS_at szP own k ([], []) hk
        unfold szP at h1 hcw
        omega
      · rw [List.getD, List.getElem?_eq_none hk]; simp
    have cT := fun W (hb : Below w.heap.size w W) => hid (targets_any_t ta ga ua oa tc gc uc oc ts gs us sn ss lim own name all W (C.below hb) hts hgs (hP.below hb (Nat.le_refl _)))
    have cL := fun W (hb : Below w.heap.size w W) => hid (list_any_t ta ga ua oa tc gc uc oc ts gs us sn ss lim own name all W (C.below hb) hts hgs (hP.below hb (Nat.le_refl _)))
    have cR := fun W (hb : Below w.heap.size w W) => hid (tRight_any ta ga ua oa tc gc uc oc ts gs us sn ss lim own W (C.below hb) hsz (hg.below hb) (hT.below hb (Nat.le_refl _)) (hev.below hb))
    have cQ := fun W (hb : Below w.heap.size w W) => hid (rtRight_any ta ga ua oa tc gc uc oc ts gs us sn ss lim own W (C.below hb) hsz hon (hP.below hb (Nat.le_refl _)))
    have cH := fun W (hb : Below w.heap.size w W) => hid (has_any ta tc (.slice ga gs.length gc) (.slice ua us.length uc) (.slice oa own.length oc) sn ss lim ts name W (C.ht.below hb) C.tn)
    have cI := fun W (hb : Below w.heap.size w W) => hid (rhas_any ta tc (.slice ga gs.length gc) (.slice ua us.length uc) (.slice oa own.length oc) sn ss lim ts name W (C.ht.below hb) C.tn)
    have hll : (listOf gs name all ts).length ≤ 6252500 := Nat.le_trans (listOf_len gs name all ts) (Nat.le_trans (Nat.mul_le_mul hts (show 1 + gs.length ≤ 2501 by omega)) (by omega))
    unfold ErrP at cR
    unfold FaultP at cQ
    unfold confV at cT cL cR cQ cH cI
    unfold faultV at cQ
    generalize (if all = false ∧ ts.contains name = false then 8 else 0 : Nat) = ek at *
    generalize listOf gs name all ts = xs at *
    generalize ts.contains name = hs at *
    have cP := fun v w1 k pl (hb : Below w.heap.size w w1) hv => hid (placed_ok v k pl w1 (hg.below hb) hv)
    have cB := fun v w1 k (hb : Below w.heap.size w w1) hv => hid (bare_ok v k w1 (hg.below hb) hv)
    generalize rightP ts gs us sn ss lim own = rp at *
    obtain ⟨rk, rpl⟩ := rp
    simp only at cR cQ
    clear C hcw hsz hon h300 hcr hg hT hev hP
    have hpw : w.heap.size < W1.heap.size := by omega
    go_enter Tryz.func4, Tryz.ntmps4
    go_wp2_with fail
    refine (cc _ b1).out.mono ?_
    rintro e w2 ⟨rfl, hb2⟩
    have b2 := b1.trans (hb2.mono b1.size)
    have t0 := (hb2.cell (p := ⟨w.heap.size, 0, none⟩) hpw).trans t0
    have t1 := (hb2.cell (p := ⟨w.heap.size, 1, none⟩) hpw).trans t1
    have t2 := (hb2.cell (p := ⟨w.heap.size, 2, none⟩) hpw).trans t2
    have t3 := (hb2.cell (p := ⟨w.heap.size, 3, none⟩) hpw).trans t3
    have t4 := (hb2.cell (p := ⟨w.heap.size, 4, none⟩) hpw).trans t4
    have t5 := (hb2.cell (p := ⟨w.heap.size, 5, none⟩) hpw).trans t5
    have t6 := (hb2.cell (p := ⟨w.heap.size, 6, none⟩) hpw).trans t6
    have hp2 : w.heap.size < w2.heap.size := Nat.lt_of_lt_of_le hpw hb2.size
    go_wp2_with fail
    refine (cT _ b2).out.mono ?_
    rintro e w3 ⟨⟨va, rfl, hva⟩, hb3⟩
    have b3 := b2.trans (hb3.mono b2.size)
    have PA := psl_of_owns hva
    have t0 := (hb3.cell (p := ⟨w.heap.size, 0, none⟩) hp2).trans t0
    have t1 := (hb3.cell (p := ⟨w.heap.size, 1, none⟩) hp2).trans t1
    have t2 := (hb3.cell (p := ⟨w.heap.size, 2, none⟩) hp2).trans t2
    have t3 := (hb3.cell (p := ⟨w.heap.size, 3, none⟩) hp2).trans t3
    have t4 := (hb3.cell (p := ⟨w.heap.size, 4, none⟩) hp2).trans t4
    have t5 := (hb3.cell (p := ⟨w.heap.size, 5, none⟩) hp2).trans t5
    have t6 := (hb3.cell (p := ⟨w.heap.size, 6, none⟩) hp2).trans t6
    have hp3 : w.heap.size < w3.heap.size := Nat.lt_of_lt_of_le hp2 hb3.size
    go_wp2_with fail
    refine (cL _ b3).out.mono ?_
    rintro e w4 ⟨⟨vb, rfl, hvb⟩, hb4⟩
    have b4 := b3.trans (hb4.mono b3.size)
    have PB := psl_of_owns hvb
    have PA := PA.below hb4
    have t0 := (hb4.cell (p := ⟨w.heap.size, 0, none⟩) hp3).trans t0
    have t1 := (hb4.cell (p := ⟨w.heap.size, 1, none⟩) hp3).trans t1
    have t2 := (hb4.cell (p := ⟨w.heap.size, 2, none⟩) hp3).trans t2
    have t3 := (hb4.cell (p := ⟨w.heap.size, 3, none⟩) hp3).trans t3
    have t4 := (hb4.cell (p := ⟨w.heap.size, 4, none⟩) hp3).trans t4
    have t5 := (hb4.cell (p := ⟨w.heap.size, 5, none⟩) hp3).trans t5
    have t6 := (hb4.cell (p := ⟨w.heap.size, 6, none⟩) hp3).trans t6
    have hp4 : w.heap.size < w4.heap.size := Nat.lt_of_lt_of_le hp3 hb4.size
    go_wp2_with fail
    have key : ∀ w' w'' : World, (w'.cell? ⟨w.heap.size, 0, none⟩ = some (.slice ta ts.length tc) ∧ w'.cell? ⟨w.heap.size, 1, none⟩ = some (.slice ga gs.length gc) ∧ w'.cell? ⟨w.heap.size, 2, none⟩ = some (.slice ua us.length uc) ∧ w'.cell? ⟨w.heap.size, 3, none⟩ = some (.string (bs sn)) ∧ w'.cell? ⟨w.heap.size, 4, none⟩ = some (.string (bs ss)) ∧ w'.cell? ⟨w.heap.size, 5, none⟩ = some (.int .i64 lim) ∧ w'.cell? ⟨w.heap.size, 6, none⟩ = some (.slice oa own.length oc) ∧ Below w4.heap.size w4 w') → Below w'.heap.size w' w'' → w''.cell? ⟨w.heap.size, 0, none⟩ = some (.slice ta ts.length tc) ∧ w''.cell? ⟨w.heap.size, 1, none⟩ = some (.slice ga gs.length gc) ∧ w''.cell? ⟨w.heap.size, 2, none⟩ = some (.slice ua us.length uc) ∧ w''.cell? ⟨w.heap.size, 3, none⟩ = some (.string (bs sn)) ∧ w''.cell? ⟨w.heap.size, 4, none⟩ = some (.string (bs ss)) ∧ w''.cell? ⟨w.heap.size, 5, none⟩ = some (.int .i64 lim) ∧ w''.cell? ⟨w.heap.size, 6, none⟩ = some (.slice oa own.length oc) ∧ Below w4.heap.size w4 w'' := by
      intro w' w'' ⟨h0, h1, h2, h3, h4, h5, h6, h7⟩ hq
      have hl := Nat.lt_of_lt_of_le hp4 h7.size
      exact ⟨(hq.cell (p := ⟨w.heap.size, 0, none⟩) hl).trans h0, (hq.cell (p := ⟨w.heap.size, 1, none⟩) hl).trans h1, (hq.cell (p := ⟨w.heap.size, 2, none⟩) hl).trans h2, (hq.cell (p := ⟨w.heap.size, 3, none⟩) hl).trans h3, (hq.cell (p := ⟨w.heap.size, 4, none⟩) hl).trans h4, (hq.cell (p := ⟨w.heap.size, 5, none⟩) hl).trans h5, (hq.cell (p := ⟨w.heap.size, 6, none⟩) hl).trans h6, h7.trans (hq.mono h7.size)⟩
    have Key := hid key
    have dR : ∀ w' : World, (w'.cell? ⟨w.heap.size, 0, none⟩ = some (.slice ta ts.length tc) ∧ w'.cell? ⟨w.heap.size, 1, none⟩ = some (.slice ga gs.length gc) ∧ w'.cell? ⟨w.heap.size, 2, none⟩ = some (.slice ua us.length uc) ∧ w'.cell? ⟨w.heap.size, 3, none⟩ = some (.string (bs sn)) ∧ w'.cell? ⟨w.heap.size, 4, none⟩ = some (.string (bs ss)) ∧ w'.cell? ⟨w.heap.size, 5, none⟩ = some (.int .i64 lim) ∧ w'.cell? ⟨w.heap.size, 6, none⟩ = some (.slice oa own.length oc) ∧ Below w4.heap.size w4 w') → Hid (Calls Tryz.prog 21 #[.agg #[.slice ta ts.length tc, .slice ga gs.length gc, .slice ua us.length uc, .string (bs sn), .string (bs ss), .int .i64 lim, .slice oa own.length oc]] w' fun e w'' => (∃ er, e = .returned er ∧ ErrIs w'' er rk rpl) ∧ w''.cell? ⟨w.heap.size, 0, none⟩ = some (.slice ta ts.length tc) ∧ w''.cell? ⟨w.heap.size, 1, none⟩ = some (.slice ga gs.length gc) ∧ w''.cell? ⟨w.heap.size, 2, none⟩ = some (.slice ua us.length uc) ∧ w''.cell? ⟨w.heap.size, 3, none⟩ = some (.string (bs sn)) ∧ w''.cell? ⟨w.heap.size, 4, none⟩ = some (.string (bs ss)) ∧ w''.cell? ⟨w.heap.size, 5, none⟩ = some (.int .i64 lim) ∧ w''.cell? ⟨w.heap.size, 6, none⟩ = some (.slice oa own.length oc) ∧ Below w4.heap.size w4 w'') := by
      intro w' h
      refine hid ((cR w' (b4.trans (h.2.2.2.2.2.2.2.mono b4.size))).out.mono ?_)
      rintro e w'' ⟨he, hq⟩
      exact ⟨he, key _ _ h hq⟩
    have dQ : ∀ (v : Value) (w' : World), ErrIs w' v rk rpl → (w'.cell? ⟨w.heap.size, 0, none⟩ = some (.slice ta ts.length tc) ∧ w'.cell? ⟨w.heap.size, 1, none⟩ = some (.slice ga gs.length gc) ∧ w'.cell? ⟨w.heap.size, 2, none⟩ = some (.slice ua us.length uc) ∧ w'.cell? ⟨w.heap.size, 3, none⟩ = some (.string (bs sn)) ∧ w'.cell? ⟨w.heap.size, 4, none⟩ = some (.string (bs ss)) ∧ w'.cell? ⟨w.heap.size, 5, none⟩ = some (.int .i64 lim) ∧ w'.cell? ⟨w.heap.size, 6, none⟩ = some (.slice oa own.length oc) ∧ Below w4.heap.size w4 w') → Hid (Calls Tryz.prog 22 #[.agg #[.slice ta ts.length tc, .slice ga gs.length gc, .slice ua us.length uc, .string (bs sn), .string (bs ss), .int .i64 lim, .slice oa own.length oc]] w' fun e w'' => e = .returned (.agg #[.int .i64 (rk : Nat), .int .i64 rpl]) ∧ ErrIs w'' v rk rpl ∧ w''.cell? ⟨w.heap.size, 0, none⟩ = some (.slice ta ts.length tc) ∧ w''.cell? ⟨w.heap.size, 1, none⟩ = some (.slice ga gs.length gc) ∧ w''.cell? ⟨w.heap.size, 2, none⟩ = some (.slice ua us.length uc) ∧ w''.cell? ⟨w.heap.size, 3, none⟩ = some (.string (bs sn)) ∧ w''.cell? ⟨w.heap.size, 4, none⟩ = some (.string (bs ss)) ∧ w''.cell? ⟨w.heap.size, 5, none⟩ = some (.int .i64 lim) ∧ w''.cell? ⟨w.heap.size, 6, none⟩ = some (.slice oa own.length oc) ∧ Below w4.heap.size w4 w'') := by
      intro v w' hv h
      refine hid ((cQ w' (b4.trans (h.2.2.2.2.2.2.2.mono b4.size))).out.mono ?_)
      rintro e w'' ⟨he, hq⟩
      exact ⟨he, hv.below hq, key _ _ h hq⟩
    have dP : ∀ (v : Value) (w' : World), ErrIs w' v rk rpl → (w'.cell? ⟨w.heap.size, 0, none⟩ = some (.slice ta ts.length tc) ∧ w'.cell? ⟨w.heap.size, 1, none⟩ = some (.slice ga gs.length gc) ∧ w'.cell? ⟨w.heap.size, 2, none⟩ = some (.slice ua us.length uc) ∧ w'.cell? ⟨w.heap.size, 3, none⟩ = some (.string (bs sn)) ∧ w'.cell? ⟨w.heap.size, 4, none⟩ = some (.string (bs ss)) ∧ w'.cell? ⟨w.heap.size, 5, none⟩ = some (.int .i64 lim) ∧ w'.cell? ⟨w.heap.size, 6, none⟩ = some (.slice oa own.length oc) ∧ Below w4.heap.size w4 w') → Hid (Calls Tryz.prog 20 #[v, .agg #[.int .i64 (rk : Nat), .int .i64 rpl]] w' fun e w'' => e = .returned (.bool true) ∧ w''.cell? ⟨w.heap.size, 0, none⟩ = some (.slice ta ts.length tc) ∧ w''.cell? ⟨w.heap.size, 1, none⟩ = some (.slice ga gs.length gc) ∧ w''.cell? ⟨w.heap.size, 2, none⟩ = some (.slice ua us.length uc) ∧ w''.cell? ⟨w.heap.size, 3, none⟩ = some (.string (bs sn)) ∧ w''.cell? ⟨w.heap.size, 4, none⟩ = some (.string (bs ss)) ∧ w''.cell? ⟨w.heap.size, 5, none⟩ = some (.int .i64 lim) ∧ w''.cell? ⟨w.heap.size, 6, none⟩ = some (.slice oa own.length oc) ∧ Below w4.heap.size w4 w'') := by
      intro v w' hv h
      refine hid ((cP v w' rk rpl (b4.trans (h.2.2.2.2.2.2.2.mono b4.size)) hv).out.mono ?_)
      rintro e w'' ⟨he, hq⟩
      exact ⟨he, key _ _ h hq⟩
    have dH : ∀ w' : World, (w'.cell? ⟨w.heap.size, 0, none⟩ = some (.slice ta ts.length tc) ∧ w'.cell? ⟨w.heap.size, 1, none⟩ = some (.slice ga gs.length gc) ∧ w'.cell? ⟨w.heap.size, 2, none⟩ = some (.slice ua us.length uc) ∧ w'.cell? ⟨w.heap.size, 3, none⟩ = some (.string (bs sn)) ∧ w'.cell? ⟨w.heap.size, 4, none⟩ = some (.string (bs ss)) ∧ w'.cell? ⟨w.heap.size, 5, none⟩ = some (.int .i64 lim) ∧ w'.cell? ⟨w.heap.size, 6, none⟩ = some (.slice oa own.length oc) ∧ Below w4.heap.size w4 w') → Hid (Calls Tryz.prog 23 #[.agg #[.slice ta ts.length tc, .slice ga gs.length gc, .slice ua us.length uc, .string (bs sn), .string (bs ss), .int .i64 lim, .slice oa own.length oc], .string (bs name)] w' fun e w'' => e = .returned (.bool hs) ∧ w''.cell? ⟨w.heap.size, 0, none⟩ = some (.slice ta ts.length tc) ∧ w''.cell? ⟨w.heap.size, 1, none⟩ = some (.slice ga gs.length gc) ∧ w''.cell? ⟨w.heap.size, 2, none⟩ = some (.slice ua us.length uc) ∧ w''.cell? ⟨w.heap.size, 3, none⟩ = some (.string (bs sn)) ∧ w''.cell? ⟨w.heap.size, 4, none⟩ = some (.string (bs ss)) ∧ w''.cell? ⟨w.heap.size, 5, none⟩ = some (.int .i64 lim) ∧ w''.cell? ⟨w.heap.size, 6, none⟩ = some (.slice oa own.length oc) ∧ Below w4.heap.size w4 w'') := by
      intro w' h
      refine hid ((cH w' (b4.trans (h.2.2.2.2.2.2.2.mono b4.size))).out.mono ?_)
      rintro e w'' ⟨he, hq⟩
      exact ⟨he, key _ _ h hq⟩
    have dI : ∀ w' : World, (w'.cell? ⟨w.heap.size, 0, none⟩ = some (.slice ta ts.length tc) ∧ w'.cell? ⟨w.heap.size, 1, none⟩ = some (.slice ga gs.length gc) ∧ w'.cell? ⟨w.heap.size, 2, none⟩ = some (.slice ua us.length uc) ∧ w'.cell? ⟨w.heap.size, 3, none⟩ = some (.string (bs sn)) ∧ w'.cell? ⟨w.heap.size, 4, none⟩ = some (.string (bs ss)) ∧ w'.cell? ⟨w.heap.size, 5, none⟩ = some (.int .i64 lim) ∧ w'.cell? ⟨w.heap.size, 6, none⟩ = some (.slice oa own.length oc) ∧ Below w4.heap.size w4 w') → Hid (Calls Tryz.prog 24 #[.agg #[.slice ta ts.length tc, .slice ga gs.length gc, .slice ua us.length uc, .string (bs sn), .string (bs ss), .int .i64 lim, .slice oa own.length oc], .string (bs name)] w' fun e w'' => e = .returned (.bool hs) ∧ w''.cell? ⟨w.heap.size, 0, none⟩ = some (.slice ta ts.length tc) ∧ w''.cell? ⟨w.heap.size, 1, none⟩ = some (.slice ga gs.length gc) ∧ w''.cell? ⟨w.heap.size, 2, none⟩ = some (.slice ua us.length uc) ∧ w''.cell? ⟨w.heap.size, 3, none⟩ = some (.string (bs sn)) ∧ w''.cell? ⟨w.heap.size, 4, none⟩ = some (.string (bs ss)) ∧ w''.cell? ⟨w.heap.size, 5, none⟩ = some (.int .i64 lim) ∧ w''.cell? ⟨w.heap.size, 6, none⟩ = some (.slice oa own.length oc) ∧ Below w4.heap.size w4 w'') := by
      intro w' h
      refine hid ((cI w' (b4.trans (h.2.2.2.2.2.2.2.mono b4.size))).out.mono ?_)
      rintro e w'' ⟨he, hq⟩
      exact ⟨he, key _ _ h hq⟩
    have dB : ∀ w' : World, (w'.cell? ⟨w.heap.size, 0, none⟩ = some (.slice ta ts.length tc) ∧ w'.cell? ⟨w.heap.size, 1, none⟩ = some (.slice ga gs.length gc) ∧ w'.cell? ⟨w.heap.size, 2, none⟩ = some (.slice ua us.length uc) ∧ w'.cell? ⟨w.heap.size, 3, none⟩ = some (.string (bs sn)) ∧ w'.cell? ⟨w.heap.size, 4, none⟩ = some (.string (bs ss)) ∧ w'.cell? ⟨w.heap.size, 5, none⟩ = some (.int .i64 lim) ∧ w'.cell? ⟨w.heap.size, 6, none⟩ = some (.slice oa own.length oc) ∧ Below w4.heap.size w4 w') → Hid (Calls Tryz.prog 8 #[errV 31 ek, .int .i64 (ek : Nat)] w' fun e w'' => e = .returned (.bool true) ∧ w''.cell? ⟨w.heap.size, 0, none⟩ = some (.slice ta ts.length tc) ∧ w''.cell? ⟨w.heap.size, 1, none⟩ = some (.slice ga gs.length gc) ∧ w''.cell? ⟨w.heap.size, 2, none⟩ = some (.slice ua us.length uc) ∧ w''.cell? ⟨w.heap.size, 3, none⟩ = some (.string (bs sn)) ∧ w''.cell? ⟨w.heap.size, 4, none⟩ = some (.string (bs ss)) ∧ w''.cell? ⟨w.heap.size, 5, none⟩ = some (.int .i64 lim) ∧ w''.cell? ⟨w.heap.size, 6, none⟩ = some (.slice oa own.length oc) ∧ Below w4.heap.size w4 w'') := by
      intro w' h
      refine hid ((cB _ w' ek (b4.trans (h.2.2.2.2.2.2.2.mono b4.size)) (ErrIs.errV w' ek)).out.mono ?_)
      rintro e w'' ⟨he, hq⟩
      exact ⟨he, key _ _ h hq⟩
    have dE : ∀ w' : World, (w'.cell? ⟨w.heap.size, 0, none⟩ = some (.slice ta ts.length tc) ∧ w'.cell? ⟨w.heap.size, 1, none⟩ = some (.slice ga gs.length gc) ∧ w'.cell? ⟨w.heap.size, 2, none⟩ = some (.slice ua us.length uc) ∧ w'.cell? ⟨w.heap.size, 3, none⟩ = some (.string (bs sn)) ∧ w'.cell? ⟨w.heap.size, 4, none⟩ = some (.string (bs ss)) ∧ w'.cell? ⟨w.heap.size, 5, none⟩ = some (.int .i64 lim) ∧ w'.cell? ⟨w.heap.size, 6, none⟩ = some (.slice oa own.length oc) ∧ Below w4.heap.size w4 w') → Hid (Calls Tryz.prog 25 #[va, vb] w' fun e w'' => e = .returned (.bool true) ∧ w''.cell? ⟨w.heap.size, 0, none⟩ = some (.slice ta ts.length tc) ∧ w''.cell? ⟨w.heap.size, 1, none⟩ = some (.slice ga gs.length gc) ∧ w''.cell? ⟨w.heap.size, 2, none⟩ = some (.slice ua us.length uc) ∧ w''.cell? ⟨w.heap.size, 3, none⟩ = some (.string (bs sn)) ∧ w''.cell? ⟨w.heap.size, 4, none⟩ = some (.string (bs ss)) ∧ w''.cell? ⟨w.heap.size, 5, none⟩ = some (.int .i64 lim) ∧ w''.cell? ⟨w.heap.size, 6, none⟩ = some (.slice oa own.length oc) ∧ Below w4.heap.size w4 w'') := by
      intro w' h
      refine hid ((eqPairs_true va vb xs w' (by omega) (PA.below h.2.2.2.2.2.2.2) (PB.below h.2.2.2.2.2.2.2)).mono ?_)
      rintro e w'' ⟨he, hq⟩
      exact ⟨he, key _ _ h hq⟩
    have hd : Below w4.heap.size w4 w4.drew := (Below.refl _ _).drew
    have hcd : w4.drew.cell? ⟨w.heap.size, 0, none⟩ = some (.slice ta ts.length tc) ∧ w4.drew.cell? ⟨w.heap.size, 1, none⟩ = some (.slice ga gs.length gc) ∧ w4.drew.cell? ⟨w.heap.size, 2, none⟩ = some (.slice ua us.length uc) ∧ w4.drew.cell? ⟨w.heap.size, 3, none⟩ = some (.string (bs sn)) ∧ w4.drew.cell? ⟨w.heap.size, 4, none⟩ = some (.string (bs ss)) ∧ w4.drew.cell? ⟨w.heap.size, 5, none⟩ = some (.int .i64 lim) ∧ w4.drew.cell? ⟨w.heap.size, 6, none⟩ = some (.slice oa own.length oc) ∧ Below w4.heap.size w4 w4.drew := ⟨t0, t1, t2, t3, t4, t5, t6, hd⟩
    clear key cR cQ cP cH cI cB PA PB cT cL cc hva hvb
    go_region_held3 (fun w' => w'.cell? ⟨w.heap.size, 0, none⟩ = some (.slice ta ts.length tc) ∧ w'.cell? ⟨w.heap.size, 1, none⟩ = some (.slice ga gs.length gc) ∧ w'.cell? ⟨w.heap.size, 2, none⟩ = some (.slice ua us.length uc) ∧ w'.cell? ⟨w.heap.size, 3, none⟩ = some (.string (bs sn)) ∧ w'.cell? ⟨w.heap.size, 4, none⟩ = some (.string (bs ss)) ∧ w'.cell? ⟨w.heap.size, 5, none⟩ = some (.int .i64 lim) ∧ w'.cell? ⟨w.heap.size, 6, none⟩ = some (.slice oa own.length oc) ∧ Below w4.heap.size w4 w')
      (first | exact hcd | assumption | exact ⟨by assumption, by assumption, by assumption, by assumption, by assumption, by assumption, by assumption, by assumption⟩)
      (first
        | (go_at_call 21; refine (dR _ ?_).out.mono ?_; (first | exact hcd | assumption | exact ⟨by assumption, by assumption, by assumption, by assumption, by assumption, by assumption, by assumption, by assumption⟩); rintro e w5 ⟨⟨er, rfl, her⟩, i0, i1, i2, i3, i4, i5, i6, i7⟩)
        | (go_at_call 22; refine (dQ er _ ?_ ?_).out.mono ?_; assumption; (first | exact hcd | assumption | exact ⟨by assumption, by assumption, by assumption, by assumption, by assumption, by assumption, by assumption, by assumption⟩); rintro e w6 ⟨rfl, her2, j0, j1, j2, j3, j4, j5, j6, j7⟩)
        | (go_at_call 20; refine (dP _ _ ?_ ?_).out.mono ?_; assumption; (first | exact hcd | assumption | exact ⟨by assumption, by assumption, by assumption, by assumption, by assumption, by assumption, by assumption, by assumption⟩); rintro e w7 ⟨rfl, k0, k1, k2, k3, k4, k5, k6, k7⟩)
        | (go_at_call 23; refine (dH _ ?_).out.mono ?_; (first | exact hcd | assumption | exact ⟨by assumption, by assumption, by assumption, by assumption, by assumption, by assumption, by assumption, by assumption⟩); rintro e w8 ⟨rfl, l0, l1, l2, l3, l4, l5, l6, l7⟩)
        | (go_at_call 24; refine (dI _ ?_).out.mono ?_; (first | exact hcd | assumption | exact ⟨by assumption, by assumption, by assumption, by assumption, by assumption, by assumption, by assumption, by assumption⟩); rintro e w9 ⟨rfl, m0, m1, m2, m3, m4, m5, m6, m7⟩)
        | (go_at_call 8; refine (dB _ ?_).out.mono ?_; (first | exact hcd | assumption | exact ⟨by assumption, by assumption, by assumption, by assumption, by assumption, by assumption, by assumption, by assumption⟩); rintro e wA ⟨rfl, n0, n1, n2, n3, n4, n5, n6, n7⟩)
        | (go_at_call 25; refine (dE _ ?_).out.mono ?_; (first | exact hcd | assumption | exact ⟨by assumption, by assumption, by assumption, by assumption, by assumption, by assumption, by assumption, by assumption⟩); rintro e wB ⟨rfl, o0, o1, o2, o3, o4, o5, o6, o7⟩))
    all_goals
      go_wp2_with fail
      go_ret
      refine ⟨rfl, b4.trans (Below.mono ?_ b4.size)⟩
      assumption
end
theorem targetRights_row (ta ga ua oa : Option Addr) (tc gc uc oc : Nat) (ts : List (List UInt8)) (gs : GL) (us : PL) (sn ss : List UInt8) (lim : Int) (own : PL) (name : ByteArray) (all : Bool) (w : World)
    (C : ConfIn w ts gs us sn ss lim own (.slice ta ts.length tc) (.slice ga gs.length gc) (.slice ua us.length uc) (.slice oa own.length oc)) (hname : name.size ≤ maxLen) (hL : laidMetH Tryz.prog Rows.targetRightsUptoRow.laid w) :
    Calls Tryz.prog 4 #[confV (.slice ta ts.length tc) (.slice ga gs.length gc) (.slice ua us.length uc) (.slice oa own.length oc) sn ss lim, .string name, .bool all] w fun e w' => e = .returned (.bool true) ∧ Below w.heap.size w w' := by
  have := targetRights_law ta ga ua oa tc gc uc oc ts gs us sn ss lim own name.data.toList all w C (by unfold maxLen at hname; simpa using hname) (cardBase.etype_of_laid (by simp [Rows.targetRightsUptoRow]) hL)
    (cardBase.tab_of_laid (n := 256) (t := 262) (e := 5) (L := Rows.targetRightsUptoRow.laid) (by kernel_rfl) asName (by kernel_rfl) Tryz.underlying262 Tryz.underlying5 (by kernel_rfl) (by kernel_rfl) hL)
    ⟨ifaceAt_of_laid (L := Rows.targetRightsUptoRow.laid) (name := "strconv.ErrSyntax") (nm := "*errors.errorString") (d := .ptr (.agg [.lit (.string [105, 110, 118, 97, 108, 105, 100, 32, 115, 121, 110, 116, 97, 120])])) (by kernel_rfl) (by kernel_rfl) (by kernel_rfl) Tryz.underlying27 hL, ifaceAt_of_laid (L := Rows.targetRightsUptoRow.laid) (name := "strconv.ErrRange") (nm := "*errors.errorString") (d := .ptr (.agg [.lit (.string [118, 97, 108, 117, 101, 32, 111, 117, 116, 32, 111, 102, 32, 114, 97, 110, 103, 101])])) (by kernel_rfl) (by kernel_rfl) (by kernel_rfl) Tryz.underlying27 hL⟩
    (cardBase.tab_of_laid (n := 20) (t := 329) (e := 122) (L := Rows.targetRightsUptoRow.laid) (by kernel_rfl) ptName (by kernel_rfl) Tryz.underlying329 Tryz.underlying122 (by kernel_rfl) (by kernel_rfl) hL)
  rwa [bs_data] at this
end Go.Proofs.YtfeenkofnbefaaaGreatDoor
