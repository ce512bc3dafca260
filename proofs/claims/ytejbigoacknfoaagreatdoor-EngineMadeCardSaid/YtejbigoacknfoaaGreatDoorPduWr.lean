/- A PDU as bytes: by the program. -/
import Derived.Test.YtejbigoacknfoaaGreatDoorPduRight
set_option linter.unusedSectionVars false
set_option linter.unusedSimpArgs false
set_option linter.unusedVariables false
namespace Go.Proofs.YtejbigoacknfoaaGreatDoor
open Go Go.RowKit
set_option linter.unusedVariables false
set_option linter.unusedSectionVars false
set_option linter.unusedSimpArgs false
set_option maxRecDepth 100000
theorem dig_bs (l : List UInt8) (w : World) (hl : l.length ≤ 1000000) : Calls Tryz.prog 77 #[.string (bs l)] w fun e w' => e = .returned (.string (bs (digL l))) ∧ Below w.heap.size w w' :=
  dig_any (bs l) w (by unfold maxLen; rw [bs_size]; omega)
theorem rdig_bs (l : List UInt8) (w : World) (hl : l.length ≤ 1000000) : Calls Tryz.prog 73 #[.string (bs l)] w fun e w' => e = .returned (.string (bs (digL l))) ∧ Below w.heap.size w w' :=
  rdig_any (bs l) w (by rw [bs_size]; omega)
theorem dig_len (l : List UInt8) : (digL l).length = 4 := rfl
theorem mode_bits (m : Int) (h0 : 0 ≤ m) (h1 : m ≤ 3) : (bits .and .i64 m 1 != 0) = (m % 2 == 1) ∧ (bits .and .i64 m 2 != 0) = (m / 2 == 1) := by
  obtain ⟨k, rfl⟩ := Int.eq_ofNat_of_zero_le h0
  have : ∀ k : Fin 4, (bits .and .i64 ((k.val : Nat) : Int) 1 != 0) = (((k.val : Nat) : Int) % 2 == 1) ∧ (bits .and .i64 ((k.val : Nat) : Int) 2 != 0) = (((k.val : Nat) : Int) / 2 == 1) := by decide
  exact this ⟨k, by omega⟩
def PduWPost (R : List UInt8 × Nat) (w : World) (e : Ending) (w' : World) : Prop :=
  e = .returned (.tuple #[.string (bs R.1), errV 22 R.2]) ∧ Below w.heap.size w w'
section
variable (op : Int) (now : Bool) (flags : Int) (v : Value) (vs : List Nat) (av : Value) (n : Nat) (I : Nat → Int × List UInt8) (d : List UInt8) (mode : Int) (w : World) (hp : PduIn w op flags v vs av n I d) (hm0 : -9223372036854775808 ≤ mode) (hm1 : mode ≤ 9223372036854775807) (hg : EType w) (hT : AS w) (hP : PT w)
include hp hm0 hm1 hg hT hP
set_option maxHeartbeats 4000000 in
theorem pduWrite_any : Calls Tryz.prog 27 #[pduV op now flags v av d, .int .i64 mode] w fun e w' => PduWPost (pduW op now flags vs n I d mode) w e w' := by
  have cm := fun w1 => hid (modes_any mode w1 hm0 hm1)
  have c1 := fun w1 (hb : Below w.heap.size w w1) => hid (pduRight_any op now flags v vs av n I d w1 (hp.below hb) (hg.below hb) (hT.below hb (Nat.le_refl _)) (hP.below hb (Nat.le_refl _)))
  have c2 := fun w1 (hb : Below w.heap.size w w1) => hid (ahsWrite_any av n I w1 (hp.ahs.below hb))
  have c3 := fun words w1 (hb : Below w.heap.size w w1) => hid (write_any op now flags v vs words (d.length : Nat) w1 hp.op0 hp.op1 hp.fl0 hp.fl1 hp.len hp.fits (hp.vals.below (Nat.le_refl _) hb) (hT.below hb (Nat.le_refl _)) (hP.below hb (Nat.le_refl _)))
  have HGd := hid (pdu_good op now flags vs n I d)
  unfold AhsWrPost at c2
  unfold WritePost headV at c3
  have hdl := hp.data
  obtain ⟨aa, ac, rfl⟩ := ahs_form hp.ahs
  obtain ⟨sa, sc, rfl, _⟩ := id hp.vals
  unfold pduV at c1
  have C1 := hid c1; have C2 := hid c2; have C3 := hid c3
  have b1 := (Below.refl w.heap.size w).alloc (Nat.le_refl _) (.cells #[.int .i64 op, .bool now, .int .i64 flags, .slice sa vs.length sc, .slice aa n ac, .string (bs d)] 55)
  have B1 := Blk.new w 55 #[.int .i64 op, .bool now, .int .i64 flags, .slice sa vs.length sc, .slice aa n ac, .string (bs d)]
  clear hg hT hP c1 c2 c3 hp
  by_cases hm : mode < 0 ∨ 3 < mode
  · have HR := hid (show pduW op now flags vs n I d mode = ([], 1) by unfold pduW; rw [if_pos hm])
    have hmm : (decide (0 ≤ mode) && decide (mode ≤ 3)) = false := by
      rcases hm with h | h
      · rw [decide_eq_false (by omega)]; rfl
      · rw [decide_eq_false (p := mode ≤ 3) (by omega), Bool.and_false]
    rw [hmm] at cm
    go_enter Tryz.func27, Tryz.ntmps27
    unfold pduV
    go_wp2_with fail
    refine (cm _).out.mono ?_
    rintro e _ ⟨rfl, rfl⟩
    go_wp2
    go_ret2
    exact ⟨by rw [HR.out]; rfl, b1⟩
  · have hmm : (decide (0 ≤ mode) && decide (mode ≤ 3)) = true := by
      rw [decide_eq_true (by omega), decide_eq_true (by omega)]; rfl
    rw [hmm] at cm
    obtain ⟨hm1', hm2'⟩ := mode_bits mode (by omega) (by omega)
    by_cases hE : pduE op now flags vs n I d = 0
    · have HR := hid (show pduW op now flags vs n I d mode = (pduB op now flags vs n I d (mode % 2 == 1) (mode / 2 == 1), 0) by unfold pduW; rw [if_neg hm, if_neg (by omega)])
      obtain ⟨hk1, hk2, hd1, hxl, hwr, hwl⟩ := HGd.out hE
      rw [hE] at C1
      have C1 := C1.out
      have C2 := C2.out
      have C3 := C3.out
      simp only [hk2, if_pos rfl, errV, if_true] at C1 C2
      have hword : (((ahsB I n 0 []).length / 4 : Nat) : Int) = ((ahsB I n 0 []).length : Int) / 4 := by omega
      rw [hword] at hwr hwl
      have C3' := fun w1 hb => C3 (((ahsB I n 0 []).length : Int) / 4) w1 hb
      rw [hwr] at C3'
      have HB := hid (fun q1 q2 => show pduB op now flags vs n I d q1 q2 = _ by unfold pduB; rw [hword])
      generalize (writeH op now flags vs (((ahsB I n 0 []).length : Int) / 4) (d.length : Nat)).1 = H at *
      generalize ahsB I n 0 [] = X at *
      clear hk1 hk2 hwr hword C3 HGd
      have cp := fun w1 => hid (padded_any d w1 (by omega))
      have hpl := padded_len d
      have hpn := padN_lt d.length
      have hpe : (padded d == []) = (d == []) := by
        rw [Bool.eq_iff_iff, beq_iff_eq, beq_iff_eq]; exact padded_nil d
      generalize hPD : padded d = PD at *
      go_enter Tryz.func27, Tryz.ntmps27
      unfold pduV
      go_wp2_with fail
      refine (cm _).out.mono ?_
      rintro e _ ⟨rfl, rfl⟩
      go_wp2_with fail
      refine (C1 _ b1).out.mono ?_
      rintro e w2 ⟨rfl, hb2⟩
      have B2 := B1.below hb2
      have b2 := b1.trans (hb2.mono b1.size)
      have p4 : w2.cell? ⟨w.heap.size, 4, none⟩ = some (.slice aa n ac) := (B2.cell 4).trans rfl
      go_wp2_with fail
      refine (C2 _ b2).out.mono ?_
      rintro e w3 ⟨⟨er, rfl, her⟩, hb3⟩
      have B3 := B2.below hb3
      have b3 := b2.trans (hb3.mono b2.size)
      have t0 : w3.cell? ⟨w.heap.size, 0, none⟩ = some (.int .i64 op) := (B3.cell 0).trans rfl
      have t1 : w3.cell? ⟨w.heap.size, 1, none⟩ = some (.bool now) := (B3.cell 1).trans rfl
      have t2 : w3.cell? ⟨w.heap.size, 2, none⟩ = some (.int .i64 flags) := (B3.cell 2).trans rfl
      have t3 : w3.cell? ⟨w.heap.size, 3, none⟩ = some (.slice sa vs.length sc) := (B3.cell 3).trans rfl
      have t5 : w3.cell? ⟨w.heap.size, 5, none⟩ = some (.string (bs d)) := (B3.cell 5).trans rfl
      clear her
      go_wp2_with fail
      refine (C3' _ b3).out.mono ?_
      rintro e w4 ⟨ev, rfl, her, hb4⟩
      obtain rfl := errIs_zeroH her
      have B4 := B3.below hb4
      have b4 := b3.trans (hb4.mono b3.size)
      have t5 : w4.cell? ⟨w.heap.size, 5, none⟩ = some (.string (bs d)) := (B4.cell 5).trans rfl
      obtain ⟨q1, hq1⟩ : ∃ q, (bits .and .i64 mode 1 != 0) = q := ⟨_, rfl⟩
      obtain ⟨q2, hq2⟩ : ∃ q, (bits .and .i64 mode 2 != 0) = q := ⟨_, rfl⟩
      obtain ⟨q3, hq3⟩ : ∃ q, (d == []) = q := ⟨_, rfl⟩
      rw [hq3] at hpe
      have hrr := HR.out
      rw [← hm1', ← hm2', hq1, hq2] at hrr
      have HR := hid hrr
      clear hrr her t0 t1 t2 t3 p4 C1 C2 C3' hm1' hm2'
      cases q1 with
      | false =>
        have hS2 : (H ++ X).length ≤ 2000 := by simp only [List.length_append, dig_len]; omega
        go_wp2_with fail
        refine (cp _).out.mono ?_
        rintro e _ ⟨rfl, rfl⟩
        cases q2 with
        | false =>
          have hf : pduB op now flags vs n I d false false = H ++ (X ++ PD) := by rw [HB.out]; simp [hPD]
          go_wp2
          go_ret2
          exact ⟨by rw [HR.out, hf]; rfl, b4⟩
        | true =>
          cases q3 with
          | true =>
            have hf : pduB op now flags vs n I d false true = H ++ (X ++ PD) := by rw [HB.out]; simp only [hq3]; simp [hPD]
            go_wp2
            go_ret2
            exact ⟨by rw [HR.out, hf]; rfl, b4⟩
          | false =>
            have hl2 : (digL PD).length = 4 := rfl
            have cd := hid (dig_bs PD w4 (by omega))
            go_wp2_with fail
            refine cd.out.mono ?_
            rintro e w9 ⟨rfl, hb9⟩
            have hf : pduB op now flags vs n I d false true = H ++ (X ++ (PD ++ digL PD)) := by rw [HB.out]; simp only [hq3]; simp [hPD]
            go_wp2
            go_ret2
            exact ⟨by rw [HR.out, hf]; rfl, b4.trans (hb9.mono b4.size)⟩
      | true =>
        have hl1 : (digL (H ++ X)).length = 4 := rfl
        have cd1 := hid (dig_bs (H ++ X) w4 (by simp only [List.length_append]; omega))
        go_wp2_with fail
        refine cd1.out.mono ?_
        rintro e w5 ⟨rfl, hb5⟩
        have B5 := B4.below hb5
        have b5 := b4.trans (hb5.mono b4.size)
        have t5 : w5.cell? ⟨w.heap.size, 5, none⟩ = some (.string (bs d)) := (B5.cell 5).trans rfl
        have hS2 : (H ++ X ++ digL (H ++ X)).length ≤ 2000 := by simp only [List.length_append, dig_len]; omega
        go_wp2_with fail
        refine (cp _).out.mono ?_
        rintro e _ ⟨rfl, rfl⟩
        cases q2 with
        | false =>
          have hf : pduB op now flags vs n I d true false = H ++ (X ++ (digL (H ++ X) ++ PD)) := by rw [HB.out]; simp [hPD]
          go_wp2
          go_ret2
          exact ⟨by rw [HR.out, hf]; rfl, b5⟩
        | true =>
          cases q3 with
          | true =>
            have hf : pduB op now flags vs n I d true true = H ++ (X ++ (digL (H ++ X) ++ PD)) := by rw [HB.out]; simp only [hq3]; simp [hPD]
            go_wp2
            go_ret2
            exact ⟨by rw [HR.out, hf]; rfl, b5⟩
          | false =>
            have hl2 : (digL PD).length = 4 := rfl
            have cd := hid (dig_bs PD w5 (by omega))
            go_wp2_with fail
            refine cd.out.mono ?_
            rintro e w9 ⟨rfl, hb9⟩
            have hf : pduB op now flags vs n I d true true = H ++ (X ++ (digL (H ++ X) ++ (PD ++ digL PD))) := by rw [HB.out]; simp only [hq3]; simp [hPD]
            go_wp2
            go_ret2
            exact ⟨by rw [HR.out, hf]; rfl, b5.trans (hb9.mono b5.size)⟩
    · have HR := hid (show pduW op now flags vs n I d mode = ([], pduE op now flags vs n I d) by unfold pduW; rw [if_neg hm, if_pos hE])
      have C1 := C1.out
      generalize pduE op now flags vs n I d = E at *
      simp only [errV, if_neg hE] at C1
      clear C2 C3 HGd
      go_enter Tryz.func27, Tryz.ntmps27
      unfold pduV
      go_wp2_with fail
      refine (cm _).out.mono ?_
      rintro e _ ⟨rfl, rfl⟩
      go_wp2_with fail
      refine (C1 _ b1).out.mono ?_
      rintro e w2 ⟨rfl, hb2⟩
      go_wp2
      go_ret2
      exact ⟨by rw [HR.out, errV, if_neg hE]; rfl, b1.trans (hb2.mono b1.size)⟩
end
end Go.Proofs.YtejbigoacknfoaaGreatDoor
