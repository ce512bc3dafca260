/- Additional headers as bytes, by the program. -/
import Derived.Test.YtejbigoacknfoaaGreatDoorAhsW
set_option linter.unusedSectionVars false
set_option linter.unusedSimpArgs false
set_option linter.unusedVariables false
namespace Go.Proofs.YtejbigoacknfoaaGreatDoor
open Go.RowKit
set_option linter.unusedVariables false
set_option maxRecDepth 100000
def RAhsWr (I : Nat → Int × List UInt8) (n : Nat) (w : World) (out i : Value) (wr : World) : Prop :=
  ∃ (k : Nat) (o : List UInt8), k ≤ n ∧ o.length ≤ 1020 ∧ i = .int .i64 (k : Nat) ∧ out = .string (bs o) ∧ ahsW I (n - k) k o.length = (0, -1) ∧ ahsB I n 0 [] = ahsB I (n - k) k o ∧ Below w.heap.size w wr
theorem ahsW_zero (I : Nat → Int × List UInt8) (r i m : Nat) (h : (ahsW I r i m).1 = 0) : ahsW I r i m = (0, -1) := by
  induction r generalizing i m with
  | zero => rfl
  | succ r ih =>
    rw [ahsW] at h ⊢
    split at h
    · simp at h
    · split at h
      · simp at h
      · rw [if_neg (by assumption), if_neg (by assumption)]; exact ih _ _ h
theorem errIs_zero {w : World} {v : Value} {pl : Int} (h : ErrIs w v 0 pl) : v = .nilIface := by
  generalize hk : 0 = k at h
  cases h <;> first | rfl | omega
theorem byte_wrap (kd : Int) (h0 : 0 ≤ kd) (h1 : kd ≤ 255) : IntKind.u8.wrap kd = ((UInt8.ofNat kd.toNat).toNat : Nat) := by
  rw [IntKind.wrap_u8]; simp; omega
def AhsWrPost (I : Nat → Int × List UInt8) (n : Nat) (w : World) (e : Ending) (w' : World) : Prop :=
  (∃ er, e = .returned (.tuple #[.string (bs (if (ahsW I n 0 0).1 = 0 then ahsB I n 0 [] else [])), er]) ∧ ErrIs w' er (ahsW I n 0 0).1 (ahsW I n 0 0).2) ∧ Below w.heap.size w w'
set_option maxHeartbeats 4000000 in
theorem ahsWrite_any (v : Value) (n : Nat) (I : Nat → Int × List UInt8) (w : World) (h : AhsIn w v n I) :
    Calls Tryz.prog 75 #[v] w fun e w' => AhsWrPost I n w e w' := by
  have c1 := fun w1 (hb : Below w.heap.size w w1) => hid (ahsRight_any v n I w1 (h.below hb))
  have hb0 := Below.refl w.heap.size w
  by_cases hz : (ahsW I n 0 0).1 = 0
  · have hz' := ahsW_zero I n 0 0 hz
    have Hz := hid hz'
    rw [hz'] at c1
    clear hz'
    obtain ⟨hn, hv, hcell⟩ := h
    unfold maxLen at hn
    rcases hv with ⟨rfl, rfl⟩ | ⟨a, cap, rfl⟩
    · go_enter Tryz.func75, Tryz.ntmps75
      go_wp2_with fail
      refine (c1 _ hb0).out.mono ?_; rintro e w1 ⟨⟨er, rfl, her⟩, hb1⟩
      obtain rfl := errIs_zero her
      go_wp2
      refine wp_loop_rounds 1 ?_
      rw [rounds_succ]
      go_wp2
      go_ret2
      refine ⟨⟨.nilIface, ?_, ?_⟩, hb1⟩
      · rw [Hz.out, if_pos rfl]; rfl
      · rw [Hz.out]; exact .nil
    have Hcell := hid (hcell a n cap rfl); clear hcell
    go_enter Tryz.func75, Tryz.ntmps75
    go_wp2_with fail
    refine (c1 _ hb0).out.mono ?_; rintro e w1 ⟨⟨er, rfl, her⟩, hb1⟩
    obtain rfl := errIs_zero her
    go_wp2
    go_loopw [5, 17] (fun out i wr => RAhsWr I n w out i wr) (fun _ i _ => n - (intOf i).toNat)
    case atStart => exact ⟨0, [], by omega, by simp, rfl, rfl, Hz.out, rfl, hb1⟩
    case round =>
      obtain ⟨k, o, hk, ho, rfl, rfl, heq, heq2, hb⟩ := hrel
      have hB := hb.size
      by_cases hlt : k < n
      · obtain ⟨c0, c1, hr0, hr1, hd⟩ := Hcell.out k hlt
        have g0 : wr.cell? (a.add (k * 2)) = _ := (hb.cell (block_lt_of_cell c0)).trans c0
        have e1 : (⟨(a.add (k * 2)).block, (a.add (k * 2)).off + 1, none⟩ : Addr) = a.add (k * 2 + 1) := by
          unfold Addr.add; rcases Nat.eq_zero_or_pos k with h | h
          · subst h; simp
          · rw [if_neg (by omega), if_neg (by omega)]; simp [Nat.add_assoc]
        have g1 : wr.cell? ⟨(a.add (k * 2)).block, (a.add (k * 2)).off + 1, none⟩ = _ := (congrArg wr.cell? e1).trans ((hb.cell (block_lt_of_cell c1)).trans c1)
        obtain ⟨r, hr⟩ : ∃ r, n - k = r + 1 := ⟨n - k - 1, by omega⟩
        rw [hr, ahsW] at heq
        rw [hr, ahsB] at heq2
        clear c0 c1 e1
        generalize I k = x at *
        obtain ⟨kd, d⟩ := x
        simp only at *
        split at heq
        · simp at heq
        split at heq
        · simp at heq
        rename_i hk1 hk2
        have hbw := byte_wrap kd (by omega) (by omega)
        have c2 := fun w => hid (put_any d.length 2 w (by omega))
        have hE : putE d.length 2 = 0 := by unfold putE; rw [if_neg (by omega), if_neg (by simp; omega)]
        have hS : putS d.length 2 = be d.length 2 := by unfold putS; rw [if_pos hE]; rfl
        rw [hE, hS, show errV 22 0 = .nilIface from rfl] at c2
        generalize UInt8.ofNat kd.toNat = kb at *
        have hBl : (be d.length 2).length = 2 := be_length _ _
        generalize be d.length 2 = B at *
        have c3 := fun w => hid (padded_any (B ++ [kb] ++ d) w (by simp; omega))
        have hP : (padded (B ++ [kb] ++ d)).length = 3 + d.length + padN (3 + d.length) := by unfold padded; rw [List.length_append, List.length_replicate, show (B ++ [kb] ++ d).length = 3 + d.length by simp; omega]
        have hBk : B ++ [kb] ++ d = B ++ kb :: d := by simp
        rw [hBk] at c3 heq2 hP
        clear hBk
        generalize padded (B ++ kb :: d) = X at *
        generalize padN (3 + d.length) = p at *
        have cv := fun w => conv1 (P := Tryz.prog) 120 9 5 5 Tryz.underlying120 Tryz.underlying5 Tryz.underlying9 w (kb.toNat : Int)
        rw [byteOf_toNat] at cv
        have hbk := heap_alloc_new wr (.cells #[.int .i64 kd, .string (bs d)] 166 (0, 0))
        have hsz : wr.heap.size < (wr.alloc (.cells #[.int .i64 kd, .string (bs d)] 166 (0, 0))).heap.size := by simp
        have hbA := hb.alloc hB (.cells #[.int .i64 kd, .string (bs d)] 166 (0, 0))
        have Hbk := hid hbk; clear hbk
        have Heq := hid heq; have Heq2 := hid heq2; clear heq heq2
        have s1 : IntKind.u64.wrap (d.length : Int) = (d.length : Int) := by rw [IntKind.wrap_u64]; omega
        go_wp2_with first
          | (go_at_call 123; refine (c2 _).out.mono ?_; rintro e w2 ⟨rfl, hb2⟩; have hc0 : w2.cell? ⟨wr.heap.size, 0, none⟩ = some (.int .i64 kd) := (hb2.cell (p := ⟨wr.heap.size, 0, none⟩) hsz).trans (by rw [cell_of_row _ _ _ _ _ _ Hbk.out]; rfl); have hc1 : w2.cell? ⟨wr.heap.size, 1, none⟩ = some (.string (bs d)) := (hb2.cell (p := ⟨wr.heap.size, 1, none⟩) hsz).trans (by rw [cell_of_row _ _ _ _ _ _ Hbk.out]; rfl); have hbB := hbA.trans (hb2.mono hbA.size); have hc1a := fun o => (((Below.refl w2.heap.size w2).alloc (Nat.le_refl _) o).cell (p := ⟨wr.heap.size, 1, none⟩) (Nat.lt_of_lt_of_le hsz hb2.size)).trans hc1)
          | (go_at_call 78; refine (c3 _).out.mono ?_; rintro e w3 ⟨rfl, rfl⟩)
        have hr' : n - (k + 1) = r := by omega
        go_roundw
        case rel => exact ⟨k + 1, o ++ X, by omega, by simp; omega, by go_num, by simp, by rw [List.length_append, hP, hr']; exact Heq.out, by rw [hr']; exact Heq2.out, hbB.alloc hbB.size _⟩
        case measure => simp [intOf]; omega
      · obtain rfl : k = n := by omega
        go_wp2
        go_ret2
        refine ⟨⟨.nilIface, ?_, ?_⟩, hb⟩
        · rw [Hz.out, if_pos rfl, heq2, Nat.sub_self]; rfl
        · rw [Hz.out]; exact .nil
  · have hn0 : AhsWrPost I n w = fun e w' => (∃ er, e = .returned (.tuple #[.string (bs []), er]) ∧ ErrIs w' er (ahsW I n 0 0).1 (ahsW I n 0 0).2) ∧ Below w.heap.size w w' := by
      funext e w'; unfold AhsWrPost; rw [if_neg hz]
    rw [hn0]; clear hn0
    generalize (ahsW I n 0 0).1 = er1 at *
    generalize (ahsW I n 0 0).2 = er2 at *
    clear h
    go_enter Tryz.func75, Tryz.ntmps75
    go_wp2_with fail
    refine (c1 _ hb0).out.mono ?_; rintro e w1 ⟨⟨er, rfl, her⟩, hb1⟩
    have Her := hid her
    cases her with
    | nil => exact absurd rfl hz
    | bare k h =>
      go_wp2
      go_ret2
      exact ⟨⟨_, rfl, Her.out⟩, hb1⟩
    | at_ k h pl b h0 h1 =>
      clear h0 h1
      go_wp2
      go_ret2
      exact ⟨⟨_, rfl, Her.out⟩, hb1⟩
end Go.Proofs.YtejbigoacknfoaaGreatDoor
